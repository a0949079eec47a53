/- THE LAW WalCrashes: whenever the power goes, the records are those that were answered, and perhaps the one that wasn't; a Truncate that wasn't answered happened, or not. -/
import Derived.Test.YtnonhmjfhcmpgaaDoorWalTab
import Derived.Test.YtnonhmjfhcmpgaaDoorWalM
import Derived.Test.YtnonhmjfhcmpgaaDoorWalN
import Derived.Deep.CutRange
import Derived.Deep.CutBlock
namespace Go.Proofs.YtnonhmjfhcmpgaaDoor.walCrashes
open Go.ChangeShapes Go.WideShapes Go.ChangeAt Go.RowKit Go.ChangeMaps

/-- Between two calls: a log in order, and the row of its records' texts. -/
def SC (W w : World) (d g : Nat) (ho : Option Addr) (recs : List (List UInt8)) (n : Nat) : Prop :=
  ∃ s l, SysX W w d g s l (fun j => blk ho = some j) ∧ PL s l recs ∧ s.steps ≤ 100 + 20 * n ∧ l.age ≤ n + 1 ∧ At w ho (strsV recs)

theorem sc_mk {W w : World} {d g : Nat} {s : DS} {l : LS} {X : Nat → Prop} {ho : Option Addr} {recs : List (List UInt8)} {n : Nat} (h : SysX W w d g s l X) (hX : ∀ j, blk ho = some j → X j) (hp : PL s l recs) (hs : s.steps ≤ 100 + 20 * (n + 1)) (ha : l.age ≤ n + 1 + 1) (hat : At w ho (strsV recs)) : SC W w d g ho recs (n + 1) :=
  ⟨s, l, h.grow _ (Below.refl _ _) (fun j hj => .inl (hX j hj)), hp, hs, ha, hat⟩
/-- Behind a call: it was answered (0: the records are recs2), or there was no room (7), or the power went (8). -/
def Mid (W w : World) (d g : Nat) (X : Nat → Prop) (recs recs2 : List (List UInt8)) (n e : Nat) : Prop :=
  ∃ s l, SysX W w d g s l X ∧ s.steps ≤ 100 + 20 * (n + 1) ∧ s.W.length ≤ 100 ∧ (e = 0 ∧ PL s l recs2 ∧ l.age ≤ n + 2 ∨ e = 7 ∧ PL s l recs ∧ l.age ≤ n + 2 ∨ e = 8 ∧ ∀ P, (∃ la, PL (s.crash P) la recs ∧ la.age ≤ n + 2) ∨ ∃ lb, PL (s.crash P) lb recs2 ∧ lb.age ≤ n + 2)

set_option maxRecDepth 100000 in
set_option maxHeartbeats 20000000 in
theorem walk (ao : Option Addr) (cap : Nat) (es : List (Int × List UInt8 × Int)) (hlen : es.length ≤ 9223372036854775807) (c : Int) (po : Option Addr) (pcap : Nat) (P : List Int) (hP : P.length ≤ 9223372036854775807) (W : World) (hB0 : 0 < W.heap.size) (hes : EntsAt W ao es) (hpa : At W po (P.map (Value.int .i64))) (ht : Tab W) :
    Calls Tryd.prog 5 #[.agg #[.slice ao es.length cap, .int .i64 c, .slice po P.length pcap]] W (Says W (.bool true)) := by
  have HT := Lib.hid ht
  have HE := Lib.hid hes
  have HPA := Lib.hid hpa
  have HPW := Lib.hid (fun (hne : P ≠ []) (j : Nat) (hj : blk po = some j) => show j < W.heap.size from by
    obtain ⟨j', hj', hlt'⟩ := hpa.lt (by simpa using hne)
    rw [hj] at hj'
    cases hj'
    exact hlt')
  clear hes ht hpa
  obtain ⟨r, hr, hre⟩ : ∃ r : Nat, r < 40 ∧ wrap64 ((IntKind.u64.wrap c).tmod 40) = (r : Int) := cutmod0 c 40 (by decide) (by decide)
  go_enter Tryd.func5, Tryd.ntmps5
  go_wp2_with fail
  obtain ⟨W1, hW1⟩ : ∃ W1, W1 = W.alloc (Obj.cells #[.slice ao es.length cap, .int .i64 c, .slice po P.length pcap] 47) := ⟨_, rfl⟩
  rw [← hW1]
  have hb01 : Below W.heap.size W W1 := by rw [hW1]; exact (Below.refl _ W).alloc (Nat.le_refl _) _
  have hs01 : W.heap.size < W1.heap.size := by rw [hW1]; simp
  have hrow : W1.heap[W.heap.size]? = some (.cells #[.slice ao es.length cap, .int .i64 c, .slice po P.length pcap] 47 (0, 0)) := by rw [hW1]; exact heap_alloc_new W _
  have HB0 := Lib.hid hb01
  have n0 : W1.cell? ⟨W.heap.size, 0, none⟩ = some (.slice ao es.length cap) := cell_of_row _ _ 0 _ _ (0, 0) hrow
  have n1 : W1.cell? ⟨W.heap.size, 1, none⟩ = some (.int .i64 c) := cell_of_row _ _ 1 _ _ (0, 0) hrow
  have n2 : W1.cell? ⟨W.heap.size, 2, none⟩ = some (.slice po P.length pcap) := cell_of_row _ _ 2 _ _ (0, 0) hrow
  have HN := Lib.hid (And.intro n0 (And.intro n1 n2))
  have HT1 := Lib.hid (HT.out.below hb01)
  have HE1 := Lib.hid (HE.out.below hb01)
  have HP1 := Lib.hid (HPA.out.below hb01)
  have HPW1 := Lib.hid (fun (hne : P ≠ []) (j : Nat) (hj : blk po = some j) => show j < W1.heap.size from Nat.lt_trans (HPW.out hne j hj) hs01)
  have hB1 : 0 < W1.heap.size := by omega
  have hg0 : W.heap.size < W1.heap.size := hs01
  have HG0 := Lib.hid (show W.heap.size < W1.heap.size from hs01)
  obtain ⟨gn, hgn⟩ : ∃ gn, W.heap.size = gn := ⟨_, rfl⟩
  rw [hgn] at HN hg0 ⊢
  clear hW1 hrow n0 n1 n2 hb01 hs01 hgn
  refine (fresh_any W1 hB1 HT1.out).mono ?_
  rintro e w2 ⟨d, g, rfl, hsys1⟩
  have H1 := Lib.hid hsys1
  have hb1 := hsys1.bel
  have hs1 := hb1.size
  have HB1 := Lib.hid hb1
  clear hsys1 hb1
  go_wp2_with fail
  refine (logs_any w2 (by omega) (HT1.out.below HB1.out)).mono ?_
  rintro e w3 ⟨rfl, hb2⟩
  have hs2 := hb2.size
  have H2 := Lib.hid (show SysX W1 w3 d g freshS freshL (fun j => blk none = some j) from (H1.out.below hb2).bare.grow _ (Below.refl _ w3) (fun j hj => by cases hj))
  have m1 : w3.cell? ⟨gn, 1, none⟩ = some (.int .i64 c) := (World.cell?_of_block (a := ⟨gn, 1, none⟩) (H2.out.bel.block gn hg0)).trans HN.out.2.1
  clear hb2
  go_wp2_with fail
  rw [hre]
  clear m1 hre
  refine (arm_sysX H2.out r (by omega)).mono ?_
  rintro e w4 ⟨⟨v, rfl⟩, h4, _⟩
  have hs4 := h4.bel.size
  have H4 := Lib.hid (show SC W1 w4 d g none [] 0 from ⟨_, _, h4, freshP.1.armed _, by have := freshP.2.2; simp only; omega, by decide, At.nil _ _⟩)
  clear h4
  go_wp2_with fail
  go_loopw [4, 6, 7] (fun v4 v6 v7 wr => ∃ (i g : Nat) (ho : Option Addr) (hcap : Nat) (recs : List (List UInt8)), i ≤ 24 ∧ i ≤ es.length ∧ v7 = .int .i64 (i : Int) ∧ v4 = .pointer (some ⟨g, 0, none⟩) ∧ v6 = .slice ho recs.length hcap ∧ SC W1 wr d g ho recs i) (fun _ _ v7 _ => 24 - (intOf v7).toNat)
  case atStart => exact ⟨0, g, none, 0, [], by omega, by omega, rfl, rfl, rfl, H4.out⟩
  case round =>
    obtain ⟨i, g, ho, hcap, recs, hi24, hil, rfl, rfl, rfl, s, l, hsys, hpl, hsteps, hage, hat⟩ := hrel
    have HR := Lib.hid (And.intro hsys (And.intro hpl (And.intro hsteps (And.intro hage hat))))
    have hbel := hsys.bel
    have hszr := hbel.size
    have HBr := Lib.hid hbel
    have hnx := hpl.next
    have hcnt := hpl.cnt
    have hff := hpl.f
    have hWl := hpl.W
    have hrb := hpl.inv.two
    have hle := hpl.inv.le
    have HNN := Lib.hid (And.intro hnx (And.intro hcnt (And.intro hff (And.intro hWl (And.intro hage (And.intro hsteps (And.intro hrb hle)))))))
    have hrl : recs.length ≤ 12 := by omega
    clear hsys hpl hsteps hage hat hbel hnx hcnt hff hWl hrb hle
    have m0 : wr.cell? ⟨gn, 0, none⟩ = some (.slice ao es.length cap) := (World.cell?_of_block (a := ⟨gn, 0, none⟩) (HBr.out.block gn hg0)).trans HN.out.1
    by_cases hc1 : i < es.length ∧ i < 24
    · obtain ⟨hlt, hlt5⟩ := hc1
      have hd1 : decide ((i : Int) < (es.length : Int)) = true := decide_eq_true (by omega)
      have hd2 : decide ((i : Int) < 24) = true := decide_eq_true (by omega)
      obtain ⟨eb, eo, bo, bcap, rfl, q0, q1, q2, hbc, hbm, hbat0, hq0, hq1, hq2, hq3⟩ := HE1.out i hlt
      replace q0 := (World.cell?_of_block (a := ⟨eb, eo + i * 3, none⟩) (HBr.out.block eb (World.block_lt_of_cell? (a := ⟨eb, eo + i * 3, none⟩) W1 q0))).trans q0
      replace q1 := (World.cell?_of_block (a := ⟨eb, eo + i * 3 + 1, none⟩) (HBr.out.block eb (World.block_lt_of_cell? (a := ⟨eb, eo + i * 3 + 1, none⟩) W1 q1))).trans q1
      replace q2 := (World.cell?_of_block (a := ⟨eb, eo + i * 3 + 2, none⟩) (HBr.out.block eb (World.block_lt_of_cell? (a := ⟨eb, eo + i * 3 + 2, none⟩) W1 q2))).trans q2
      have hbat := hbat0.below HBr.out
      obtain ⟨what, hwhat⟩ : ∃ x, es[i].1 = x := ⟨_, rfl⟩
      obtain ⟨b0, hb0⟩ : ∃ x, es[i].2.1 = x := ⟨_, rfl⟩
      obtain ⟨byv, hbyv⟩ : ∃ x, es[i].2.2 = x := ⟨_, rfl⟩
      rw [hwhat] at q0
      rw [hb0] at q1 hbc hbat hbat0
      rw [hbyv] at q2
      clear hwhat hbyv hb0 hq0 hq1 hq2 hq3
      go_upto_region 10 with (fail)
      obtain ⟨wa, hwa⟩ : ∃ wa, wa = wr.alloc (Obj.cells #[.int .i64 what, .slice bo b0.length bcap, .int .i64 byv] 51) := ⟨_, rfl⟩
      rw [← hwa]
      have hrowA : wa.heap[wr.heap.size]? = some (.cells #[.int .i64 what, .slice bo b0.length bcap, .int .i64 byv] 51 (0, 0)) := by rw [hwa]; exact heap_alloc_new wr _
      have hbA : Below wr.heap.size wr wa := by rw [hwa]; exact (Below.refl _ wr).alloc (Nat.le_refl _) _
      have hszA : wr.heap.size < wa.heap.size := by rw [hwa]; simp
      have t0 : wa.cell? ⟨wr.heap.size, 0, none⟩ = some (.int .i64 what) := cell_of_row _ _ 0 _ _ (0, 0) hrowA
      have t1 : wa.cell? ⟨wr.heap.size, 1, none⟩ = some (.slice bo b0.length bcap) := cell_of_row _ _ 1 _ _ (0, 0) hrowA
      have t2 : wa.cell? ⟨wr.heap.size, 2, none⟩ = some (.int .i64 byv) := cell_of_row _ _ 2 _ _ (0, 0) hrowA
      have hsA : SysX W1 wa d g s l (fun j => blk ho = some j ∨ j = wr.heap.size) := HR.out.1.grow _ hbA (fun j hj => by
        rcases hj with h | rfl
        · exact .inl h
        · exact .inr (.inl ⟨Nat.le_refl _, hszA⟩))
      have hatA : At wa ho (strsV recs) := HR.out.2.2.2.2.below hbA
      have HA := Lib.hid (And.intro hsA (And.intro hatA (And.intro t0 (And.intro t1 t2))))
      have HBT := Lib.hid (((hbat.takeB 1500).below hbA))
      have HBW := Lib.hid (fun (hne : b0.take 1500 ≠ []) (j : Nat) (hj : blk bo = some j) => show j < W1.heap.size from by
        obtain ⟨j', hj', hlt'⟩ := (hbat0.takeB 1500).lt (by intro h; apply hne; simpa [bytesV] using h)
        rw [hj] at hj'
        cases hj'
        exact hlt')
      have hbl : (b0.take 1500).length = min b0.length 1500 := by rw [List.length_take]; omega
      obtain ⟨n, hn⟩ : ∃ n, min b0.length 1500 = n := ⟨_, rfl⟩
      rw [hn] at hbl
      have HMIN := Lib.hid (show min ((b0.length : Nat) : Int) 1500 = (n : Int) by omega)
      have hn1 : n ≤ 1500 := by omega
      have hn2 : n ≤ bcap := by omega
      have HL := Lib.hid hbl
      clear hwa hrowA hbA t0 t2 m0 q0 q1 q2 hsA hatA hbat hbat0 hbl hn
      generalize b0.take 1500 = b at *
      have hszw : wr.heap.size < wa.heap.size := hszA
      clear hszA
      generalize hgt : wr.heap.size = gt at *
      go_upto_region 11 with (refine op_min2 rfl _ _ _ rfl .i64 _ _ (n : Int) rfl rfl HMIN.out ?_)
      clear t1
      go_cut [10] from 35 to 116 (fun v10 w' => ∃ no ncap, v10 = .slice no (recs.length + 1) ncap ∧ At w' no (strsV (recs ++ [b])) ∧ (∀ j, blk no = some j → wa.heap.size ≤ j ∧ j < w'.heap.size) ∧ Below wa.heap.size wa w')
      case first =>
        refine seqx_start (fun j => wa.heap.size ≤ j) (by kernel_rfl) ?_
        refine seqx_take 1 (v := ?_) rfl (by kernel_rfl) (fun _ _ _ h => h) (by rfl) (fun w' hw' => ?_) ?_
        rotate_left
        · go_simp; try with_reducible rfl
        try simp only [List.getElem_toArray, List.getElem_cons_succ, List.getElem_cons_zero, Act.put, List.setIfInBounds_toArray, List.set_cons_zero, List.set_cons_succ]
        refine seqx_take 3 (v := ?_) rfl (by kernel_rfl) (fun _ _ _ h => h) (by rfl) (fun w' hw' => ?_) ?_
        rotate_left
        · go_simp; try with_reducible rfl
        try simp only [List.getElem_toArray, List.getElem_cons_succ, List.getElem_cons_zero, Act.put, List.setIfInBounds_toArray, List.set_cons_zero, List.set_cons_succ]
        have hnb : n = b.length := HL.out.symm
        have HBD := Lib.hid (show At wa.drew bo (bytesV b) from HBT.out)
        have HBX := Lib.hid (show ∀ j, blk bo = some j → bytesV b ≠ [] → ¬ wa.heap.size ≤ j from fun j hj hne => by have := HBW.out (by rintro rfl; exact hne rfl) j hj; omega)
        refine seqx_take 4 rfl (by kernel_rfl) (fun _ _ _ h => h) (by rfl) (fun w' hw' => (seq_conv rfl rfl (At.keeps (HBD.out) hw' (by exact HBX.out)) (by first | rfl | assumption | (symm; assumption) | simp)) w' (Below.refl _ _)) ?_
        try simp only [List.getElem_toArray, List.getElem_cons_succ, List.getElem_cons_zero, Act.put, List.setIfInBounds_toArray, List.set_cons_zero, List.set_cons_succ]
        clear hnb
        refine seqx_two 0 5 rfl rfl (by kernel_rfl) (by rfl) (by rfl) (fun KK hKK => ?_) (fun KK hKK => ?_)
        · go_wp2_with fail
          have hown0 : (wa.alloc (.cells #[] 9)).drew.ownsRow wa.heap.size 9 1 (.slice (some ⟨wa.heap.size, 0, none⟩) 0 0) 0 (strsV []) := World.ownsRow_lit wa #[] 0 (Nat.le_refl _) (by decide) rfl
          have hb0 : Below wa.heap.size wa (wa.alloc (.cells #[] 9)).drew := ((Below.refl _ wa).alloc (Nat.le_refl _) _).drew
          have S0 := Lib.hid (And.intro hown0 (And.intro hb0 (show wa.heap.size < (wa.alloc (.cells #[] 9)).drew.heap.size by simp)))
          refine ⟨⟨hb0.os, hb0.tape, hb0.output, hb0.size, fun k hk _ => hb0.block k hk⟩, ?_⟩
          clear hown0 hb0
          generalize (wa.alloc (.cells #[] 9)).drew = wb at *
          refine seqx_two 2 5 rfl rfl (by kernel_rfl) (by rfl) (by rfl) (fun KK hKK => ?_) (fun KK hKK => ?_)
          · refine wp_strs _ _ rfl wa.heap.size (some ⟨wa.heap.size, 0, none⟩) 0 0 [] rfl S0.out.1 ho recs.length hcap recs rfl (HA.out.2.1.below S0.out.2.1) rfl (by omega) S0.out.2.1.size ?_
            rintro no ncap wc q1 q2 q3
            have S1 := Lib.hid (And.intro q1 (S0.out.2.1.trans (below_grown S0.out.1 S0.out.2.1.size q2)))
            refine hKK _ _ ⟨Keeps.of_grown' q2 (fun q hq => (S0.out.1.lt q (by rw [own_slice]; exact hq)).1), ?_⟩
            clear q1 q2 q3
            simp only [Nat.zero_add, List.nil_append] at S1 ⊢
            refine seqx_run 5 rfl (by kernel_rfl) (by rfl) (fun KK hKK => ?_)
            go_wp2_with fail
            have S := Lib.hid (And.intro (S1.out.1.alloc (.cells #[strV b] 9)) (And.intro (S1.out.2.trans ((Below.refl _ wc).alloc S1.out.2.size (.cells #[strV b] 9))) (And.intro trivial (show At _ (some ⟨wc.heap.size, 0, none⟩) (strsV [b]) from At.new wc #[strV b] 9))))
            refine ⟨Keeps.of_below ((Below.refl _ wc).alloc (Nat.le_refl _) _), ?_⟩
            refine seqx_run 6 rfl (by kernel_rfl) (by rfl) (fun KK hKK => ?_)
            refine wp_strs _ _ rfl wa.heap.size no ncap recs.length recs rfl S.out.1 _ 1 1 [b] rfl S.out.2.2.2 rfl (by omega) S.out.2.1.size ?_
            rintro no2 ncap2 wz z1 z2 z3
            have Z := Lib.hid (And.intro z1 (S.out.2.1.trans (below_grown S.out.1 S.out.2.1.size z2)))
            refine hKK _ _ ⟨Keeps.of_grown' z2 (fun q hq => (S.out.1.lt q (by rw [own_slice]; exact hq)).1), ?_⟩
            clear z1 z2 z3
            refine seqx_take 7 (v := ?_) rfl (by kernel_rfl) (fun _ _ _ h => h) (by rfl) (fun w' hw' => ?_) ?_
            rotate_left
            · go_simp; try with_reducible rfl
            try simp only [List.getElem_toArray, List.getElem_cons_succ, List.getElem_cons_zero, Act.put, List.setIfInBounds_toArray, List.set_cons_zero, List.set_cons_succ]
            refine seqx_done (by kernel_rfl) ?_
            go_wp2_with fail
            go_meet
            case rel => exact ⟨no2, ncap2, rfl, At.own Z.out.1, fun j hj => Z.out.1.lt j (by rw [own_slice]; exact hj), Z.out.2⟩
          · go_wp2_with fail
            have S1 := Lib.hid (And.intro (S0.out.1.alloc (.cells #[strV b] 9)) (And.intro (S0.out.2.1.trans ((Below.refl _ wb).alloc S0.out.2.1.size (.cells #[strV b] 9))) (show At _ (some ⟨wb.heap.size, 0, none⟩) (strsV [b]) from At.new wb #[strV b] 9)))
            refine ⟨Keeps.of_below ((Below.refl _ wb).alloc (Nat.le_refl _) _), ?_⟩
            change SeqX _ _ _ _ _ _ _ (wb.alloc (.cells #[strV b] 9))
            generalize (wb.alloc (.cells #[strV b] 9)) = wc at *
            refine seqx_run 2 rfl (by kernel_rfl) (by rfl) (fun KK hKK => ?_)
            refine wp_strs _ _ rfl wa.heap.size (some ⟨wa.heap.size, 0, none⟩) 0 0 [] rfl S1.out.1 ho recs.length hcap recs rfl (HA.out.2.1.below S1.out.2.1) rfl (by omega) S1.out.2.1.size ?_
            rintro no ncap ws q1 q2 q3
            simp only [Nat.zero_add, List.nil_append] at q1 ⊢
            have S := Lib.hid (And.intro q1 (And.intro (S1.out.2.1.trans (below_grown S1.out.1 S1.out.2.1.size q2)) (And.intro trivial (S1.out.2.2.keeps (Keeps.of_grown' (X := fun j => j = wa.heap.size) q2 (fun q hq => by cases hq; rfl)) (fun j hj _ (hx : j = _) => by have hj' : wb.heap.size = j := Option.some.inj hj; have := S0.out.2.2; omega)))))
            refine hKK _ _ ⟨Keeps.of_grown' q2 (fun q hq => (S1.out.1.lt q (by rw [own_slice]; exact hq)).1), ?_⟩
            clear q1 q2 q3
            refine seqx_run 6 rfl (by kernel_rfl) (by rfl) (fun KK hKK => ?_)
            refine wp_strs _ _ rfl wa.heap.size no ncap recs.length recs rfl S.out.1 _ 1 1 [b] rfl S.out.2.2.2 rfl (by omega) S.out.2.1.size ?_
            rintro no2 ncap2 wz z1 z2 z3
            have Z := Lib.hid (And.intro z1 (S.out.2.1.trans (below_grown S.out.1 S.out.2.1.size z2)))
            refine hKK _ _ ⟨Keeps.of_grown' z2 (fun q hq => (S.out.1.lt q (by rw [own_slice]; exact hq)).1), ?_⟩
            clear z1 z2 z3
            refine seqx_take 7 (v := ?_) rfl (by kernel_rfl) (fun _ _ _ h => h) (by rfl) (fun w' hw' => ?_) ?_
            rotate_left
            · go_simp; try with_reducible rfl
            try simp only [List.getElem_toArray, List.getElem_cons_succ, List.getElem_cons_zero, Act.put, List.setIfInBounds_toArray, List.set_cons_zero, List.set_cons_succ]
            refine seqx_done (by kernel_rfl) ?_
            go_wp2_with fail
            go_meet
            case rel => exact ⟨no2, ncap2, rfl, At.own Z.out.1, fun j hj => Z.out.1.lt j (by rw [own_slice]; exact hj), Z.out.2⟩
        · go_wp2_with fail
          have hb0 : Below wa.heap.size wa (wa.alloc (.cells #[strV b] 9)).drew := ((Below.refl _ wa).alloc (Nat.le_refl _) _).drew
          have S0 := Lib.hid (And.intro (show At (wa.alloc (.cells #[strV b] 9)).drew (some ⟨wa.heap.size, 0, none⟩) (strsV [b]) from At.new wa #[strV b] 9) (And.intro hb0 (show wa.heap.size < (wa.alloc (.cells #[strV b] 9)).drew.heap.size by simp)))
          refine ⟨⟨hb0.os, hb0.tape, hb0.output, hb0.size, fun k hk _ => hb0.block k hk⟩, ?_⟩
          clear hb0
          change SeqX _ _ _ _ _ _ _ (wa.alloc (.cells #[strV b] 9)).drew
          generalize (wa.alloc (.cells #[strV b] 9)).drew = wb at *
          refine seqx_run 0 rfl (by kernel_rfl) (by rfl) (fun KK hKK => ?_)
          go_wp2_with fail
          have S1 := Lib.hid (And.intro (show (wb.alloc (.cells #[] 9)).ownsRow wa.heap.size 9 1 (.slice (some ⟨wb.heap.size, 0, none⟩) 0 0) 0 (strsV []) from owns_mono (World.ownsRow_lit wb #[] 0 (Nat.le_refl _) (by decide) rfl) S0.out.2.1.size) (And.intro (S0.out.2.1.trans ((Below.refl _ wb).alloc S0.out.2.1.size (.cells #[] 9))) (S0.out.1.below ((Below.refl _ wb).alloc (Nat.le_refl _) (.cells #[] 9)))))
          refine ⟨Keeps.of_below ((Below.refl _ wb).alloc (Nat.le_refl _) _), ?_⟩
          generalize (wb.alloc (.cells #[] 9)) = wc at *
          refine seqx_run 2 rfl (by kernel_rfl) (by rfl) (fun KK hKK => ?_)
          refine wp_strs _ _ rfl wa.heap.size (some ⟨wb.heap.size, 0, none⟩) 0 0 [] rfl S1.out.1 ho recs.length hcap recs rfl (HA.out.2.1.below S1.out.2.1) rfl (by omega) S1.out.2.1.size ?_
          rintro no ncap ws q1 q2 q3
          simp only [Nat.zero_add, List.nil_append] at q1 ⊢
          have S := Lib.hid (And.intro q1 (And.intro (S1.out.2.1.trans (below_grown S1.out.1 S1.out.2.1.size q2)) (And.intro trivial (S1.out.2.2.keeps (Keeps.of_grown' (X := fun j => j = wb.heap.size) q2 (fun q hq => by cases hq; rfl)) (fun j hj _ (hx : j = _) => by have hj' : wa.heap.size = j := Option.some.inj hj; have := S0.out.2.2; omega)))))
          refine hKK _ _ ⟨Keeps.of_grown' q2 (fun q hq => (S1.out.1.lt q (by rw [own_slice]; exact hq)).1), ?_⟩
          clear q1 q2 q3
          refine seqx_run 6 rfl (by kernel_rfl) (by rfl) (fun KK hKK => ?_)
          refine wp_strs _ _ rfl wa.heap.size no ncap recs.length recs rfl S.out.1 _ 1 1 [b] rfl S.out.2.2.2 rfl (by omega) S.out.2.1.size ?_
          rintro no2 ncap2 wz z1 z2 z3
          have Z := Lib.hid (And.intro z1 (S.out.2.1.trans (below_grown S.out.1 S.out.2.1.size z2)))
          refine hKK _ _ ⟨Keeps.of_grown' z2 (fun q hq => (S.out.1.lt q (by rw [own_slice]; exact hq)).1), ?_⟩
          clear z1 z2 z3
          refine seqx_take 7 (v := ?_) rfl (by kernel_rfl) (fun _ _ _ h => h) (by rfl) (fun w' hw' => ?_) ?_
          rotate_left
          · go_simp; try with_reducible rfl
          try simp only [List.getElem_toArray, List.getElem_cons_succ, List.getElem_cons_zero, Act.put, List.setIfInBounds_toArray, List.set_cons_zero, List.set_cons_succ]
          refine seqx_done (by kernel_rfl) ?_
          go_wp2_with fail
          go_meet
          case rel => exact ⟨no2, ncap2, rfl, At.own Z.out.1, fun j hj => Z.out.1.lt j (by rw [own_slice]; exact hj), Z.out.2⟩
      case rest =>
        obtain ⟨no, ncap, rfl, hno, hnoB, hbc⟩ := hcut
        have hszc := hbc.size
        have hsc : SysX W1 wc d g s l (fun j => blk ho = some j ∨ j = gt ∨ blk no = some j) := HA.out.1.grow _ hbc (fun j hj => by
          rcases hj with h | h | h
          · exact .inl (.inl h)
          · exact .inl (.inr h)
          · exact .inr (.inl (hnoB j h)))
        have c0 : wc.cell? ⟨gt, 0, none⟩ = some (.int .i64 what) := (World.cell?_of_block (a := ⟨gt, 0, none⟩) (hbc.block gt hszw)).trans HA.out.2.2.1
        have c2 : wc.cell? ⟨gt, 2, none⟩ = some (.int .i64 byv) := (World.cell?_of_block (a := ⟨gt, 2, none⟩) (hbc.block gt hszw)).trans HA.out.2.2.2.2
        have HS := Lib.hid (And.intro hsc (And.intro (HA.out.2.1.below hbc) (And.intro hno (And.intro c2 (HBT.out.below hbc)))))
        clear hno hnoB hbc hsc c2
        go_upto_if 67 with (fail)
        clear c0
        go_cut [10, 11] from 35 to 116 (fun v10 v11 w' => ∃ (e : Nat) (no2 : Option Addr) (nc2 : Nat) (recs2 : List (List UInt8)), v11 = .int .i64 (e : Int) ∧ v10 = .slice no2 recs2.length nc2 ∧ recs2.length ≤ 13 ∧ (∀ j, blk no2 = some j → blk no = some j) ∧ At w' no2 (strsV recs2) ∧ Mid W1 w' d g (fun j => blk ho = some j ∨ j = gt ∨ blk no = some j) recs recs2 i e ∧ At w' ho (strsV recs) ∧ w'.cell? ⟨gt, 2, none⟩ = some (.int .i64 byv))
        case first =>
          by_cases hw2 : what = 2
          · subst hw2
            go_wp2_with fail
            obtain ⟨hres, hst, hwl⟩ := trunc_down HR.out.2.1
            have hnn := HNN.out
            refine (truncate_sysX HS.out.1 hB1 HT1.out (by omega) (by rw [hnn.2.2.2.1]; decide) (by omega) (by omega)).mono ?_
            rintro e w5 ⟨rfl, h5, hsty⟩
            generalize truncP l.f s l.age = R at *
            have H5 := Lib.hid (And.intro h5 (And.intro hsty (And.intro hres (And.intro hst (And.intro hwl hnn)))))
            clear h5 hsty hres hst hwl hnn
            go_wp2_with fail
            go_meet
            case rel =>
              obtain ⟨h5, hsty, hres, hst, hwl, hnn⟩ := H5.out
              refine ⟨R.1, none, 0, [], rfl, rfl, by simp, fun j hj => (by cases hj), At.nil _ _, ⟨R.2, truncL l R.1, h5, by omega, by omega, ?_⟩, hsty.at HS.out.2.1 (fun j hj _ => .inl hj), (World.cell?_of_block (a := ⟨gt, 2, none⟩) (hsty.block gt (by omega) (fun h => h (.inr (.inl rfl))))).trans HS.out.2.2.2.1⟩
              rcases hres with ⟨e1, p1⟩ | ⟨e1, _, p1⟩
              · exact .inl ⟨e1, by rw [e1]; exact p1, by rw [e1]; simp only [truncL, if_pos]; omega⟩
              · exact .inr (.inr ⟨e1, fun P => (p1 P).imp (fun h => ⟨l, h, by omega⟩) (fun h => ⟨_, h, by simp only [truncL, if_pos]; omega⟩)⟩)
          · have hd : (what == 2) = false := by simpa using hw2
            go_wp2_with fail
            have hnn := HNN.out
            by_cases hfit : needN b.length ≤ l.cnt - l.at_
            · obtain ⟨hres, hst, hwl⟩ := append_down HR.out.2.1 b (by rw [HL.out]; omega) hfit
              have hnd : needN b.length ≤ 4 := by rw [HL.out]; unfold needN nparts; omega
              refine (append_sysX HS.out.1 (Below.refl _ wc) hB1 HT1.out (by omega) (by rw [hnn.2.2.2.1]; decide) (by omega) (by omega) (by omega) (by omega) bo n bcap b HL.out.symm (by rw [HL.out]; exact hn2) (by rw [HL.out]; omega) HS.out.2.2.2.2 (fun j hj hne => .inl (HBW.out hne j hj)) hfit).mono ?_
              rintro e w5 ⟨rfl, h5, hsty⟩
              generalize appendP l.f s l.at_ l.age l.next b = R at *
              have H5 := Lib.hid (And.intro h5 (And.intro hsty (And.intro hres (And.intro hst (And.intro hwl (And.intro hnn hnd))))))
              clear h5 hsty hres hst hwl hnn hnd hfit
              go_wp2_with fail
              go_meet
              case rel =>
                obtain ⟨h5, hsty, hres, hst, hwl, hnn, hnd⟩ := H5.out
                refine ⟨R.1, no, ncap, recs ++ [b], rfl, by simp, by simp; omega, fun j hj => hj, hsty.at HS.out.2.2.1 (fun j hj _ => .inr (.inr hj)), ⟨R.2, appendL l R.1 b, h5, by omega, by omega, ?_⟩, hsty.at HS.out.2.1 (fun j hj _ => .inl hj), (World.cell?_of_block (a := ⟨gt, 2, none⟩) (hsty.block gt (by omega) (fun h => h (.inr (.inl rfl))))).trans HS.out.2.2.2.1⟩
                rcases hres with ⟨e1, p1⟩ | ⟨e1, _, p1⟩
                · exact .inl ⟨e1, by rw [e1]; exact p1, by rw [e1]; simp only [appendL, if_pos]; omega⟩
                · exact .inr (.inr ⟨e1, fun P => (p1 P).imp (fun h => ⟨l, h, by omega⟩) (fun h => ⟨_, h, by simp only [appendL, if_pos]; omega⟩)⟩)
            · refine (appendFull_any bo n bcap wc HS.out.1.log (by omega) (by omega) (by omega) (by rw [← HL.out]; omega)).mono ?_
              rintro e w5 ⟨rfl, hb5⟩
              have H5 := Lib.hid (And.intro hb5 hnn)
              clear hb5 hnn hfit
              go_wp2_with fail
              go_meet
              case rel =>
                obtain ⟨hb5, hnn⟩ := H5.out
                exact ⟨7, no, ncap, recs ++ [b], rfl, by simp, by simp; omega, fun j hj => hj, HS.out.2.2.1.below hb5, ⟨s, l, HS.out.1.below hb5, by omega, by rw [hnn.2.2.2.1]; simp, .inr (.inl ⟨rfl, HR.out.2.1, by omega⟩)⟩, HS.out.2.1.below hb5, (World.cell?_of_block (a := ⟨gt, 2, none⟩) (hb5.block gt (by omega))).trans HS.out.2.2.2.1⟩
        case rest =>
          obtain ⟨e, no2, nc2, recs2, rfl, rfl, hr13, hsub, hat2, hmid, hato, hcell⟩ := hcut
          obtain ⟨s5, l5, hs5, hst5, hwl5, hm⟩ := hmid
          have hbel5 := hs5.bel
          have hsz5 := hbel5.size
          have H5 := Lib.hid (And.intro hs5 (And.intro hat2 (And.intro hato (And.intro hst5 (And.intro hwl5 (And.intro hsub (And.intro hbel5 hcell)))))))
          clear hs5 hat2 hato hst5 hwl5 hsub hbel5 hcell
          rcases hm with ⟨rfl, hp, hag⟩ | ⟨rfl, hp, hag⟩ | ⟨rfl, hp⟩
          · have HQ := Lib.hid (show SC W1 wc d g no2 recs2 (i + 1) from ⟨s5, l5, H5.out.1.grow _ (Below.refl _ _) (fun j hj => .inl (.inr (.inr (H5.out.2.2.2.2.2.1 j hj)))), hp, H5.out.2.2.2.1, by omega, H5.out.2.1⟩)
            clear hp hag
            go_wp2_with fail
            go_roundw
            case rel => exact ⟨i + 1, g, no2, nc2, recs2, by omega, by omega, by simp, rfl, rfl, HQ.out⟩
            case measure => simp [intOf]; omega
          · have HQ := Lib.hid (show SC W1 wc d g ho recs (i + 1) from ⟨s5, l5, H5.out.1.grow _ (Below.refl _ _) (fun j hj => .inl (.inl hj)), hp, H5.out.2.2.2.1, by omega, H5.out.2.2.1⟩)
            clear hp hag
            go_wp2_with fail
            go_roundw
            case rel => exact ⟨i + 1, g, ho, hcap, recs, by omega, by omega, by simp, rfl, rfl, HQ.out⟩
            case measure => simp [intOf]; omega
          · obtain ⟨recs3, l3, hp3, hl3, hor⟩ : ∃ recs3 l3, PL (s5.crash P) l3 recs3 ∧ l3.age ≤ i + 2 ∧ (recs3 = recs ∨ recs3 = recs2) := by
              rcases hp P with ⟨la, h1, h2⟩ | ⟨lb, h1, h2⟩
              · exact ⟨recs, la, h1, h2, .inl rfl⟩
              · exact ⟨recs2, lb, h1, h2, .inr rfl⟩
            have hrl3 : recs3.length ≤ 13 := by rcases hor with h | h <;> rw [h] <;> omega
            have HP3 := Lib.hid (And.intro hp3 hl3)
            clear hp hp3 hl3
            have m2 : wc.cell? ⟨gn, 2, none⟩ = some (.slice po P.length pcap) := (World.cell?_of_block (a := ⟨gn, 2, none⟩) (H5.out.2.2.2.2.2.2.1.block gn hg0)).trans HN.out.2.2
            go_wp2_with fail
            clear m2
            refine (crash_sysX H5.out.1.own (by have := H5.out.2.2.2.2.1; omega) po pcap P hP (HP1.out.below H5.out.2.2.2.2.2.2.1) (fun b hb hn => .inl (HPW1.out hn b hb))).mono ?_
            rintro e w6 ⟨⟨v6, rfl⟩, h6, hsty6⟩
            have H6 := Lib.hid (And.intro h6 (And.intro (hsty6.at H5.out.2.1 (fun j hj _ => .inr (.inr (H5.out.2.2.2.2.2.1 j hj)))) (And.intro (hsty6.at H5.out.2.2.1 (fun j hj _ => .inl hj)) ((World.cell?_of_block (a := ⟨gt, 2, none⟩) (hsty6.block gt (World.block_lt_of_cell? (a := ⟨gt, 2, none⟩) wc H5.out.2.2.2.2.2.2.2) (fun h => h (.inr (.inl rfl))))).trans H5.out.2.2.2.2.2.2.2))))
            clear h6 hsty6
            go_wp2_with fail
            refine (open_sysX H6.out.1 HT1.out HP3.out.1 (by have := HP3.out.2; omega)).mono ?_
            rintro e w7 ⟨g7, ro, rcap, rfl, h7, hrec, hb67⟩
            have H7 := Lib.hid (And.intro h7 (And.intro hrec (And.intro hb67 (And.intro HP3.out.1 (And.intro HP3.out.2 H5.out.2.2.2.1)))))
            have HR7 := Lib.hid (And.intro (H6.out.2.1.below hb67) (And.intro (H6.out.2.2.1.below hb67) ((World.cell?_of_block (a := ⟨gt, 2, none⟩) (hb67.block gt (World.block_lt_of_cell? (a := ⟨gt, 2, none⟩) w6 H6.out.2.2.2))).trans H6.out.2.2.2)))
            clear h7 hrec hb67
            go_wp2_with fail
            refine (same_any ro recs3.length rcap recs3 rfl (by omega) ho recs.length hcap recs rfl (by omega) w7 H7.out.2.1 HR7.out.2.1).mono ?_
            rintro e w8 ⟨rfl, hb8⟩
            by_cases hq : recs3 = recs
            · subst recs3
              rw [decide_eq_true rfl]
              have H8 := Lib.hid (And.intro (H7.out.1.below hb8) (And.intro (H7.out.2.1.below hb8) (And.intro (HR7.out.2.1.below hb8) ((World.cell?_of_block (a := ⟨gt, 2, none⟩) (hb8.block gt (World.block_lt_of_cell? (a := ⟨gt, 2, none⟩) w7 HR7.out.2.2))).trans HR7.out.2.2))))
              clear hb8
              go_wp2_with fail
              refine (same_any ro recs.length rcap recs rfl (by omega) ho recs.length hcap recs rfl (by omega) w8 H8.out.2.1 H8.out.2.2.1).mono ?_
              rintro e w9 ⟨rfl, hb9⟩
              rw [decide_eq_true rfl]
              have H9 := Lib.hid (And.intro (H8.out.1.below hb9) (And.intro (H8.out.2.2.1.below hb9) (And.intro trivial ((World.cell?_of_block (a := ⟨gt, 2, none⟩) (hb9.block gt (World.block_lt_of_cell? (a := ⟨gt, 2, none⟩) w8 H8.out.2.2.2))).trans H8.out.2.2.2))))
              clear hb9
              have m9 := H9.out.2.2.2
              obtain ⟨q, hq12, hqe⟩ : ∃ q : Nat, q < 12 ∧ wrap64 ((IntKind.u64.wrap byv).tmod 12) = (q : Int) := cutmod0 byv 12 (by decide) (by decide)
              go_wp2_with fail
              rw [hqe]
              clear hqe m9
              refine (arm_sysX H9.out.1 q (by omega)).mono ?_
              rintro e w10 ⟨⟨v10, rfl⟩, h10, hsty10⟩
              have hq3 := H7.out.2.2.2.2.2
              have hl3 := H7.out.2.2.2.2.1
              have hpl3 := H7.out.2.2.2.1
              have HQ := Lib.hid (sc_mk h10 (fun j hj => .inl hj) (hpl3.armed _) hq3 (by omega) (hsty10.at H9.out.2.1 (fun j hj _ => .inl hj)))
              clear h10 hsty10 hq3 hl3
              go_wp2_with fail
              go_roundw
              case rel => exact ⟨i + 1, g7, ho, hcap, recs, by omega, by omega, by simp, rfl, rfl, HQ.out⟩
              case measure => simp [intOf]; omega
            · have hq2 : recs3 = recs2 := hor.resolve_left hq
              subst recs3
              rw [decide_eq_false hq]
              have H8 := Lib.hid (And.intro (H7.out.1.below hb8) (And.intro (H7.out.2.1.below hb8) (And.intro (HR7.out.2.1.below hb8) (And.intro (HR7.out.1.below hb8) ((World.cell?_of_block (a := ⟨gt, 2, none⟩) (hb8.block gt (World.block_lt_of_cell? (a := ⟨gt, 2, none⟩) w7 HR7.out.2.2))).trans HR7.out.2.2)))))
              clear hb8
              go_wp2_with fail
              refine (same_any ro recs2.length rcap recs2 rfl (by omega) no2 recs2.length nc2 recs2 rfl (by omega) w8 H8.out.2.1 H8.out.2.2.2.1).mono ?_
              rintro e w8b ⟨rfl, hb8⟩
              rw [decide_eq_true rfl]
              have H8b := Lib.hid (And.intro (H8.out.1.below hb8) (And.intro (H8.out.2.1.below hb8) (And.intro (H8.out.2.2.1.below hb8) (And.intro (H8.out.2.2.2.1.below hb8) ((World.cell?_of_block (a := ⟨gt, 2, none⟩) (hb8.block gt (World.block_lt_of_cell? (a := ⟨gt, 2, none⟩) w8 H8.out.2.2.2.2))).trans H8.out.2.2.2.2)))))
              clear hb8
              go_wp2_with fail
              refine (same_any ro recs2.length rcap recs2 rfl (by omega) ho recs.length hcap recs rfl (by omega) w8b H8b.out.2.1 H8b.out.2.2.1).mono ?_
              rintro e w9 ⟨rfl, hb9⟩
              rw [decide_eq_false hq]
              have H9 := Lib.hid (And.intro (H8b.out.1.below hb9) (And.intro (H8b.out.2.2.2.1.below hb9) (And.intro trivial ((World.cell?_of_block (a := ⟨gt, 2, none⟩) (hb9.block gt (World.block_lt_of_cell? (a := ⟨gt, 2, none⟩) w8b H8b.out.2.2.2.2))).trans H8b.out.2.2.2.2))))
              clear hb9
              have m9 := H9.out.2.2.2
              obtain ⟨q, hq12, hqe⟩ : ∃ q : Nat, q < 12 ∧ wrap64 ((IntKind.u64.wrap byv).tmod 12) = (q : Int) := cutmod0 byv 12 (by decide) (by decide)
              go_wp2_with fail
              rw [hqe]
              clear hqe m9
              refine (arm_sysX H9.out.1 q (by omega)).mono ?_
              rintro e w10 ⟨⟨v10, rfl⟩, h10, hsty10⟩
              have hq3 := H7.out.2.2.2.2.2
              have hl3 := H7.out.2.2.2.2.1
              have hpl3 := H7.out.2.2.2.1
              have HQ := Lib.hid (sc_mk h10 (fun j hj => .inr (.inr (H5.out.2.2.2.2.2.1 j hj))) (hpl3.armed _) hq3 (by omega) (hsty10.at H9.out.2.1 (fun j hj _ => .inr (.inr (H5.out.2.2.2.2.2.1 j hj)))))
              clear h10 hsty10 hq3 hl3
              go_wp2_with fail
              go_roundw
              case rel => exact ⟨i + 1, g7, no2, nc2, recs2, by omega, by omega, by simp, rfl, rfl, HQ.out⟩
              case measure => simp [intOf]; omega
    · have hcases : ¬ i < es.length ∨ (i < es.length ∧ ¬ i < 24) := by omega
      clear hc1
      rcases hcases with hc | ⟨hc, hc5⟩
      · have hd1 : decide ((i : Int) < (es.length : Int)) = false := decide_eq_false (by omega)
        go_wp2_with fail
        refine (crash_sysX HR.out.1.own (by have := HNN.out.2.2.2.1; rw [this]; decide) none 0 [] (by decide) (At.nil _ _) (fun b hb hn => by cases hb)).mono ?_
        rintro e w6 ⟨⟨v6, rfl⟩, h6, hsty6⟩
        have H6 := Lib.hid (And.intro h6 (hsty6.at HR.out.2.2.2.2 (fun j hj _ => hj)))
        clear h6 hsty6
        go_wp2_with fail
        have hnn := HNN.out
        refine (open_sysX H6.out.1 HT1.out (HR.out.2.1.crash []) (by omega)).mono ?_
        clear hnn
        rintro e w7 ⟨g7, ro, rcap, rfl, h7, hrec, hb67⟩
        have H7 := Lib.hid (And.intro h7 (And.intro hrec (H6.out.2.below hb67)))
        clear h7 hrec hb67
        go_wp2_with fail
        refine (same_any ro recs.length rcap recs rfl (by omega) ho recs.length hcap recs rfl (by omega) w7 H7.out.2.1 H7.out.2.2).mono ?_
        rintro e w8 ⟨rfl, hb8⟩
        rw [decide_eq_true rfl]
        have H8 := Lib.hid (HB0.out.trans ((H7.out.1.below hb8).bel.mono (Nat.le_of_lt HG0.out)))
        clear hb8
        go_wp2_with fail
        go_returns
        exact ⟨rfl, H8.out⟩
      · have hd1 : decide ((i : Int) < (es.length : Int)) = true := decide_eq_true (by omega)
        have hd2 : decide ((i : Int) < 24) = false := decide_eq_false (by omega)
        go_wp2_with fail
        refine (crash_sysX HR.out.1.own (by have := HNN.out.2.2.2.1; rw [this]; decide) none 0 [] (by decide) (At.nil _ _) (fun b hb hn => by cases hb)).mono ?_
        rintro e w6 ⟨⟨v6, rfl⟩, h6, hsty6⟩
        have H6 := Lib.hid (And.intro h6 (hsty6.at HR.out.2.2.2.2 (fun j hj _ => hj)))
        clear h6 hsty6
        go_wp2_with fail
        have hnn := HNN.out
        refine (open_sysX H6.out.1 HT1.out (HR.out.2.1.crash []) (by omega)).mono ?_
        clear hnn
        rintro e w7 ⟨g7, ro, rcap, rfl, h7, hrec, hb67⟩
        have H7 := Lib.hid (And.intro h7 (And.intro hrec (H6.out.2.below hb67)))
        clear h7 hrec hb67
        go_wp2_with fail
        refine (same_any ro recs.length rcap recs rfl (by omega) ho recs.length hcap recs rfl (by omega) w7 H7.out.2.1 H7.out.2.2).mono ?_
        rintro e w8 ⟨rfl, hb8⟩
        rw [decide_eq_true rfl]
        have H8 := Lib.hid (HB0.out.trans ((H7.out.1.below hb8).bel.mono (Nat.le_of_lt HG0.out)))
        clear hb8
        go_wp2_with fail
        go_returns
        exact ⟨rfl, H8.out⟩

theorem own : ownKnob Tryd.prog.godebug = none := by kernel_rfl
theorem laidOut : laidOutB Tryd.prog = true := by kernel_rfl
theorem readable : ∀ t ∈ Tryd.f5.params.toList, Tryd.prog.readableRec t = true ∧ t < Tryd.prog.types.size := by
  rw [Tryd.params5]
  intro t ht
  simp at ht
  subst ht
  exact ⟨by kernel_rfl, of_decide_eq_true (by kernel_rfl)⟩

theorem laid_met (os : Os) : laidMet Tryd.prog Rows.walCrashesRow.laid ((laidWorld os).forCall (fun _ _ => 0) ⟨#[], #[.agg #[.slice none 0 0, .int .i64 0, .slice none 0 0]], []⟩).memory :=
  laidMet_of_run' 8 (by kernel_rfl) (by kernel_rfl)
theorem reads (os : Os) {H : Type} (enc : TypeId × Value → H) : DataW.whole enc Tryd.prog ((laidWorld os).forCall (fun _ _ => 0) ⟨#[], #[.agg #[.slice none 0 0, .int .i64 0, .slice none 0 0]], []⟩).memory Tryd.f5.params.toList Rows.walCrashesSpec.vars false (#[.agg #[.slice none 0 0, .int .i64 0, .slice none 0 0]] : Array Value).toList 8 = some ([.agg [.nil, .lit (.int .i64 0), .nil]], [], []) := by kernel_rfl
set_option maxRecDepth 100000 in
theorem lifted (os : Os) (started : os.Started) (H : Type) (enc : TypeId × Value → H) (F : Stop.Interp) :
    ReturnsInHanded {} Tryd.checked os 5 .any ((OpenSpec.ofChange Rows.walCrashesSpec).preRow enc Tryd.prog Tryd.f5 Rows.walCrashesRow.domain false Rows.walCrashesRow.laid) (((OpenSpec.ofChange Rows.walCrashesSpec).at F).post enc Tryd.prog Tryd.f5 false true false false) := by
  have hx := reads os enc
  refine returnsInHanded_of_row (C := Tryd.checked) (s := OpenSpec.ofChange Rows.walCrashesSpec) own started (by kernel_rfl) Tryd.func5
    (witness_row_at (enc := enc) (C := Tryd.checked) false (laidWorld os) #[.agg #[.slice none 0 0, .int .i64 0, .slice none 0 0]] rfl (by kernel_rfl) (by kernel_rfl) (by kernel_rfl)
      (OpenSpec.preRow_of_cond 8 hx (by kernel_rfl) (fun k hk => by cases hk) (by kernel_rfl) (laid_met os))) ?_
  intro W base args ds gs before hval0 hW _ _ _ hL _ _
  have ht : Tab W := table_of hL
  have hval : ∀ (j : Nat) t v, Tryd.f5.params[j]? = some t → args[j]? = some v → Value.okWide Tryd.prog W .any base t v := hval0
  have hW' := hW
  obtain ⟨p, q, hA0, hV, rfl, hfz, hnd⟩ := hW
  have hA : DataW.TrodAll enc Tryd.prog W 0 (fun _ => true) true Tryd.f5.params.toList args.toList ds p := hA0
  rw [Tryd.params5] at hA hval
  obtain ⟨v0, d0, rfl, rfl, h0⟩ := trodAll_one hA
  obtain ⟨rfl, rfl⟩ := trodVars_none hV
  obtain ⟨ao, cap, es, c, po, pcap, l, rfl, hc, hm, hes, hpc, hpm, hpat⟩ := open_night Tryd.underlying47 (by kernel_rfl) (by kernel_rfl) (by kernel_rfl) (by kernel_rfl) Tryd.underlying45 Tryd.underlying44 (by kernel_rfl) Tryd.underlying51 (by kernel_rfl) Tryd.underlying3 Tryd.underlying22 Tryd.underlying5 cellsU8 (by kernel_rfl) (by kernel_rfl) (hval 0 47 v0 rfl rfl) h0
  refine (walk ao cap es (by omega) c po pcap l (by omega) W (World.block_lt_of_cell? (a := ⟨0, 0, none⟩) W (ht 0 (by decide))) hes hpat ht).mono fun e W' ⟨he, hb⟩ => ?_
  subst he
  exact ⟨_, rfl, post_law laidOut rfl rfl Tryd.underlying4 readable rfl rfl rfl hW' hb⟩

theorem said : Rows.WalCrashesSaid :=
  OpenClaim.holds_of_cond 5 Tryd.f5 rfl rfl rfl rfl rfl rfl rfl ⟨rfl, rfl, rfl, rfl, rfl⟩ rfl rfl rfl rfl rfl (by kernel_rfl) Tryd.func5 (by kernel_rfl)
    (of_decide_eq_true (by kernel_rfl)) (by unfold Func.isWrapper; first | (rw [if_pos (by decide +kernel)]; kernel_rfl) | (rw [if_neg (by decide +kernel)]; exact ⟨rfl, rfl⟩))
    (fun os started H enc _ F => by rw [OpenClaim.pre_eq_preRow]; exact lifted os started H enc F)

/-- No parameter wants a stand-in; the program's own looks are off. -/
theorem plain (f : FuncId) (fn : Func) (hf : Tryd.pinned.checked.prog.funcNamed "scriptor/scriptorlaw05.WalCrashes" = some f) (hfn : Tryd.pinned.checked.prog.funcs[f]? = some fn) :
    false = Tryd.pinned.checked.prog.looks [] ∧ ∀ (j : Nat) t, fn.params[j]? = some t → Tryd.pinned.checked.prog.wantsStandIn t = false := by
  obtain rfl : f = 5 := Option.some.inj ((show Tryd.prog.funcNamed "scriptor/scriptorlaw05.WalCrashes" = some 5 by kernel_rfl).symm.trans hf) |>.symm
  obtain rfl : fn = Tryd.f5 := (Option.some.inj (Tryd.func5.symm.trans hfn)).symm
  refine ⟨by kernel_rfl, fun j t ht => ?_⟩
  have hall : ∀ t ∈ Tryd.f5.params.toList, Tryd.prog.wantsStandIn t = false := by
    rw [Tryd.params5]
    intro t ht
    simp at ht
    subst ht
    kernel_rfl
  exact hall t (Array.mem_toList_iff.2 (Array.mem_of_getElem? ht))

theorem card : Rows.WalCrashesCardSaid :=
  Claim7.holds_tied_plain_at .later [] _ _ _ _ said (fun _ h => by cases h) (by kernel_rfl) (fun _ h => by cases h) walCrashes_row_tie rfl ⟨rfl, rfl⟩ (by kernel_rfl) rfl plain (by kernel_rfl)
end Go.Proofs.YtnonhmjfhcmpgaaDoor.walCrashes
