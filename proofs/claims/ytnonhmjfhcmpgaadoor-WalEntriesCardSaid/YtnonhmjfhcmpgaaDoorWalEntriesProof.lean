/- THE LAW WalEntries: in every row of calls a log answers what the chapter says, and its sectors are as it says. -/
import Derived.Test.YtnonhmjfhcmpgaaDoorWalTab
import Derived.Test.YtnonhmjfhcmpgaaDoorWalV
import Derived.Test.YtnonhmjfhcmpgaaDoorWalE
import Derived.Deep.CutRange
import Derived.Deep.CutBlock
namespace Go.Proofs.YtnonhmjfhcmpgaaDoor.walEntries
open Go.ChangeShapes Go.WideShapes Go.ChangeAt Go.RowKit Go.ChangeMaps

/-- Blocks that are kept beside a log may be written. -/
theorem sysX_keep {w0 w w' : World} {d g : Nat} {s : DS} {l : LS} {X : Nat → Prop} (h : SysX w0 w d g s l X) (hk : Keeps X w w') (hX : ∀ j, X j → w0.heap.size ≤ j) (Y : Nat → Prop) (hY : ∀ j, Y j → X j ∨ (w.heap.size ≤ j ∧ j < w'.heap.size)) : SysX w0 w' d g s l Y := by
  obtain ⟨M, I, h1, h2, h3, h4, h5, h6, h7⟩ := h
  have hs := hk.size
  have hlg := h2.lt
  refine ⟨M, I, h1.keeps hk (fun b hb hx => (h7 b hx).1 hb) (fun b hb hx => (h7 b hx).2.1 hb), h2.keeps hk (fun hx => (h7 g hx).2.2.1 rfl), h3, h4, h5, h6.trans (hk.below (fun i hi hx => by have := hX i hx; omega) h6.size), fun j hj => ?_⟩
  rcases hY j hj with hx | hx
  · obtain ⟨a, b, c, e⟩ := h7 j hx
    exact ⟨a, b, c, by omega⟩
  · exact ⟨fun hm => by have := (h1.lt j hm).2; omega, fun hm => by have := (h1.ltI j hm).2; omega, by omega, by omega⟩
theorem owns_le {w : World} {base : Nat} {e : TypeId} {size n cap : Nat} {ao : Option Addr} {m : Nat} {xs : List Value} (h : w.ownsRow base e size (.slice ao n cap) m xs) : n ≤ cap := by
  obtain ⟨_, _, e, hc⟩ := owns_form h
  cases e
  exact hc
/-- Between two calls: a log in order, and the row of its records' texts, which is the law's own. -/
def SE (W w : World) (d g : Nat) (ho : Option Addr) (hcap : Nat) (recs : List (List UInt8)) (age lft n : Nat) : Prop :=
  ∃ s l, SysX W w d g s l (fun j => blk ho = some j) ∧ PL s l recs ∧ s.left = -1 ∧ s.steps ≤ 100 + 60 * n ∧ l.age = age ∧ age ≤ n + 1 ∧ lft + l.at_ = 14 ∧ w.ownsRow W.heap.size 9 1 (.slice ho recs.length hcap) recs.length (strsV recs) ∧ ∀ r ∈ recs, r.length ≤ 4000

set_option maxRecDepth 100000 in
set_option maxHeartbeats 4000000 in
theorem walk (ao : Option Addr) (cap : Nat) (es : List (Int × List UInt8 × Int)) (hlen : es.length ≤ 9223372036854775807) (W : World) (hB0 : 0 < W.heap.size) (hes : EntsAt W ao es) (ht : Tab W) :
    Calls Tryd.prog 8 #[.slice ao es.length cap] W (Says W (.bool true)) := by
  have HT := Lib.hid ht
  have HE := Lib.hid hes
  clear hes ht
  go_enter Tryd.func8, Tryd.ntmps8
  go_wp2_with fail
  refine (logs_any W hB0 HT.out).mono ?_
  rintro e w1 ⟨rfl, hb1⟩
  have H1 := Lib.hid hb1
  have hs1 := hb1.size
  clear hb1
  go_wp2_with fail
  refine (nolog_any w1).mono ?_
  rintro e w1' ⟨rfl, rfl⟩
  go_wp2_with fail
  refine (appendNil_any none 0 0 w1).mono ?_
  rintro e w2 ⟨rfl, hb2⟩
  have H2 := Lib.hid (H1.out.trans (hb2.mono hs1))
  have hs2 := H2.out.size
  clear hb2
  go_wp2_with fail
  refine (nolog_any w2).mono ?_
  rintro e w1' ⟨rfl, rfl⟩
  go_wp2_with fail
  refine (truncNil_any w2).mono ?_
  rintro e w3 ⟨rfl, hb3⟩
  have H3 := Lib.hid (H2.out.trans (hb3.mono hs2))
  have hs3 := H3.out.size
  clear hb3
  go_wp2_with fail
  refine (nolog_any w3).mono ?_
  rintro e w1' ⟨rfl, rfl⟩
  go_wp2_with fail
  refine (ageNil_any w3).mono ?_
  rintro e w4 ⟨rfl, hb4⟩
  have H4 := Lib.hid (H3.out.trans (hb4.mono hs3))
  have hs4 := H4.out.size
  clear hb4
  go_wp2_with fail
  refine (nolog_any w4).mono ?_
  rintro e w1' ⟨rfl, rfl⟩
  go_wp2_with fail
  refine (roomNil_any w4).mono ?_
  rintro e w5 ⟨rfl, hb5⟩
  have hb05 := H4.out.trans (hb5.mono hs4)
  have H5 := Lib.hid hb05
  have hs5 := hb05.size
  have HT5 := Lib.hid (HT.out.below hb05)
  have HE5 := Lib.hid (HE.out.below hb05)
  clear hb5 hb05
  go_wp2_with fail
  refine (fresh_any w5 (by omega) HT5.out).mono ?_
  rintro e w6 ⟨d, g, rfl, hsys⟩
  have H6 := Lib.hid (show SE w5 w6 d g none 0 [] 1 12 0 from ⟨freshS, freshL, hsys.bare.grow _ (Below.refl _ _) (fun j hj => by cases hj), freshP.1, freshP.2.1, by have := freshP.2.2; omega, rfl, by decide, rfl, World.ownsRow_nil _ _ _ _, by simp⟩)
  have hB5 : 0 < w5.heap.size := by omega
  clear hsys
  go_wp2_with fail
  go_loopw [4, 6, 7, 8, 9] (fun v4 v6 v7 v8 v9 wr => ∃ (i g : Nat) (ho : Option Addr) (hcap : Nat) (recs : List (List UInt8)) (age lft : Nat), i ≤ 20 ∧ i ≤ es.length ∧ v9 = .int .i64 (i : Int) ∧ v4 = .pointer (some ⟨g, 0, none⟩) ∧ v6 = .int .i64 (age : Int) ∧ v7 = .int .i64 (lft : Int) ∧ v8 = .slice ho recs.length hcap ∧ SE w5 wr d g ho hcap recs age lft i) (fun _ _ _ _ v9 _ => 20 - (intOf v9).toNat)
  case atStart => exact ⟨0, g, none, 0, [], 1, 12, by omega, by omega, rfl, rfl, rfl, rfl, rfl, H6.out⟩
  case round =>
    obtain ⟨i, g, ho, hcap, recs, age, lft, hi20, hil, rfl, rfl, rfl, rfl, rfl, s, l, hsys, hpl, hleft, hsteps, hage, hag2, hlft, hown, hall⟩ := hrel
    have HR := Lib.hid (And.intro hsys (And.intro hpl (And.intro hleft (And.intro hsteps (And.intro hage (And.intro hown hall))))))
    have hbel := hsys.bel
    have hszr := hbel.size
    have HBr := Lib.hid hbel
    have hnx := hpl.next
    have hcnt := hpl.cnt
    have hff := hpl.f
    have hWl := hpl.W
    have hrb := hpl.inv.two
    have hle := hpl.inv.le
    have HNN := Lib.hid (And.intro hnx (And.intro hcnt (And.intro hff (And.intro hWl (And.intro hage (And.intro hsteps (And.intro hrb hle)))))))
    have hrl : recs.length ≤ 12 := by omega
    have hl14 : lft ≤ 12 := by omega
    clear hsys hpl hleft hsteps hage hbel hnx hcnt hff hWl hrb hle hall hown
    by_cases hc1 : i < es.length ∧ i < 20
    · obtain ⟨hlt, hlt5⟩ := hc1
      have hd1 : decide ((i : Int) < (es.length : Int)) = true := decide_eq_true (by omega)
      have hd2 : decide ((i : Int) < 20) = true := decide_eq_true (by omega)
      obtain ⟨eb, eo, bo, bcap, rfl, q0, q1, q2, hbc, hbm, hbat0, hq0, hq1, hq2, hq3⟩ := HE5.out i hlt
      replace q0 := (World.cell?_of_block (a := ⟨eb, eo + i * 3, none⟩) (HBr.out.block eb (World.block_lt_of_cell? (a := ⟨eb, eo + i * 3, none⟩) w5 q0))).trans q0
      replace q1 := (World.cell?_of_block (a := ⟨eb, eo + i * 3 + 1, none⟩) (HBr.out.block eb (World.block_lt_of_cell? (a := ⟨eb, eo + i * 3 + 1, none⟩) w5 q1))).trans q1
      replace q2 := (World.cell?_of_block (a := ⟨eb, eo + i * 3 + 2, none⟩) (HBr.out.block eb (World.block_lt_of_cell? (a := ⟨eb, eo + i * 3 + 2, none⟩) w5 q2))).trans q2
      have hbat := hbat0.below HBr.out
      obtain ⟨what, hwhat⟩ : ∃ x, es[i].1 = x := ⟨_, rfl⟩
      obtain ⟨b0, hb0⟩ : ∃ x, es[i].2.1 = x := ⟨_, rfl⟩
      obtain ⟨byv, hbyv⟩ : ∃ x, es[i].2.2 = x := ⟨_, rfl⟩
      rw [hwhat] at q0
      rw [hb0] at q1 hbc hbat hbat0
      rw [hbyv] at q2
      clear hwhat hbyv hb0 hq0 hq1 hq2 hq3
      go_upto_region 12 with (fail)
      obtain ⟨wa, hwa⟩ : ∃ wa, wa = wr.alloc (Obj.cells #[.int .i64 what, .slice bo b0.length bcap, .int .i64 byv] 51) := ⟨_, rfl⟩
      rw [← hwa]
      have hrowA : wa.heap[wr.heap.size]? = some (.cells #[.int .i64 what, .slice bo b0.length bcap, .int .i64 byv] 51 (0, 0)) := by rw [hwa]; exact heap_alloc_new wr _
      have hbA : Below wr.heap.size wr wa := by rw [hwa]; exact (Below.refl _ wr).alloc (Nat.le_refl _) _
      have hszA : wr.heap.size < wa.heap.size := by rw [hwa]; simp
      have t0 : wa.cell? ⟨wr.heap.size, 0, none⟩ = some (.int .i64 what) := cell_of_row _ _ 0 _ _ (0, 0) hrowA
      have t1 : wa.cell? ⟨wr.heap.size, 1, none⟩ = some (.slice bo b0.length bcap) := cell_of_row _ _ 1 _ _ (0, 0) hrowA
      have HA := Lib.hid (And.intro hbA t0)
      have HBT := Lib.hid (((hbat.takeB 4000).below hbA))
      have hbl : (b0.take 4000).length = min b0.length 4000 := by rw [List.length_take]; omega
      obtain ⟨n, hn⟩ : ∃ n, min b0.length 4000 = n := ⟨_, rfl⟩
      rw [hn] at hbl
      have HMIN := Lib.hid (show min ((b0.length : Nat) : Int) 4000 = (n : Int) by omega)
      have hn1 : n ≤ 4000 := by omega
      have hn2 : n ≤ bcap := by omega
      have HL := Lib.hid hbl
      clear hwa hrowA hbA t0 q0 q1 q2 hbat hbat0 hbl hn
      generalize b0.take 4000 = b at *
      have t1' : (wa.alloc (Obj.cells #[] 5)).cell? ⟨wr.heap.size, 1, none⟩ = some (.slice bo b0.length bcap) := (World.cell?_of_block (a := ⟨wr.heap.size, 1, none⟩) (Below.heap_alloc wa _ _ hszA)).trans t1
      go_upto_region 13 with (first | refine op_min2 rfl _ _ _ rfl .i64 _ _ (n : Int) rfl rfl HMIN.out ?_ | (at_builtin; refine app_bytes rfl _ _ rfl wa.heap.size (some ⟨wa.heap.size, 0, none⟩) 0 [] 0 rfl (World.ownsRow_lit wa #[] 0 (Nat.le_refl _) (by decide) rfl) bo n bcap b rfl (HBT.out.below ((Below.refl _ wa).alloc (Nat.le_refl _) _)) HL.out.symm (by omega) (by simp) ?_; rintro co ccap w7 ⟨q1, q2, q3⟩))
      have hown0 : (wa.alloc (Obj.cells #[] 5)).ownsRow wa.heap.size 5 1 (.slice (some ⟨wa.heap.size, 0, none⟩) 0 0) 0 (bytesV []) := World.ownsRow_lit wa #[] 0 (Nat.le_refl _) (by decide) rfl
      have hb7 : Below wa.heap.size wa w7 := ((Below.refl _ wa).alloc (Nat.le_refl _) _).trans (below_grown hown0 (by simp) q2)
      have hbr7 : Below wr.heap.size wr w7 := HA.out.1.trans (hb7.mono (Nat.le_of_lt hszA))
      rw [List.nil_append, HL.out] at q1
      have hsys7 : SysX w5 w7 d g s l (fun j => blk ho = some j ∨ blk co = some j) := HR.out.1.grow _ hbr7 (fun j hj => by
        rcases hj with h | h
        · exact .inl h
        · have := q1.lt j (by rw [own_slice]; exact h)
          exact .inr (.inl ⟨by omega, this.2⟩))
      have t07 : w7.cell? ⟨wr.heap.size, 0, none⟩ = some (.int .i64 what) := (World.cell?_of_block (a := ⟨wr.heap.size, 0, none⟩) (hb7.block _ hszA)).trans HA.out.2
      have hco : ∀ j, blk co = some j → wa.heap.size ≤ j ∧ j < w7.heap.size := fun j hj => q1.lt j (by rw [own_slice]; exact hj)
      have H7 := Lib.hid (And.intro hsys7 (And.intro (owns_below HR.out.2.2.2.2.2.1 hbr7) (And.intro q1 (And.intro hco t07))))
      have hs7 := hbr7.size
      clear t1 t1' q1 q2 q3 hown0 hb7 hbr7 hsys7 t07 hco
      go_cut [93] from 73 to 168 (fun v93 w' => v93 = .bool false ∧ Below w7.heap.size w7 w')
      case first =>
        have hnn := HNN.out
        have hroom := (room_any w7 H7.out.1.log (by omega) (by omega))
        by_cases h0 : lft = 0
        · have hrp : roomP l = -1 := by unfold roomP; rw [if_pos (by omega)]
          have HRP := Lib.hid hrp
          rw [hrp] at hroom
          have HRO := Lib.hid hroom
          have hcn : l.cnt ≤ 30000 := by omega
          have hatn : l.at_ ≤ 30000 := by omega
          clear hroom hrp hnn
          subst h0
          go_wp2_with fail
          refine HRO.out.mono ?_
          rintro e w8 ⟨rfl, hb8⟩
          have hroom2 := room_any w8 (H7.out.1.log.below hb8) hcn hatn
          rw [HRP.out] at hroom2
          have H8 := Lib.hid (And.intro hb8 hroom2)
          have hs8 := hb8.size
          clear hb8 hroom2
          go_wp2_with fail
          refine H8.out.2.mono ?_
          rintro e w9 ⟨rfl, hb9⟩
          have H9 := Lib.hid (H8.out.1.trans (hb9.mono hs8))
          clear hb9
          go_wp2_with fail
          refine (age_any w9 (H7.out.1.log.below H9.out)).mono ?_
          rintro e w10 ⟨rfl, rfl⟩
          rw [HR.out.2.2.2.2.1]
          go_wp2_with fail
          go_meet
          case rel => exact ⟨rfl, H9.out⟩
        · have hrp : roomP l = ((lft : Int) - 1) * 511 := by unfold roomP; rw [if_neg (by omega)]; omega
          rw [hrp] at hroom
          have HRO := Lib.hid hroom
          clear hroom hrp hnn
          go_wp2_with fail
          refine HRO.out.mono ?_
          rintro e w8 ⟨rfl, hb8⟩
          have H8 := Lib.hid hb8
          clear hb8
          go_wp2_with fail
          refine (age_any w8 (H7.out.1.log.below H8.out)).mono ?_
          rintro e w10 ⟨rfl, rfl⟩
          rw [HR.out.2.2.2.2.1]
          go_wp2_with fail
          go_meet
          case rel => exact ⟨rfl, H8.out⟩
      case rest =>
        obtain ⟨rfl, hbc⟩ := hcut
        have H := Lib.hid (And.intro (H7.out.1.below hbc) (And.intro (owns_below H7.out.2.1 hbc) (And.intro (owns_below H7.out.2.2.1 hbc) H7.out.2.2.2.1)))
        have t0 : wc.cell? ⟨wr.heap.size, 0, none⟩ = some (.int .i64 what) := (World.cell?_of_block (a := ⟨wr.heap.size, 0, none⟩) (hbc.block _ (World.block_lt_of_cell? (a := ⟨wr.heap.size, 0, none⟩) w7 H7.out.2.2.2.2))).trans H7.out.2.2.2.2
        have hsc := hbc.size
        clear hbc
        go_upto_block 2 with (fail)
        clear t0
        have hgt : wr.heap.size < wa.heap.size := hszA
        go_cut [4, 6, 7, 8, 12, 13, 14, 15, 16, 17] from 96 to 168 (fun v4 v6 v7 v8 _ _ _ _ _ _ w' => ∃ (g2 : Nat) (ho2 : Option Addr) (hcap2 : Nat) (recs2 : List (List UInt8)) (age2 lft2 : Nat), v4 = .pointer (some ⟨g2, 0, none⟩) ∧ v6 = .int .i64 (age2 : Int) ∧ v7 = .int .i64 (lft2 : Int) ∧ v8 = .slice ho2 recs2.length hcap2 ∧ SE w5 w' d g2 ho2 hcap2 recs2 age2 lft2 (i + 1))
        case first =>
          have hnn := HNN.out
          have HBn := Lib.hid (show b.length = n from HL.out)
          by_cases hw1 : what = 1
          · subst hw1
            go_wp2_with fail
            by_cases hfit : needN n ≤ lft
            · obtain ⟨e1, p1, l1, s1⟩ := append_on HR.out.2.1 HR.out.2.2.1 b (by rw [HBn.out]; omega) (by rw [HBn.out]; omega)
              refine (append_sysX H.out.1 (Below.refl _ wc) hB5 HT5.out (by omega) (by rw [hnn.2.2.2.1]; decide) (by omega) (by omega) (by omega) (by omega) co n ccap b HBn.out.symm (by rw [HBn.out]; exact owns_le H.out.2.2.1) (by rw [HBn.out]; omega) (At.own H.out.2.2.1) (fun j hj _ => .inr (.inr (.inr hj))) (by rw [HBn.out]; omega)).mono ?_
              rintro e w8 ⟨rfl, h8, hst8⟩
              rw [e1] at h8 ⊢
              have hown8 := owns_keep H.out.2.1 (fun j hj hlt => hst8.block j hlt (fun hn => hn (.inl (by rw [own_slice] at hj; exact hj))))
              have hoc8 := owns_keep H.out.2.2.1 (fun j hj hlt => hst8.block j hlt (fun hn => hn (.inr (by rw [own_slice] at hj; exact hj))))
              have hs8 := hst8.size
              have hat8 : (appendL l 0 b).at_ = l.at_ + needN n := by simp [appendL, HBn.out]
              have hag8 : (appendL l 0 b).age = age := by simp [appendL]; omega
              have H8 := Lib.hid (And.intro h8 (And.intro hown8 (And.intro hoc8 (And.intro p1 (And.intro l1 (And.intro s1 (And.intro hat8 hag8)))))))
              clear h8 hst8 hown8 hoc8 e1 p1 l1 s1 hat8 hag8
              generalize (appendP l.f s l.at_ l.age l.next b).2 = s8 at *
              generalize appendL l 0 b = l8 at *
              have hcond : decide ((lft : Int) < (needN n : Int)) = false := decide_eq_false (by omega)
              go_wp2_with fail
              refine (refneed_any n (by omega) w8).mono ?_
              rintro e w9 ⟨rfl, rfl⟩
              have hob8 := H8.out.1.bel.size
              go_wp2_with (first | (refine conv_str rfl _ rfl co n ccap rfl b (At.own H8.out.2.2.1) HBn.out.symm ?_) | (at_builtin; refine app_strs rfl _ _ rfl w5.heap.size ho hcap recs.length recs rfl (H8.out.2.1.alloc _) (some ⟨w8.heap.size, 0, none⟩) 1 1 [b] rfl (At.new w8 #[strV b] 9) rfl (by omega) (by simp; omega) ?_; rintro ho2 hcap2 w10 q1 q2 q3))
              have hoc10 := owns_keep (owns_below H8.out.2.2.1 ((Below.refl _ w8).alloc (Nat.le_refl _) (.cells #[strV b] 9))) (fun j hj hlt => q2.block j hlt (fun h => by
                rw [own_slice] at hj
                have h1 := (H8.out.2.1.lt j (by rw [own_slice]; exact h.symm)).2
                have h2 := (H.out.2.2.2 j hj).1
                have h3 := (HR.out.2.2.2.2.2.1.lt j (by rw [own_slice]; exact h.symm)).2
                omega))
              have hk10 : Keeps (fun j => blk ho = some j ∨ blk co = some j) w8 w10 := (Keeps.alloc _ _ _).trans' (Keeps.of_grown' q2 (fun j hj => .inl hj))
              have hX5 : ∀ j, (blk ho = some j ∨ blk co = some j) → w5.heap.size ≤ j := fun j hj => by
                rcases hj with h | h
                · exact (HR.out.2.2.2.2.2.1.lt j (by rw [own_slice]; exact h)).1
                · have := (H.out.2.2.2 j h).1; omega
              have hho2 : ∀ j, blk ho2 = some j → blk ho = some j ∨ (w8.heap.size ≤ j ∧ j < w10.heap.size) := fun j hj => by
                rcases q3 with h | h
                · exact .inl (by rw [← h]; exact hj)
                · rw [h] at hj
                  have hlt := (q1.lt j (by rw [own_slice, h]; exact hj)).2
                  have hj' := Option.some.inj hj
                  simp at hj'
                  exact .inr ⟨by omega, hlt⟩
              have hsys10 := sysX_keep H8.out.1 hk10 hX5 (fun j => blk ho2 = some j ∨ blk co = some j) (fun j hj => by
                rcases hj with h | h
                · rcases hho2 j h with h2 | h2
                  · exact .inl (.inl h2)
                  · exact .inr h2
                · exact .inl (.inr h))
              have hne : ∀ j, blk ho2 = some j → blk co ≠ some j := fun j hj hc => by
                have h2 := H.out.2.2.2 j hc
                rcases hho2 j hj with h | h
                · have h3 := (HR.out.2.2.2.2.2.1.lt j (by rw [own_slice]; exact h)).2
                  omega
                · have := (H8.out.2.2.1.lt j (by rw [own_slice]; exact hc)).2
                  omega
              have H10 := Lib.hid (And.intro hsys10 (And.intro q1 (And.intro hoc10 hne)))
              clear q1 q2 q3 hoc10 hk10 hho2 hsys10 hne
              go_loopw [14] (fun v14 wr' => ∃ (k : Nat) (m : List UInt8), k ≤ n ∧ v14 = .int .i64 (k : Int) ∧ wr'.ownsRow wa.heap.size 5 1 (.slice co n ccap) n (bytesV m) ∧ Keeps (fun j => blk co = some j) w10 wr') (fun v14 _ => n - (intOf v14).toNat)
              case atStart => exact ⟨0, b, Nat.zero_le _, rfl, H10.out.2.2.1, Keeps.refl _ _⟩
              case round =>
                obtain ⟨k, m, hk, rfl, hom, hkm⟩ := hrel
                have HM := Lib.hid (And.intro hom hkm)
                have hml : m.length = n := by have := hom.1; simpa using this
                clear hom hkm
                by_cases hlt : k < n
                · obtain ⟨gb, rfl⟩ : ∃ gb, co = some ⟨gb, 0, none⟩ := by
                    rcases HM.out.1.2 with ⟨hv, _⟩ | ⟨g', _, _, hv, _⟩
                    · cases hv; omega
                    · cases hv; exact ⟨g', rfl⟩
                  have hcell : ∃ u : Nat, wr.cell? ⟨gb, k, none⟩ = some (.int .u8 (u : Int)) := ⟨_, (HM.out.1.cellAt k (by simp; omega)).trans (bytesV_get _ k (by omega))⟩
                  obtain ⟨u, hcell⟩ := hcell
                  have hfr : wr.frozen? ⟨gb, k, none⟩ = false := HM.out.1.frozenAt k
                  go_wp2_with fail
                  go_roundw
                  case rel =>
                    refine ⟨k + 1, m.set k 0xEE, by omega, by simp, ?_, HM.out.2.trans' (Keeps.of_grown (setCell_grown0 _ _ _ _) rfl)⟩
                    rw [bytesV_set]
                    exact (HM.out.1.stored k _).1
                  case measure => simp [intOf]; omega
                · obtain rfl : k = n := by omega
                  have HQ := Lib.hid (show SE w5 wr d g ho2 hcap2 (recs ++ [b]) age (lft - needN k) (i + 1) from ⟨s8, l8, sysX_keep H10.out.1 (HM.out.2.mono fun j _ h => .inr h) (fun j hj => by
                    rcases hj with h | h
                    · exact (H10.out.2.1.lt j (by rw [own_slice]; exact h)).1
                    · exact hX5 j (.inr h)) _ (fun j hj => .inl (.inl hj)), H8.out.2.2.2.1, H8.out.2.2.2.2.1, by have := H8.out.2.2.2.2.2.1; omega, H8.out.2.2.2.2.2.2.2, by omega, by have := H8.out.2.2.2.2.2.2.1; omega, by
                      rw [List.length_append]
                      exact owns_keep H10.out.2.1 (fun j hj hlt => HM.out.2.block j hlt (fun hc => H10.out.2.2.2 j (by rw [own_slice] at hj; exact hj) hc)), fun r hr => by
                      rcases List.mem_append.1 hr with h | h
                      · exact HR.out.2.2.2.2.2.2 r h
                      · rw [List.mem_singleton] at h; rw [h, HBn.out]; exact hn1⟩)
                  go_wp2_with fail
                  go_meet
                  case rel => exact ⟨g, ho2, hcap2, recs ++ [b], age, lft - needN k, rfl, rfl, by congr 1; omega, by simp, HQ.out⟩
            · have hfit' : l.cnt - l.at_ < needN n := by omega
              refine (appendFull_any co n ccap wc H.out.1.log (by omega) (by omega) (by omega) hfit').mono ?_
              rintro e w8 ⟨rfl, hb8⟩
              have H8 := Lib.hid (show SE w5 w8 d g ho hcap recs age lft (i + 1) from ⟨s, l, (H.out.1.below hb8).grow _ (Below.refl _ _) (fun j hj => .inl (.inl hj)), HR.out.2.1, HR.out.2.2.1, by omega, by omega, by omega, by omega, owns_below H.out.2.1 hb8, HR.out.2.2.2.2.2.2⟩)
              have hcond : decide ((lft : Int) < (needN n : Int)) = true := decide_eq_true (by omega)
              clear hb8 hfit' hnn
              have hfit2 : lft < needN n := by omega
              clear hfit
              go_wp2_with fail
              refine (refneed_any n (by omega) w8).mono ?_
              rintro e w9 ⟨rfl, rfl⟩
              go_wp2_with fail
              go_roundw
              case rel => exact ⟨i + 1, g, ho, hcap, recs, age, lft, by omega, by omega, by simp, rfl, rfl, rfl, rfl, H8.out⟩
              case measure => simp [intOf]; omega
          · have hd1 : (what == 1) = false := by simpa using hw1
            by_cases hw2 : what = 2
            · subst hw2
              go_wp2_with fail
              obtain ⟨e1, p1, l1, s1⟩ := trunc_on HR.out.2.1 HR.out.2.2.1
              refine (truncate_sysX H.out.1 hB5 HT5.out (by omega) (by rw [hnn.2.2.2.1]; decide) (by omega) (by omega)).mono ?_
              rintro e w8 ⟨rfl, h8, _⟩
              rw [e1] at h8 ⊢
              have H8 := Lib.hid (show SE w5 w8 d g none 0 [] (age + 1) 12 (i + 1) from ⟨_, _, h8.grow _ (Below.refl _ _) (fun j hj => by cases hj), p1, l1, by omega, by simp [truncL]; omega, by omega, by simp [truncL], World.ownsRow_nil _ _ _ _, by simp⟩)
              clear h8 e1 p1 l1 s1
              go_wp2_with fail
              go_meet
              case rel => exact ⟨g, none, 0, [], age + 1, 12, rfl, by simp, rfl, rfl, H8.out⟩
            · have hd2 : (what == 2) = false := by simpa using hw2
              by_cases hw3 : what = 3
              · subst hw3
                go_wp2_with fail
                refine (open_sysX H.out.1.own HT5.out HR.out.2.1 (by omega)).mono ?_
                rintro e w8 ⟨g8, ro, rcap, rfl, h8, hrec, hb8⟩
                have H8 := Lib.hid (And.intro h8 (And.intro hrec (owns_below H.out.2.1 hb8)))
                clear h8 hrec hb8
                go_wp2_with fail
                refine (same_any ro recs.length rcap recs rfl (by omega) ho recs.length hcap recs rfl (by omega) w8 H8.out.2.1 (At.own H8.out.2.2)).mono ?_
                rintro e w9 ⟨rfl, hb9⟩
                rw [decide_eq_true rfl]
                have H9 := Lib.hid (show SE w5 w9 d g8 ho hcap recs age lft (i + 1) from ⟨s, l, (H8.out.1.below hb9).grow _ (Below.refl _ _) (fun j hj => .inl (.inl hj)), HR.out.2.1, HR.out.2.2.1, by omega, by omega, by omega, by omega, owns_below H8.out.2.2 hb9, HR.out.2.2.2.2.2.2⟩)
                clear hb9
                go_wp2_with fail
                go_meet
                case rel => exact ⟨g8, ho, hcap, recs, age, lft, rfl, rfl, rfl, rfl, H9.out⟩
              · have hd3 : (what == 3) = false := by simpa using hw3
                have H9 := Lib.hid (show SE w5 wc d g ho hcap recs age lft (i + 1) from ⟨s, l, H.out.1.grow _ (Below.refl _ _) (fun j hj => .inl (.inl hj)), HR.out.2.1, HR.out.2.2.1, by omega, by omega, by omega, by omega, H.out.2.1, HR.out.2.2.2.2.2.2⟩)
                clear hw1 hw2 hw3
                go_wp2_with fail
                go_meet
                case rel => exact ⟨g, ho, hcap, recs, age, lft, rfl, rfl, rfl, rfl, H9.out⟩
        case rest =>
          obtain ⟨g2, ho2, hcap2, recs2, age2, lft2, rfl, rfl, rfl, rfl, hse⟩ := hcut
          have HSE := Lib.hid hse
          obtain ⟨s2, l2, hsys2, hpl2, hleft2, hst2, hage2, hag2', hlft2, hown2, hall2⟩ := hse
          have hinv := hpl2.inv
          rw [hpl2.f, hpl2.cnt, hage2] at hinv
          have hlen2 := hpl2.len
          have hr12 : recs2.length ≤ 12 := by have := hinv.two; have := hinv.le; omega
          obtain ⟨M, I, hd, _⟩ := hsys2.own
          have hok := hd.sok
          have H2 := Lib.hid (And.intro hd (And.intro hpl2.W (And.intro hinv (And.intro hown2 (And.intro hall2 (fun k (_ : k < 14) => secOf_length hok 2 k))))))
          clear hsys2 hpl2 hleft2 hst2 hage2 hown2 hall2 hinv hd hok
          go_wp2_with fail
          refine (sectors_any wc H2.out.1 H2.out.2.1 hlen2).mono ?_
          rintro e w8 ⟨so, scap, rfl, hsec, hb8⟩
          have H8 := Lib.hid (And.intro hsec hb8)
          have hs8 := hb8.size
          clear hsec hb8
          go_wp2_with fail
          refine (scan_any H2.out.2.2.1 (by omega) H2.out.2.2.2.2.2 so scap w8 H8.out.1).mono ?_
          rintro e w9 ⟨ro, rcap, rfl, hat9, hb9⟩
          have H9 := Lib.hid (And.intro hat9 (H8.out.2.trans (hb9.mono hs8)))
          have hs9 := H9.out.2.size
          clear hat9 hb9
          go_wp2_with fail
          refine (tobytes_any ro recs2.length rcap recs2 rfl (by omega) (fun r hr => by have := H2.out.2.2.2.2.1 r hr; omega) w9 H9.out.1).mono ?_
          rintro e w10 ⟨bo2, bcap2, rfl, hrec, hb10⟩
          have H10 := Lib.hid (And.intro hrec (H9.out.2.trans (hb10.mono hs9)))
          have hs10 := H10.out.2.size
          clear hrec hb10
          go_wp2_with fail
          refine (same_any bo2 recs2.length bcap2 recs2 rfl (by omega) ho2 recs2.length hcap2 recs2 rfl (by omega) w10 H10.out.1 (At.own (owns_below H2.out.2.2.2.1 H10.out.2))).mono ?_
          rintro e w11 ⟨rfl, hb11⟩
          rw [decide_eq_true rfl]
          have hbc11 : Below wc.heap.size wc w11 := H10.out.2.trans (hb11.mono hs10)
          have H11 := Lib.hid (show SE w5 w11 d g2 ho2 hcap2 recs2 age2 lft2 (i + 1) from by
            obtain ⟨s3, l3, a1, a2, a3, a4, a5, a6, a7, a8, a9⟩ := HSE.out
            exact ⟨s3, l3, a1.below hbc11, a2, a3, a4, a5, a6, a7, owns_below a8 hbc11, a9⟩)
          clear hb11 hbc11
          go_wp2_with fail
          go_roundw
          case rel => exact ⟨i + 1, g2, ho2, hcap2, recs2, age2, lft2, by omega, by omega, by simp, rfl, rfl, rfl, rfl, H11.out⟩
          case measure => simp [intOf]; omega
    · have hcases : ¬ i < es.length ∨ (i < es.length ∧ ¬ i < 20) := by omega
      clear hc1
      rcases hcases with hc | ⟨hc, hc5⟩
      · have hd1 : decide ((i : Int) < (es.length : Int)) = false := decide_eq_false (by omega)
        go_wp2_with fail
        go_returns
        exact ⟨rfl, H5.out.trans (HBr.out.mono hs5)⟩
      · have hd1 : decide ((i : Int) < (es.length : Int)) = true := decide_eq_true (by omega)
        have hd2 : decide ((i : Int) < 20) = false := decide_eq_false (by omega)
        go_wp2_with fail
        go_returns
        exact ⟨rfl, H5.out.trans (HBr.out.mono hs5)⟩

theorem own : ownKnob Tryd.prog.godebug = none := by kernel_rfl
theorem laidOut : laidOutB Tryd.prog = true := by kernel_rfl
theorem readable : ∀ t ∈ Tryd.f8.params.toList, Tryd.prog.readableRec t = true ∧ t < Tryd.prog.types.size := by
  rw [Tryd.params8]
  intro t ht
  simp at ht
  subst ht
  exact ⟨by kernel_rfl, of_decide_eq_true (by kernel_rfl)⟩

theorem laid_met (os : Os) : laidMet Tryd.prog Rows.walEntriesRow.laid ((laidWorld os).forCall (fun _ _ => 0) ⟨#[], #[.slice none 0 0], []⟩).memory :=
  laidMet_of_run' 8 (by kernel_rfl) (by kernel_rfl)
theorem reads (os : Os) {H : Type} (enc : TypeId × Value → H) : DataW.whole enc Tryd.prog ((laidWorld os).forCall (fun _ _ => 0) ⟨#[], #[.slice none 0 0], []⟩).memory Tryd.f8.params.toList Rows.walEntriesSpec.vars false (#[.slice none 0 0] : Array Value).toList 8 = some ([.nil], [], []) := by kernel_rfl
set_option maxRecDepth 100000 in
theorem lifted (os : Os) (started : os.Started) (H : Type) (enc : TypeId × Value → H) (F : Stop.Interp) :
    ReturnsInHanded {} Tryd.checked os 8 .any ((OpenSpec.ofChange Rows.walEntriesSpec).preRow enc Tryd.prog Tryd.f8 Rows.walEntriesRow.domain false Rows.walEntriesRow.laid) (((OpenSpec.ofChange Rows.walEntriesSpec).at F).post enc Tryd.prog Tryd.f8 false true false false) := by
  have hx := reads os enc
  refine returnsInHanded_of_row (C := Tryd.checked) (s := OpenSpec.ofChange Rows.walEntriesSpec) own started (by kernel_rfl) Tryd.func8
    (witness_row_at (enc := enc) (C := Tryd.checked) false (laidWorld os) #[.slice none 0 0] rfl (by kernel_rfl) (by kernel_rfl) (by kernel_rfl)
      (OpenSpec.preRow_of_cond 8 hx (by kernel_rfl) (fun k hk => by cases hk) (by kernel_rfl) (laid_met os))) ?_
  intro W base args ds gs before hval0 hW _ _ _ hL _ _
  have ht : Tab W := table_of hL
  have hval : ∀ (j : Nat) t v, Tryd.f8.params[j]? = some t → args[j]? = some v → Value.okWide Tryd.prog W .any base t v := hval0
  have hW' := hW
  obtain ⟨p, q, hA0, hV, rfl, hfz, hnd⟩ := hW
  have hA : DataW.TrodAll enc Tryd.prog W 0 (fun _ => true) true Tryd.f8.params.toList args.toList ds p := hA0
  rw [Tryd.params8] at hA hval
  obtain ⟨v0, d0, rfl, rfl, h0⟩ := trodAll_one hA
  obtain ⟨rfl, rfl⟩ := trodVars_none hV
  obtain ⟨ao, cap, es, rfl, hc, hm, hes⟩ := open_ents Tryd.underlying44 (by kernel_rfl) Tryd.underlying51 (by kernel_rfl) Tryd.underlying3 Tryd.underlying22 Tryd.underlying5 cellsU8 (by kernel_rfl) (by kernel_rfl) (hval 0 44 v0 rfl rfl) h0
  refine (walk ao cap es (by omega) W (World.block_lt_of_cell? (a := ⟨0, 0, none⟩) W (ht 0 (by decide))) hes ht).mono fun e W' ⟨he, hb⟩ => ?_
  subst he
  exact ⟨_, rfl, post_law laidOut rfl rfl Tryd.underlying4 readable rfl rfl rfl hW' hb⟩

theorem said : Rows.WalEntriesSaid :=
  OpenClaim.holds_of_cond 8 Tryd.f8 rfl rfl rfl rfl rfl rfl rfl ⟨rfl, rfl, rfl, rfl, rfl⟩ rfl rfl rfl rfl rfl (by kernel_rfl) Tryd.func8 (by kernel_rfl)
    (of_decide_eq_true (by kernel_rfl)) (by unfold Func.isWrapper; first | (rw [if_pos (by decide +kernel)]; kernel_rfl) | (rw [if_neg (by decide +kernel)]; exact ⟨rfl, rfl⟩))
    (fun os started H enc _ F => by rw [OpenClaim.pre_eq_preRow]; exact lifted os started H enc F)

/-- No parameter wants a stand-in; the program's own looks are off. -/
theorem plain (f : FuncId) (fn : Func) (hf : Tryd.pinned.checked.prog.funcNamed "scriptor/scriptorlaw05.WalEntries" = some f) (hfn : Tryd.pinned.checked.prog.funcs[f]? = some fn) :
    false = Tryd.pinned.checked.prog.looks [] ∧ ∀ (j : Nat) t, fn.params[j]? = some t → Tryd.pinned.checked.prog.wantsStandIn t = false := by
  obtain rfl : f = 8 := Option.some.inj ((show Tryd.prog.funcNamed "scriptor/scriptorlaw05.WalEntries" = some 8 by kernel_rfl).symm.trans hf) |>.symm
  obtain rfl : fn = Tryd.f8 := (Option.some.inj (Tryd.func8.symm.trans hfn)).symm
  refine ⟨by kernel_rfl, fun j t ht => ?_⟩
  have hall : ∀ t ∈ Tryd.f8.params.toList, Tryd.prog.wantsStandIn t = false := by
    rw [Tryd.params8]
    intro t ht
    simp at ht
    subst ht
    kernel_rfl
  exact hall t (Array.mem_toList_iff.2 (Array.mem_of_getElem? ht))

theorem card : Rows.WalEntriesCardSaid :=
  Claim7.holds_tied_plain_at .later [] _ _ _ _ said (fun _ h => by cases h) (by kernel_rfl) (fun _ h => by cases h) walEntries_row_tie rfl ⟨rfl, rfl⟩ (by kernel_rfl) rfl plain (by kernel_rfl)
end Go.Proofs.YtnonhmjfhcmpgaaDoor.walEntries
