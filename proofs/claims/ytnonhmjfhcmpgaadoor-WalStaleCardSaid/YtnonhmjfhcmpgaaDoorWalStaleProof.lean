/- THE LAW WalStale: records whose bytes look like records, left behind when the log is truncated, are never taken for records. -/
import Derived.Test.YtnonhmjfhcmpgaaDoorWalTab
import Derived.Test.YtnonhmjfhcmpgaaDoorWalG
import Derived.Test.YtnonhmjfhcmpgaaDoorWalH
import Derived.Test.YtnonhmjfhcmpgaaDoorWalS
import Derived.Test.YtnonhmjfhcmpgaaDoorConvB
import Derived.Deep.CutRange
namespace Go.Proofs.YtnonhmjfhcmpgaaDoor.walStale
open Go.ChangeShapes Go.WideShapes Go.ChangeAt Go.RowKit Go.ChangeMaps

def nextB : List UInt8 := [110, 101, 120, 116]
/-- Between two rounds: a log in order, the power on; each record is a text of 3066 bytes, or 'next'. -/
def ST (W w : World) (d g : Nat) (n : Nat) : Prop :=
  ∃ s l recs, Sysd W w d g s l ∧ PL s l recs ∧ s.left = -1 ∧ s.steps ≤ 100 + 60 * n ∧ l.age ≤ n + 1 ∧ ∀ r ∈ recs, r = nextB ∨ r.length = 3066

theorem reffirst_z (a n : Nat) (z : Int) (hz : z = ((a : Nat) : Int)) (ha : a ≤ 9223372036854775807) (hn : n ≤ 9223372036854775807) (b : List UInt8) (hb : b.length ≤ 1000000000) (w : World) :
    Calls Tryd.prog 23 #[.int .i64 z, .int .i64 (n : Int), .string ⟨b.toArray⟩] w (Says w (.string ⟨(secF a n b).toArray⟩)) := by
  subst hz
  exact reffirst_any a n ha hn b hb w
theorem refhead_z (n : Nat) (z : Int) (hz : z = ((n : Nat) : Int)) (hn : n ≤ 9223372036854775807) (w : World) :
    Calls Tryd.prog 24 #[.int .i64 z] w (Says w (.string ⟨(secH n).toArray⟩)) := by
  subst hz
  exact refhead_any n hn w

theorem append_next {W wp w : World} {d g : Nat} {s : DS} {l : LS} {X : Nat → Prop} {recs : List (List UInt8)} (h : SysX W wp d g s l X) (hp : PL s l recs) (hbp : Below wp.heap.size wp w) (hB0 : 0 < W.heap.size) (ht0 : Tab W) (hst : s.steps ≤ 100000) (hage : l.age ≤ 100000)
    (bo : Option Addr) (cap : Nat) (b : List UInt8) (hk : 4 = b.length) (hbc : b.length ≤ cap) (hat : At w bo (bytesV b)) (hbo : ∀ i, blk bo = some i → b ≠ [] → i < W.heap.size ∨ wp.heap.size ≤ i ∨ X i) :
    Calls Tryd.prog 14 #[.pointer (some ⟨g, 0, none⟩), .slice bo 4 cap] w (fun e w' => ∃ (z : Int) (s' : DS) (l' : LS), e = .returned (.int .i64 z) ∧ SysX W w' d g s' l' X ∧ s'.steps ≤ s.steps + 10 ∧ s'.W.length ≤ 100 ∧ ∀ P, ∃ l3 recs3, PL (s'.crash P) l3 recs3 ∧ l3.age = l.age ∧ (recs3 = recs ∨ recs3 = recs ++ [b])) := by
  have hle := hp.inv.le
  have htwo := hp.inv.two
  have hcnt := hp.cnt
  have hff := hp.f
  have hnx := hp.next
  have hnd : needN b.length = 2 := by rw [← hk]; rfl
  by_cases hfit : needN b.length ≤ l.cnt - l.at_
  · obtain ⟨hres, hs2, hwl⟩ := append_down hp b (by omega) hfit
    refine (append_sysX h hbp hB0 ht0 (by omega) (by rw [hp.W]; decide) (by omega) (by omega) (by omega) (by omega) bo 4 cap b hk hbc (by omega) hat hbo hfit).mono ?_
    rintro e w' ⟨rfl, h', _⟩
    refine ⟨_, _, _, rfl, h', by omega, by omega, fun P => ?_⟩
    rcases hres with ⟨e1, p1⟩ | ⟨e1, _, p1⟩
    · exact ⟨_, _, p1.crash P, by simp [appendL], .inr rfl⟩
    · rcases p1 P with h1 | h1
      · exact ⟨_, _, h1, rfl, .inl rfl⟩
      · exact ⟨_, _, h1, by simp [appendL], .inr rfl⟩
  · refine (appendFull_any bo 4 cap w (h.log.below hbp) (by omega) (by omega) (by omega) (by rw [hk]; omega)).mono ?_
    rintro e w' ⟨rfl, hb⟩
    refine ⟨_, s, l, rfl, h.below (hbp.trans (hb.mono hbp.size)), by omega, by rw [hp.W]; decide, fun P => ⟨_, _, hp.crash P, rfl, .inl rfl⟩⟩

set_option maxRecDepth 100000 in
set_option maxHeartbeats 4000000 in
theorem walk (ao : Option Addr) (cap : Nat) (es : List (Int × Int × Int × Int × List UInt8)) (hlen : es.length ≤ 9223372036854775807) (po : Option Addr) (pcap : Nat) (P : List Int) (hP : P.length ≤ 9223372036854775807) (W : World) (hB0 : 0 < W.heap.size) (hes : SpotsAt W ao es) (hpa : At W po (P.map (Value.int .i64))) (ht : Tab W) :
    Calls Tryd.prog 7 #[.slice ao es.length cap, .slice po P.length pcap] W (Says W (.bool true)) := by
  have HT := Lib.hid ht
  have HE := Lib.hid hes
  have HPA := Lib.hid hpa
  have HPW := Lib.hid (fun (hne : P ≠ []) (j : Nat) (hj : blk po = some j) => show j < W.heap.size from by
    obtain ⟨j', hj', hlt'⟩ := hpa.lt (by simpa using hne)
    rw [hj] at hj'
    cases hj'
    exact hlt')
  clear hes ht hpa
  go_enter Tryd.func7, Tryd.ntmps7
  go_wp2_with fail
  refine (fresh_any W hB0 HT.out).mono ?_
  rintro e w1 ⟨d, g, rfl, hsys1⟩
  have H1 := Lib.hid hsys1
  have hb1 := hsys1.bel
  have hs1 := hb1.size
  have HB1 := Lib.hid hb1
  clear hsys1 hb1
  go_wp2_with fail
  refine (logs_any w1 (by omega) (HT.out.below HB1.out)).mono ?_
  rintro e w2 ⟨rfl, hb2⟩
  have hs2 := hb2.size
  have H2 := Lib.hid (show ST W w2 d g 0 from ⟨freshS, freshL, [], H1.out.below hb2, freshP.1, freshP.2.1, by have := freshP.2.2; omega, by decide, by simp⟩)
  clear hb2
  go_wp2_with fail
  go_loopw [6, 8] (fun v6 v8 wr => ∃ i g : Nat, i ≤ 12 ∧ i ≤ es.length ∧ v8 = .int .i64 (i : Int) ∧ v6 = .pointer (some ⟨g, 0, none⟩) ∧ ST W wr d g i) (fun _ v8 _ => 12 - (intOf v8).toNat)
  case atStart => exact ⟨0, g, by omega, by omega, rfl, rfl, H2.out⟩
  case round =>
    obtain ⟨i, g, hi12, hil, rfl, rfl, s, l, recs, hsys, hpl, hleft, hsteps, hage, hall⟩ := hrel
    have HR := Lib.hid (And.intro hsys (And.intro hpl (And.intro hleft (And.intro hsteps (And.intro hage hall)))))
    have hbel := hsys.bel
    have hszr := hbel.size
    have HBr := Lib.hid hbel
    have hnx := hpl.next
    have hcnt := hpl.cnt
    have hff := hpl.f
    have hWl := hpl.W
    have hrb := hpl.inv.two
    have hle := hpl.inv.le
    have HNN := Lib.hid (And.intro hnx (And.intro hcnt (And.intro hff (And.intro hWl (And.intro hage (And.intro hsteps (And.intro hrb hle)))))))
    have hrl : recs.length ≤ 12 := by omega
    clear hsys hpl hleft hsteps hbel hnx hcnt hff hWl hrb hle hall
    by_cases hc1 : i < es.length ∧ i < 12
    · obtain ⟨hlt, hlt5⟩ := hc1
      have hd1 : decide ((i : Int) < (es.length : Int)) = true := decide_eq_true (by omega)
      have hd2 : decide ((i : Int) < 12) = true := decide_eq_true (by omega)
      obtain ⟨eb, eo, bo, bcap, rfl, q0, q1, q2, q3, q4, hbc, hbm, hbat0⟩ := HE.out i hlt
      replace q0 := (World.cell?_of_block (a := ⟨eb, eo + i * 5, none⟩) (HBr.out.block eb (World.block_lt_of_cell? (a := ⟨eb, eo + i * 5, none⟩) W q0))).trans q0
      replace q1 := (World.cell?_of_block (a := ⟨eb, eo + i * 5 + 1, none⟩) (HBr.out.block eb (World.block_lt_of_cell? (a := ⟨eb, eo + i * 5 + 1, none⟩) W q1))).trans q1
      replace q2 := (World.cell?_of_block (a := ⟨eb, eo + i * 5 + 2, none⟩) (HBr.out.block eb (World.block_lt_of_cell? (a := ⟨eb, eo + i * 5 + 2, none⟩) W q2))).trans q2
      replace q3 := (World.cell?_of_block (a := ⟨eb, eo + i * 5 + 3, none⟩) (HBr.out.block eb (World.block_lt_of_cell? (a := ⟨eb, eo + i * 5 + 3, none⟩) W q3))).trans q3
      replace q4 := (World.cell?_of_block (a := ⟨eb, eo + i * 5 + 4, none⟩) (HBr.out.block eb (World.block_lt_of_cell? (a := ⟨eb, eo + i * 5 + 4, none⟩) W q4))).trans q4
      have hbat := hbat0.below HBr.out
      obtain ⟨b0, hb0⟩ : ∃ x, es[i].2.2.2.2 = x := ⟨_, rfl⟩
      obtain ⟨y0, hy0⟩ : ∃ x, es[i].1 = x := ⟨_, rfl⟩
      obtain ⟨y1, hy1⟩ : ∃ x, es[i].2.1 = x := ⟨_, rfl⟩
      obtain ⟨y2, hy2⟩ : ∃ x, es[i].2.2.1 = x := ⟨_, rfl⟩
      obtain ⟨y3, hy3⟩ : ∃ x, es[i].2.2.2.1 = x := ⟨_, rfl⟩
      rw [hy0] at q0
      rw [hy1] at q1
      rw [hy2] at q2
      rw [hy3] at q3
      rw [hb0] at q4 hbc hbat hbat0
      clear hb0 hy0 hy1 hy2 hy3
      go_upto_region 8 with (fail)
      obtain ⟨wa, hwa⟩ : ∃ wa, wa = wr.alloc (Obj.cells #[.int .i64 y0, .int .i64 y1, .int .i64 y2, .int .i64 y3, .slice bo b0.length bcap] 58) := ⟨_, rfl⟩
      rw [← hwa]
      have hrowA : wa.heap[wr.heap.size]? = some (.cells #[.int .i64 y0, .int .i64 y1, .int .i64 y2, .int .i64 y3, .slice bo b0.length bcap] 58 (0, 0)) := by rw [hwa]; exact heap_alloc_new wr _
      have hbA : Below wr.heap.size wr wa := by rw [hwa]; exact (Below.refl _ wr).alloc (Nat.le_refl _) _
      have hszA : wr.heap.size < wa.heap.size := by rw [hwa]; simp
      have t0 : wa.cell? ⟨wr.heap.size, 0, none⟩ = some (.int .i64 y0) := cell_of_row _ _ 0 _ _ (0, 0) hrowA
      have t3 : wa.cell? ⟨wr.heap.size, 3, none⟩ = some (.int .i64 y3) := cell_of_row _ _ 3 _ _ (0, 0) hrowA
      have t4 : wa.cell? ⟨wr.heap.size, 4, none⟩ = some (.slice bo b0.length bcap) := cell_of_row _ _ 4 _ _ (0, 0) hrowA
      have hsA : SysX W wa d g s l (fun j => j = wr.heap.size) := HR.out.1.bare.grow _ hbA (fun j hj => by
        rw [hj]
        exact .inr (.inl ⟨Nat.le_refl _, hszA⟩))
      have HA := Lib.hid (And.intro hsA (And.intro t0 t3))
      have HBT := Lib.hid (((hbat.takeB 300).below hbA))
      have HBW := Lib.hid (fun (hne : b0.take 300 ≠ []) (j : Nat) (hj : blk bo = some j) => show j < W.heap.size from by
        obtain ⟨j', hj', hlt'⟩ := (hbat0.takeB 300).lt (by intro h; apply hne; simpa [bytesV] using h)
        rw [hj] at hj'
        cases hj'
        exact hlt')
      have hbl : (b0.take 300).length = min b0.length 300 := by rw [List.length_take]; omega
      obtain ⟨n, hn⟩ : ∃ n, min b0.length 300 = n := ⟨_, rfl⟩
      rw [hn] at hbl
      have HMIN := Lib.hid (show min ((b0.length : Nat) : Int) 300 = (n : Int) by omega)
      have hn1 : n ≤ 300 := by omega
      have hn2 : n ≤ bcap := by omega
      have HL := Lib.hid hbl
      clear hwa hrowA hbA t0 t3 q0 q1 q2 q3 q4 hsA hbat hbat0 hbl hn
      generalize b0.take 300 = b at *
      have hszw : wr.heap.size < wa.heap.size := hszA
      clear hszA
      generalize hgt : wr.heap.size = gt at *
      go_upto_region 9 with (refine op_min2 rfl _ _ _ rfl .i64 _ _ (n : Int) rfl rfl HMIN.out ?_)
      clear t4
      go_wp2_with fail
      go_loopw [11, 12] (fun v11 v12 wl => ∃ (k : Nat) (F : List UInt8), k ≤ 3 ∧ v12 = .int .i64 (k : Int) ∧ v11 = .string ⟨F.toArray⟩ ∧ F.length = 1022 * k ∧ Below wa.heap.size wa wl) (fun _ v12 _ => 3 - (intOf v12).toNat)
      case atStart => exact ⟨0, [], by omega, rfl, rfl, rfl, Below.refl _ _⟩
      case round =>
        obtain ⟨k, F, hk3, rfl, rfl, hF, hbl⟩ := hrel
        have HF := Lib.hid (And.intro hF hbl)
        clear hF hbl
        by_cases hk : k < 3
        · have hd1 : decide ((k : Int) < 3) = true := decide_eq_true (by omega)
          go_wp2_with fail
          have HLOG := Lib.hid (show LogAt wr.drew g d l from (HA.out.1.log.below HF.out.2).drew)
          have HBD := Lib.hid (show At wr.drew bo (bytesV b) from (HBT.out.below HF.out.2).below (Below.refl _ _).drew)
          have hnb : b.length = n := HL.out
          have hmod : (k : Int).tmod 2 = ((k % 2 : Nat) : Int) := by rw [Int.tmod_eq_emod_of_nonneg (by omega)]; omega
          have HS1 := Lib.hid (show (secF (l.age + k % 2) k b).length = 512 from secF_length _ _ _ (by omega) (by omega) (by omega))
          have HS2 := Lib.hid (show (secH (l.age + 1 + k)).length = 512 from secH_length _ (by omega))
          refine seq_start (by kernel_rfl) ?_
          refine seq_take 0 (v := ?_) rfl (by kernel_rfl) (fun _ _ _ h => h) (by rfl) (fun w' hw' => ?_) ?_
          rotate_left
          · go_simp; try with_reducible rfl
          try simp only [List.getElem_toArray, List.getElem_cons_succ, List.getElem_cons_zero, Act.put, List.setIfInBounds_toArray, List.set_cons_zero, List.set_cons_succ]
          refine seq_take 2 (v := ?_) rfl (by kernel_rfl) (fun _ _ _ h => h) (by rfl) (fun w' hw' => ?_) ?_
          rotate_left
          · go_simp; try with_reducible rfl
          try simp only [List.getElem_toArray, List.getElem_cons_succ, List.getElem_cons_zero, Act.put, List.setIfInBounds_toArray, List.set_cons_zero, List.set_cons_succ]
          refine seq_take 3 (v := ?_) rfl (by kernel_rfl) (fun _ _ _ h => h) (by rfl) (fun w' hw' => ?_) ?_
          rotate_left
          · go_simp; try with_reducible rfl
          try simp only [List.getElem_toArray, List.getElem_cons_succ, List.getElem_cons_zero, Act.put, List.setIfInBounds_toArray, List.set_cons_zero, List.set_cons_succ]
          refine seq_take 5 (v := ?_) rfl (by kernel_rfl) (fun _ _ _ h => h) (by rfl) (fun w' hw' => ?_) ?_
          rotate_left
          · go_simp; try with_reducible rfl
          try simp only [List.getElem_toArray, List.getElem_cons_succ, List.getElem_cons_zero, Act.put, List.setIfInBounds_toArray, List.set_cons_zero, List.set_cons_succ]
          refine seq_take 6 (v := ?_) rfl (by kernel_rfl) (fun _ _ _ h => h) (by rfl) (fun w' hw' => ?_) ?_
          rotate_left
          · go_simp; try with_reducible rfl
          try simp only [List.getElem_toArray, List.getElem_cons_succ, List.getElem_cons_zero, Act.put, List.setIfInBounds_toArray, List.set_cons_zero, List.set_cons_succ]
          refine seq_take 7 rfl (by kernel_rfl) (fun _ _ _ h => h) (by rfl) (seq_conv rfl rfl (HBD.out) (by first | rfl | assumption | (symm; assumption) | simp)) ?_
          try simp only [List.getElem_toArray, List.getElem_cons_succ, List.getElem_cons_zero, Act.put, List.setIfInBounds_toArray, List.set_cons_zero, List.set_cons_succ]
          refine seq_run 1 rfl (by kernel_rfl) (by rfl) (fun KK hKK => ?_)
          go_wp2_with fail
          refine (age_any wr.drew HLOG.out).mono ?_
          rintro e w8 ⟨rfl, rfl⟩
          go_wp2_with fail
          refine ⟨Below.refl _ _, ?_⟩
          refine seq_take 4 (v := ?_) rfl (by kernel_rfl) (fun _ _ _ h => h) (by rfl) (fun w' hw' => ?_) ?_
          rotate_left
          · go_simp; try with_reducible rfl
          try simp only [List.getElem_toArray, List.getElem_cons_succ, List.getElem_cons_zero, Act.put, List.setIfInBounds_toArray, List.set_cons_zero, List.set_cons_succ]
          refine seq_run 8 rfl (by kernel_rfl) (by rfl) (fun KK hKK => ?_)
          go_wp2_with fail
          refine (reffirst_z (l.age + k % 2) k _ (by push_cast; rfl) (by omega) (by omega) b (by omega) wr.drew).mono ?_
          rintro e w9 ⟨rfl, hb9⟩
          have H9 := Lib.hid hb9
          clear hb9
          go_wp2_with fail
          refine ⟨H9.out, ?_⟩
          refine seq_take 9 (v := ?_) rfl (by kernel_rfl) (fun _ _ _ h => h) (by rfl) (fun w' hw' => ?_) ?_
          rotate_left
          · go_simp; try with_reducible rfl
          try simp only [List.getElem_toArray, List.getElem_cons_succ, List.getElem_cons_zero, Act.put, List.setIfInBounds_toArray, List.set_cons_zero, List.set_cons_succ]
          refine seq_done (by kernel_rfl) ?_
          go_wp2_with fail
          generalize secF (l.age + k % 2) k b = S1 at *
          have HLOG9 := Lib.hid (show LogAt w9.drew g d l from (HLOG.out.below H9.out).drew)
          refine seq_start (by kernel_rfl) ?_
          refine seq_take 0 (v := ?_) rfl (by kernel_rfl) (fun _ _ _ h => h) (by rfl) (fun w' hw' => ?_) ?_
          rotate_left
          · go_simp; try with_reducible rfl
          try simp only [List.getElem_toArray, List.getElem_cons_succ, List.getElem_cons_zero, Act.put, List.setIfInBounds_toArray, List.set_cons_zero, List.set_cons_succ]
          refine seq_take 1 (v := ?_) rfl (by kernel_rfl) (fun _ _ _ h => h) (by rfl) (fun w' hw' => ?_) ?_
          rotate_left
          · go_simp; try with_reducible rfl
          try simp only [List.getElem_toArray, List.getElem_cons_succ, List.getElem_cons_zero, Act.put, List.setIfInBounds_toArray, List.set_cons_zero, List.set_cons_succ]
          refine seq_take 2 rfl (by kernel_rfl) (fun _ _ _ h => h) (by rfl) (yields_str_hi (by kernel_rfl) rfl rfl rfl ((show 511 ≤ S1.length by rw [HS1.out]; decide))) ?_
          try simp only [List.getElem_toArray, List.getElem_cons_succ, List.getElem_cons_zero, Act.put, List.setIfInBounds_toArray, List.set_cons_zero, List.set_cons_succ]
          have hFl : F.length = 1022 * k := HF.out.1
          have hl1 : ¬ 9223372036854775807 < F.length + min 511 S1.length := by omega
          have hl2 : ¬ 9223372036854775807 < F.length + min 511 S1.length + min 511 (secH (l.age + 1 + k)).length := by omega
          clear hFl
          refine seq_take 3 (v := ?_) rfl (by kernel_rfl) (fun _ _ _ h => h) (by rfl) (fun w' hw' => ?_) ?_
          rotate_left
          · go_simp; try with_reducible rfl
          try simp only [List.getElem_toArray, List.getElem_cons_succ, List.getElem_cons_zero, Act.put, List.setIfInBounds_toArray, List.set_cons_zero, List.set_cons_succ]
          rw [str_app]
          refine seq_take 4 (v := ?_) rfl (by kernel_rfl) (fun _ _ _ h => h) (by rfl) (fun w' hw' => ?_) ?_
          rotate_left
          · go_simp; try with_reducible rfl
          try simp only [List.getElem_toArray, List.getElem_cons_succ, List.getElem_cons_zero, Act.put, List.setIfInBounds_toArray, List.set_cons_zero, List.set_cons_succ]
          refine seq_take 7 (v := ?_) rfl (by kernel_rfl) (fun _ _ _ h => h) (by rfl) (fun w' hw' => ?_) ?_
          rotate_left
          · go_simp; try with_reducible rfl
          try simp only [List.getElem_toArray, List.getElem_cons_succ, List.getElem_cons_zero, Act.put, List.setIfInBounds_toArray, List.set_cons_zero, List.set_cons_succ]
          refine seq_run 5 rfl (by kernel_rfl) (by rfl) (fun KK hKK => ?_)
          go_wp2_with fail
          refine (age_any w9.drew HLOG9.out).mono ?_
          rintro e w10 ⟨rfl, rfl⟩
          go_wp2_with fail
          refine ⟨Below.refl _ _, ?_⟩
          refine seq_take 6 (v := ?_) rfl (by kernel_rfl) (fun _ _ _ h => h) (by rfl) (fun w' hw' => ?_) ?_
          rotate_left
          · go_simp; try with_reducible rfl
          try simp only [List.getElem_toArray, List.getElem_cons_succ, List.getElem_cons_zero, Act.put, List.setIfInBounds_toArray, List.set_cons_zero, List.set_cons_succ]
          refine seq_take 8 (v := ?_) rfl (by kernel_rfl) (fun _ _ _ h => h) (by rfl) (fun w' hw' => ?_) ?_
          rotate_left
          · go_simp; try with_reducible rfl
          try simp only [List.getElem_toArray, List.getElem_cons_succ, List.getElem_cons_zero, Act.put, List.setIfInBounds_toArray, List.set_cons_zero, List.set_cons_succ]
          refine seq_run 9 rfl (by kernel_rfl) (by rfl) (fun KK hKK => ?_)
          go_wp2_with fail
          refine (refhead_z (l.age + 1 + k) _ (by push_cast; rfl) (by omega) w9.drew).mono ?_
          rintro e w11 ⟨rfl, hb11⟩
          have H11 := Lib.hid hb11
          clear hb11
          go_wp2_with fail
          refine ⟨H11.out, ?_⟩
          generalize secH (l.age + 1 + k) = S2 at *
          refine seq_take 10 rfl (by kernel_rfl) (fun _ _ _ h => h) (by rfl) (yields_str_hi (by kernel_rfl) rfl rfl rfl ((show 511 ≤ S2.length by rw [HS2.out]; decide))) ?_
          try simp only [List.getElem_toArray, List.getElem_cons_succ, List.getElem_cons_zero, Act.put, List.setIfInBounds_toArray, List.set_cons_zero, List.set_cons_succ]
          refine seq_take 11 (v := ?_) rfl (by kernel_rfl) (fun _ _ _ h => h) (by rfl) (fun w' hw' => ?_) ?_
          rotate_left
          · go_simp; try with_reducible rfl
          try simp only [List.getElem_toArray, List.getElem_cons_succ, List.getElem_cons_zero, Act.put, List.setIfInBounds_toArray, List.set_cons_zero, List.set_cons_succ]
          rw [str_app]
          refine seq_take 12 (v := ?_) rfl (by kernel_rfl) (fun _ _ _ h => h) (by rfl) (fun w' hw' => ?_) ?_
          rotate_left
          · go_simp; try with_reducible rfl
          try simp only [List.getElem_toArray, List.getElem_cons_succ, List.getElem_cons_zero, Act.put, List.setIfInBounds_toArray, List.set_cons_zero, List.set_cons_succ]
          refine seq_done (by kernel_rfl) ?_
          go_wp2_with fail
          go_roundw
          case rel => exact ⟨k + 1, F ++ S1.take 511 ++ S2.take 511, by omega, by simp, by simp [List.append_assoc], by rw [List.length_append, List.length_append, List.length_take, List.length_take, HS1.out, HS2.out, HF.out.1]; omega, (HF.out.2.trans ((Below.refl _ wr).drew.mono HF.out.2.size)).trans ((H9.out.mono HF.out.2.size).trans (((Below.refl _ w9).drew.mono (Nat.le_trans HF.out.2.size H9.out.size)).trans (H11.out.mono (Nat.le_trans HF.out.2.size H9.out.size))))⟩
          case measure => simp [intOf]; omega
        · obtain rfl : k = 3 := by omega
          clear hk hk3
          have hF6 := HF.out.1
          go_wp2_with (refine conv_bytes rfl _ rfl F 3066 hF6.symm rfl ?_)
          rintro w3 fcap hatF hbF hltF hcapF
          have H3 := Lib.hid (And.intro hatF (And.intro (HF.out.2.trans (hbF.mono HF.out.2.size)) hltF))
          clear hatF hbF hltF
          go_wp2_with fail
          have hnn := HNN.out
          have hgt3 : gt < w3.heap.size := by have := H3.out.2.1.size; omega
          have hF7 : F.length = 3066 := hF6
          clear hF6
          by_cases hfit : needN 3066 ≤ l.cnt - l.at_
          · obtain ⟨e1, p1, l1, t1⟩ := append_on HR.out.2.1 HR.out.2.2.1 F (by omega) (by rw [hF7]; exact hfit)
            refine (append_sysX (w := w3) HA.out.1 H3.out.2.1 hB0 HT.out (by omega) (by rw [hnn.2.2.2.1]; decide) (by omega) (by omega) (by omega) (by omega) (some ⟨_, 0, none⟩) 3066 fcap F hF7.symm (by rw [hF7]; exact hcapF) (by omega) H3.out.1 (fun j hj _ => .inr (.inl (by cases hj; exact HF.out.2.size))) (by rw [hF7]; exact hfit)).mono ?_
            rintro e w4 ⟨rfl, h4, hsty4⟩
            rw [e1] at h4 ⊢
            have m0 : w4.cell? ⟨gt, 0, none⟩ = some (.int .i64 y0) := ((World.cell?_of_block (a := ⟨gt, 0, none⟩) (hsty4.block gt hgt3 (fun h => h rfl))).trans (World.cell?_of_block (a := ⟨gt, 0, none⟩) (H3.out.2.1.block gt hszw))).trans HA.out.2.1
            have m3 : w4.cell? ⟨gt, 3, none⟩ = some (.int .i64 y3) := ((World.cell?_of_block (a := ⟨gt, 3, none⟩) (hsty4.block gt hgt3 (fun h => h rfl))).trans (World.cell?_of_block (a := ⟨gt, 3, none⟩) (H3.out.2.1.block gt hszw))).trans HA.out.2.2
            have hage4 : (appendL l 0 F).age ≤ i + 1 := by simp [appendL]; omega
            have H4 := Lib.hid (And.intro h4 (And.intro p1 (And.intro l1 (And.intro t1 (And.intro hage4 m3)))))
            clear h4 hsty4 e1 p1 l1 t1 hage4 m3 hfit
            generalize (appendP l.f s l.at_ l.age l.next F).2 = s4 at *
            generalize appendL l 0 F = l4 at *
            go_upto_if 106 with (fail)
            by_cases hy : y0.tmod 3 = 0
            · have hd : (y0.tmod 3 == 0) = true := by simp [hy]
              obtain ⟨q, hq5, hqe⟩ : ∃ q : Nat, q < 5 ∧ wrap64 ((IntKind.u64.wrap y3).tmod 5) = (q : Int) := cutmod0 y3 5 (by decide) (by decide)
              have m3 := H4.out.2.2.2.2.2
              clear hy
              go_wp2_with fail
              rw [hqe]
              clear hqe m3 m0 hd
              refine (arm_sysX H4.out.1 q (by omega)).mono ?_
              rintro e w5 ⟨⟨v5, rfl⟩, h5, _⟩
              have H5 := Lib.hid (And.intro h5 (H4.out.2.1.armed (q : Int)))
              clear h5
              have kc := conv_const
              go_wp2_with fail
              clear kc
              have hst4 := H4.out.2.2.2.1
              have hag4 := H4.out.2.2.2.2.1
              refine (append_next (w := w5.alloc _) H5.out.1 H5.out.2 ((Below.refl _ w5).alloc (Nat.le_refl _) _) hB0 HT.out (by simp only; omega) (by omega) (some ⟨w5.heap.size, 0, none⟩) 4 nextB rfl (by decide) (At.new w5 _ _ (4, 5)) (fun j hj _ => by cases hj; exact .inr (.inl (Nat.le_refl _)))).mono ?_
              rintro e w6 ⟨z6, s6, l6, rfl, h6, hs6, hW6, hcr⟩
              obtain ⟨l7, recs7, hp7, hag7, hr7⟩ := hcr P
              have hrl7 : recs7.length ≤ 14 := by rcases hr7 with h | h <;> rw [h] <;> simp <;> omega
              have hall7 : ∀ r ∈ recs7, r = nextB ∨ r.length = 3066 := by
                have ho := HR.out.2.2.2.2.2
                intro r hr
                rcases hr7 with h | h
                · rw [h] at hr
                  rcases List.mem_append.1 hr with hr | hr
                  · exact ho r hr
                  · rw [List.mem_singleton] at hr; rw [hr]; exact .inr hF7
                · rw [h] at hr
                  rcases List.mem_append.1 hr with hr | hr
                  · rcases List.mem_append.1 hr with hr | hr
                    · exact ho r hr
                    · rw [List.mem_singleton] at hr; rw [hr]; exact .inr hF7
                  · rw [List.mem_singleton] at hr; exact .inl hr
              have H6 := Lib.hid (And.intro h6 (And.intro hW6 (And.intro hp7 (And.intro hall7 h6.bel))))
              have hst7 : (s6.crash P).steps ≤ 100 + 60 * (i + 1) := by simp only [DS.crash] at *; omega
              have HST7 := Lib.hid hst7
              clear h6 hW6 hp7 hall7 hr7 hcr hst7 hs6 hst4
              go_wp2_with fail
              refine (crash_sysX H6.out.1.own (by have := H6.out.2.1; omega) po pcap P hP (HPA.out.below H6.out.2.2.2.2) (fun b hb hn => .inl (HPW.out hn b hb))).mono ?_
              rintro e w7 ⟨⟨v7, rfl⟩, h7, _⟩
              have H7 := Lib.hid h7
              clear h7
              go_wp2_with fail
              refine (open_sysX H7.out HT.out H6.out.2.2.1 (by omega)).mono ?_
              rintro e w8 ⟨g8, ro, rcap, rfl, h8, hrec, hb78⟩
              have H8 := Lib.hid (And.intro (show ST W w8 d g8 (i + 1) from ⟨_, _, _, h8.sys, H6.out.2.2.1, rfl, HST7.out, by omega, H6.out.2.2.2.1⟩) hrec)
              clear h8 hrec hb78
              go_wp2_with fail
              go_loopw [21] (fun v21 wr => ∃ k : Nat, k ≤ recs7.length ∧ v21 = .int .i64 (k : Int) ∧ wr = w8) (fun v21 _ => 14 - (intOf v21).toNat)
              case atStart => exact ⟨0, by omega, rfl, rfl⟩
              case round =>
                obtain ⟨k, hk, rfl, rfl⟩ := hrel
                by_cases hlt : k < recs7.length
                · have hd1 : decide ((k : Int) < (recs7.length : Int)) = true := decide_eq_true (by omega)
                  obtain ⟨vs, hat, hall, _⟩ := H8.out.2
                  obtain ⟨v1, hv1, ao1, c1, rfl, a1, _⟩ := hall.get k hlt
                  have hvl : k < vs.length := by rw [hall.1]; exact hlt
                  obtain ⟨rb, rof, rfl, hc0⟩ := hat.exv k hvl
                  have hvi : vs[k] = .slice ao1 recs7[k].length c1 := by rw [List.getElem?_eq_getElem hvl] at hv1; exact Option.some.inj hv1
                  rw [hvi] at hc0
                  have hin := H6.out.2.2.2.1 recs7[k] (List.getElem_mem hlt)
                  obtain ⟨x, hx⟩ : ∃ x, recs7[k] = x := ⟨_, rfl⟩
                  rw [hx] at hc0 a1 hin
                  obtain ⟨nx, hnx⟩ : ∃ nx, x.length = nx := ⟨_, rfl⟩
                  rw [hnx] at hc0 hin
                  have HA := Lib.hid (And.intro a1 hnx)
                  clear hat hall a1 hvi hv1 hx hvl hnx
                  rcases hin with hin | hin
                  · subst hin
                    have hxe : ((⟨nextB.toArray⟩ : ByteArray) != ⟨#[110, 101, 120, 116]⟩) = false := by decide
                    go_wp2_with (refine conv_str rfl _ rfl ao1 _ c1 rfl nextB HA.out.1 HA.out.2.symm ?_)
                    go_roundw
                    case rel => exact ⟨k + 1, by omega, by simp, trivial⟩
                    case measure => simp [intOf]; omega
                  · subst hin
                    have hxn : ¬ x = [110, 101, 120, 116] := by
                      rintro rfl
                      have h := HA.out.2
                      simp at h
                    have hxd : (x == [110, 101, 120, 116]) = false := by simpa using hxn
                    go_wp2_with (refine conv_str rfl _ rfl ao1 _ c1 rfl x HA.out.1 HA.out.2.symm ?_)
                    go_roundw
                    case rel => exact ⟨k + 1, by omega, by simp, trivial⟩
                    case measure => simp [intOf]; omega
                · have hd1 : decide ((k : Int) < (recs7.length : Int)) = false := decide_eq_false (by omega)
                  go_wp2_with fail
                  go_roundw
                  case rel => exact ⟨i + 1, g8, by omega, by omega, by simp, rfl, H8.out.1⟩
                  case measure => simp [intOf]; omega
            · have hd : (y0.tmod 3 == 0) = false := by simpa using hy
              have H4' := Lib.hid (show ST W w4 d g (i + 1) from ⟨_, _, _, H4.out.1.sys, H4.out.2.1, H4.out.2.2.1, by have := H4.out.2.2.2.1; omega, by have := H4.out.2.2.2.2.1; omega, by
                intro r hr
                rcases List.mem_append.1 hr with hr | hr
                · exact HR.out.2.2.2.2.2 r hr
                · rw [List.mem_singleton] at hr; rw [hr]; exact .inr hF7⟩)
              clear hy
              go_wp2_with fail
              go_roundw
              case rel => exact ⟨i + 1, g, by omega, by omega, by simp, rfl, H4'.out⟩
              case measure => simp [intOf]; omega
          · have hfit' : l.cnt - l.at_ < needN 3066 := by omega
            refine (appendFull_any (some ⟨_, 0, none⟩) 3066 fcap w3 (HA.out.1.log.below H3.out.2.1) (by omega) (by omega) (by omega) hfit').mono ?_
            rintro e w4 ⟨rfl, hb4⟩
            have H4 := Lib.hid (HA.out.1.below (H3.out.2.1.trans (hb4.mono H3.out.2.1.size)))
            clear hb4 hfit hfit'
            go_wp2_with fail
            obtain ⟨e1, p1, l1, t1⟩ := trunc_on HR.out.2.1 HR.out.2.2.1
            refine (truncate_sysX H4.out hB0 HT.out (by omega) (by rw [hnn.2.2.2.1]; decide) (by omega) (by omega)).mono ?_
            rintro e w5 ⟨rfl, h5, _⟩
            rw [e1] at h5 ⊢
            have hage5 : (truncL l 0).age ≤ i + 2 := by simp [truncL]; omega
            have hst5 : (truncP l.f s l.age).2.steps ≤ 100 + 60 * (i + 1) := by omega
            have H5 := Lib.hid (And.intro h5 (And.intro p1 (And.intro l1 (And.intro hst5 hage5))))
            clear h5 e1 p1 l1 t1 hst5 hnn
            generalize (truncP l.f s l.age).2 = s5 at *
            generalize truncL l 0 = l5 at *
            go_wp2_with fail
            refine (open_sysX H5.out.1.own HT.out H5.out.2.1 (by omega)).mono ?_
            rintro e w6 ⟨g6, ro, rcap, rfl, h6, hrec, hb56⟩
            clear h6 hrec
            have H6 := Lib.hid (show ST W w6 d g (i + 1) from ⟨s5, l5, [], (H5.out.1.below hb56).sys, H5.out.2.1, H5.out.2.2.1, H5.out.2.2.2.1, by have := H5.out.2.2.2.2; omega, by simp⟩)
            clear hb56 hage5
            rw [List.length_nil]
            go_wp2_with fail
            go_roundw
            case rel => exact ⟨i + 1, g, by omega, by omega, by simp, rfl, H6.out⟩
            case measure => simp [intOf]; omega
    · have hcases : ¬ i < es.length ∨ (i < es.length ∧ ¬ i < 12) := by omega
      clear hc1
      rcases hcases with hc | ⟨hc, hc5⟩
      · have hd1 : decide ((i : Int) < (es.length : Int)) = false := decide_eq_false (by omega)
        go_wp2_with fail
        go_returns
        exact ⟨rfl, HBr.out⟩
      · have hd1 : decide ((i : Int) < (es.length : Int)) = true := decide_eq_true (by omega)
        have hd2 : decide ((i : Int) < 12) = false := decide_eq_false (by omega)
        go_wp2_with fail
        go_returns
        exact ⟨rfl, HBr.out⟩

theorem own : ownKnob Tryd.prog.godebug = none := by kernel_rfl
theorem laidOut : laidOutB Tryd.prog = true := by kernel_rfl
theorem readable : ∀ t ∈ Tryd.f7.params.toList, Tryd.prog.readableRec t = true ∧ t < Tryd.prog.types.size := by
  rw [Tryd.params7]
  intro t ht
  simp at ht
  rcases ht with rfl | rfl
  · exact ⟨by kernel_rfl, of_decide_eq_true (by kernel_rfl)⟩
  · exact ⟨by kernel_rfl, of_decide_eq_true (by kernel_rfl)⟩

theorem laid_met (os : Os) : laidMet Tryd.prog Rows.walStaleRow.laid ((laidWorld os).forCall (fun _ _ => 0) ⟨#[], #[.slice none 0 0, .slice none 0 0], []⟩).memory :=
  laidMet_of_run' 8 (by kernel_rfl) (by kernel_rfl)
theorem reads (os : Os) {H : Type} (enc : TypeId × Value → H) : DataW.whole enc Tryd.prog ((laidWorld os).forCall (fun _ _ => 0) ⟨#[], #[.slice none 0 0, .slice none 0 0], []⟩).memory Tryd.f7.params.toList Rows.walStaleSpec.vars false (#[.slice none 0 0, .slice none 0 0] : Array Value).toList 8 = some ([.nil, .nil], [], []) := by kernel_rfl
set_option maxRecDepth 100000 in
theorem lifted (os : Os) (started : os.Started) (H : Type) (enc : TypeId × Value → H) (F : Stop.Interp) :
    ReturnsInHanded {} Tryd.checked os 7 .any ((OpenSpec.ofChange Rows.walStaleSpec).preRow enc Tryd.prog Tryd.f7 Rows.walStaleRow.domain false Rows.walStaleRow.laid) (((OpenSpec.ofChange Rows.walStaleSpec).at F).post enc Tryd.prog Tryd.f7 false true false false) := by
  have hx := reads os enc
  refine returnsInHanded_of_row (C := Tryd.checked) (s := OpenSpec.ofChange Rows.walStaleSpec) own started (by kernel_rfl) Tryd.func7
    (witness_row_at (enc := enc) (C := Tryd.checked) false (laidWorld os) #[.slice none 0 0, .slice none 0 0] rfl (by kernel_rfl) (by kernel_rfl) (by kernel_rfl)
      (OpenSpec.preRow_of_cond 8 hx (by kernel_rfl) (fun k hk => by cases hk) (by kernel_rfl) (laid_met os))) ?_
  intro W base args ds gs before hval0 hW _ _ _ hL _ _
  have ht : Tab W := table_of hL
  have hval : ∀ (j : Nat) t v, Tryd.f7.params[j]? = some t → args[j]? = some v → Value.okWide Tryd.prog W .any base t v := hval0
  have hW' := hW
  obtain ⟨p, q, hA0, hV, rfl, hfz, hnd⟩ := hW
  have hA : DataW.TrodAll enc Tryd.prog W 0 (fun _ => true) true Tryd.f7.params.toList args.toList ds p := hA0
  rw [Tryd.params7] at hA hval
  obtain ⟨v0, v1, d0, d1, p0, p1, rfl, rfl, rfl, h0, h1⟩ := trodAll_two hA
  obtain ⟨rfl, rfl⟩ := trodVars_none hV
  obtain ⟨ao, cap, es, rfl, hc, hm, hes⟩ := open_spots Tryd.underlying56 (by kernel_rfl) Tryd.underlying58 (by kernel_rfl) Tryd.underlying3 Tryd.underlying22 Tryd.underlying5 cellsU8 (by kernel_rfl) (by kernel_rfl) (hval 0 56 v0 rfl rfl) h0
  obtain ⟨po, pcap, l, rfl, hpc, hpm, hpat, _⟩ := open_intsl Tryd.underlying45 Tryd.underlying3 (by kernel_rfl) (hval 1 45 v1 rfl rfl) h1
  refine (walk ao cap es (by omega) po pcap l (by omega) W (World.block_lt_of_cell? (a := ⟨0, 0, none⟩) W (ht 0 (by decide))) hes hpat ht).mono fun e W' ⟨he, hb⟩ => ?_
  subst he
  exact ⟨_, rfl, post_law laidOut rfl rfl Tryd.underlying4 readable rfl rfl rfl hW' hb⟩

theorem said : Rows.WalStaleSaid :=
  OpenClaim.holds_of_cond 7 Tryd.f7 rfl rfl rfl rfl rfl rfl rfl ⟨rfl, rfl, rfl, rfl, rfl⟩ rfl rfl rfl rfl rfl (by kernel_rfl) Tryd.func7 (by kernel_rfl)
    (of_decide_eq_true (by kernel_rfl)) (by unfold Func.isWrapper; first | (rw [if_pos (by decide +kernel)]; kernel_rfl) | (rw [if_neg (by decide +kernel)]; exact ⟨rfl, rfl⟩))
    (fun os started H enc _ F => by rw [OpenClaim.pre_eq_preRow]; exact lifted os started H enc F)

/-- No parameter wants a stand-in; the program's own looks are off. -/
theorem plain (f : FuncId) (fn : Func) (hf : Tryd.pinned.checked.prog.funcNamed "scriptor/scriptorlaw05.WalStale" = some f) (hfn : Tryd.pinned.checked.prog.funcs[f]? = some fn) :
    false = Tryd.pinned.checked.prog.looks [] ∧ ∀ (j : Nat) t, fn.params[j]? = some t → Tryd.pinned.checked.prog.wantsStandIn t = false := by
  obtain rfl : f = 7 := Option.some.inj ((show Tryd.prog.funcNamed "scriptor/scriptorlaw05.WalStale" = some 7 by kernel_rfl).symm.trans hf) |>.symm
  obtain rfl : fn = Tryd.f7 := (Option.some.inj (Tryd.func7.symm.trans hfn)).symm
  refine ⟨by kernel_rfl, fun j t ht => ?_⟩
  have hall : ∀ t ∈ Tryd.f7.params.toList, Tryd.prog.wantsStandIn t = false := by
    rw [Tryd.params7]
    intro t ht
    simp at ht
    rcases ht with rfl | rfl
    · kernel_rfl
    · kernel_rfl
  exact hall t (Array.mem_toList_iff.2 (Array.mem_of_getElem? ht))

theorem card : Rows.WalStaleCardSaid :=
  Claim7.holds_tied_plain_at .later [] _ _ _ _ said (fun _ h => by cases h) (by kernel_rfl) (fun _ h => by cases h) walStale_row_tie rfl ⟨rfl, rfl⟩ (by kernel_rfl) rfl plain (by kernel_rfl)
end Go.Proofs.YtnonhmjfhcmpgaaDoor.walStale
