/- THE LAW WalFull: a record of just the bytes that there is room for is taken, one of a byte more isn't; then there is room again behind a Truncate, whose age is one greater. -/
import Derived.Test.YtnonhmjfhcmpgaaDoorWalTab
import Derived.Test.YtnonhmjfhcmpgaaDoorWalC
import Derived.Test.YtnonhmjfhcmpgaaDoorWalE
namespace Go.Proofs.YtnonhmjfhcmpgaaDoor.walFull
open Go.ChangeShapes Go.WideShapes Go.ChangeAt Go.RowKit Go.ChangeMaps

/-- The log's place, as it stands in its object. -/
def posOf (w : World) (g : Nat) : Nat := match w.cell? ⟨g, 5, none⟩ with
  | some (.int _ z) => z.toNat
  | _ => 0
theorem posOf_log {w : World} {g d : Nat} {l : LS} (h : LogAt w g d l) : posOf w g = l.at_ := by
  unfold posOf
  rw [h.cells.2.2.2.2.2]
  simp
/-- A log in order in the midst of the law. -/
def St (W w : World) (d g : Nat) (age n : Nat) : Prop := ∃ s l recs, Sysd W w d g s l ∧ PL s l recs ∧ s.left = -1 ∧ s.steps ≤ n ∧ l.age = age
/-- .. in the second loop. -/
def St2 (W w : World) (d g : Nat) (age : Nat) : Prop := ∃ s l recs, Sysd W w d g s l ∧ PL s l recs ∧ s.left = -1 ∧ s.steps ≤ 300 + 20 * l.at_ ∧ l.age = age
theorem cut_mod (c : Int) (n : Nat) (hn : n ≤ 1000000) : ∃ k : Nat, k ≤ n ∧ wrap64 ((IntKind.u64.wrap c).tmod ((n : Int) + 1)) = (k : Int) := by
  obtain ⟨k, hk, e⟩ := cutmod0 c (n + 1) (by omega) (by omega)
  exact ⟨k, by omega, by rw [← e]; rfl⟩
theorem op_makeZ {w : World} {ops : Array Oper} {rest : List Oper} {o : Oper} {a : Act} {Q : Exit → Act → World → Prop} (hgd : Region.wanted o (yielded ops a.tmps) = true) (x y : Operand) (ho : o.op = .makeSlice 22 x y) (n : Nat) (z : Int) (hz : z = n) (hx : a.eval x = .int .i64 z) (hy : a.eval y = .int .i64 z) (hn : n ≤ 70368744177664)
    (h : ∀ w', w'.ownsRow w.heap.size 5 1 (.slice (some ⟨w.heap.size, 0, none⟩) n n) n (bytesV (List.replicate n 0)) → w.grownBy w' none → wpList Tryd.prog ops Q rest (a.put o.dst (.slice (some ⟨w.heap.size, 0, none⟩) n n)) w') : wpList Tryd.prog ops Q (o :: rest) a w := by
  subst hz
  exact op_make hgd x y ho n hx hy hn h
theorem recs_bound {s : DS} {l : LS} {recs : List (List UInt8)} (h : PL s l recs) : recs.length ≤ 12 := by
  have := h.inv.two
  have := h.inv.le
  have := h.cnt
  omega

set_option maxRecDepth 100000 in
set_option maxHeartbeats 4000000 in
theorem walk (ao : Option Addr) (cap : Nat) (es : List (Int × List UInt8 × Int)) (hlen : es.length ≤ 9223372036854775807) (less : Int) (W : World) (hB0 : 0 < W.heap.size) (hes : EntsAt W ao es) (ht : Tab W) :
    Calls Tryd.prog 6 #[.slice ao es.length cap, .int .i64 less] W (Says W (.bool true)) := by
  have HT := Lib.hid ht
  have HE := Lib.hid hes
  clear hes ht
  go_enter Tryd.func6, Tryd.ntmps6
  go_wp2_with fail
  refine (fresh_any W hB0 HT.out).mono ?_
  rintro e w1 ⟨d, g, rfl, hsys1⟩
  have H1 := Lib.hid hsys1
  have hb1 := hsys1.bel
  have hs1 := hb1.size
  have HB1 := Lib.hid hb1
  clear hsys1 hb1
  go_wp2_with fail
  refine (logs_any w1 (by omega) (HT.out.below HB1.out)).mono ?_
  rintro e w2 ⟨rfl, hb2⟩
  have hs2 := hb2.size
  have hst : St W w2 d g 1 100 := ⟨freshS, freshL, [], H1.out.below hb2, freshP.1, freshP.2.1, freshP.2.2, rfl⟩
  have H2 := Lib.hid (And.intro hst (HB1.out.trans (hb2.mono hs1)))
  clear hb2 hst
  go_wp2_with fail
  go_loopw [8] (fun v wr => ∃ i : Nat, i ≤ 5 ∧ i ≤ es.length ∧ v = .int .i64 (i : Int) ∧ St W wr d g 1 (100 + 20 * i)) (fun v _ => 5 - (intOf v).toNat)
  case atStart => exact ⟨0, by omega, by omega, rfl, H2.out.1⟩
  case round =>
    obtain ⟨i, hi5, hil, rfl, s, l, recs, hsys, hpl, hleft, hsteps, hage⟩ := hrel
    have HR := Lib.hid (And.intro hsys (And.intro hpl (And.intro hleft (And.intro hsteps hage))))
    have hbel := hsys.bel
    have hszr := hbel.size
    have HBr := Lib.hid hbel
    have hrb := recs_bound hpl
    have hnx := hpl.next
    have hcnt := hpl.cnt
    have hatle := hpl.at_le
    have hff := hpl.f
    have HN := Lib.hid (And.intro hrb (And.intro hnx (And.intro hcnt (And.intro hatle hff))))
    clear hsys hpl hleft hsteps hage hbel hrb hnx hcnt hatle hff
    by_cases hc1 : i < es.length ∧ i < 5
    · obtain ⟨hlt, hlt5⟩ := hc1
      have hd1 : decide ((i : Int) < (es.length : Int)) = true := decide_eq_true (by omega)
      have hd2 : decide ((i : Int) < 5) = true := decide_eq_true (by omega)
      obtain ⟨eb, eo, bo, bcap, rfl, q0, q1, q2, hbc, hbm, hbat, _⟩ := HE.out i hlt
      obtain ⟨b0, hb0⟩ : ∃ b0, es[i].2.1 = b0 := ⟨_, rfl⟩
      rw [hb0] at q1 hbc hbat
      have c1 : wr.drew.cell? ⟨eb, eo + i * 3 + 1, none⟩ = some (.slice bo b0.length bcap) := (World.cell?_of_block (a := ⟨eb, eo + i * 3 + 1, none⟩) (HBr.out.block eb (World.block_lt_of_cell? (a := ⟨eb, eo + i * 3 + 1, none⟩) W q1))).trans q1
      have HC := Lib.hid c1
      have HBT := Lib.hid (show At wr.drew bo (bytesV (b0.take 1500)) from (hbat.takeB 1500).below HBr.out.drew)
      have HBW := Lib.hid (fun (hne : b0.take 1500 ≠ []) (j : Nat) (hj : blk bo = some j) => show j < W.heap.size from by
        obtain ⟨j', hj', hlt'⟩ := (hbat.takeB 1500).lt (by intro h; apply hne; simpa [bytesV] using h)
        rw [hj] at hj'
        cases hj'
        exact hlt')
      have hbl : (b0.take 1500).length = min b0.length 1500 := by rw [List.length_take]; omega
      obtain ⟨n, hn⟩ : ∃ n, min b0.length 1500 = n := ⟨_, rfl⟩
      rw [hn] at hbl
      have hmin : min ((b0.length : Nat) : Int) 1500 = (n : Int) := by omega
      have hn1 : n ≤ 1500 := by omega
      have hn2 : n ≤ bcap := by omega
      have HL := Lib.hid (And.intro hbl hmin)
      clear q0 q1 q2 c1 hbat hb0 hn hbl hmin
      go_wp2_with fail
      refine seql_start [14] (by kernel_rfl) ?_
      refine seql_take 0 (v := ?_) rfl (by kernel_rfl) (fun _ _ _ h => h) (by rfl) (fun w' hw' => ?_) ?_
      rotate_left
      · go_simp; try with_reducible rfl
      try simp only [List.getElem_toArray, List.getElem_cons_succ, List.getElem_cons_zero, Act.put, List.setIfInBounds_toArray, List.set_cons_zero, List.set_cons_succ]
      refine seql_take 1 (v := ?_) rfl (by kernel_rfl) (fun _ _ _ h => h) (by rfl) (fun w' hw' => ?_) ?_
      rotate_left
      · go_simp; try with_reducible rfl
      try simp only [List.getElem_toArray, List.getElem_cons_succ, List.getElem_cons_zero, Act.put, List.setIfInBounds_toArray, List.set_cons_zero, List.set_cons_succ]
      refine seql_take 2 (v := ?_) rfl (by kernel_rfl) (fun _ _ _ h => h) (by rfl) (fun w' hw' => ?_) ?_
      rotate_left
      · go_simp; try with_reducible rfl
      try simp only [List.getElem_toArray, List.getElem_cons_succ, List.getElem_cons_zero, Act.put, List.setIfInBounds_toArray, List.set_cons_zero, List.set_cons_succ]
      refine seql_take 3 (v := ?_) rfl (by kernel_rfl) (fun _ _ _ h => h) (by rfl) (fun w' hw' => ?_) ?_
      rotate_left
      · go_simp; try with_reducible rfl
      try simp only [List.getElem_toArray, List.getElem_cons_succ, List.getElem_cons_zero, Act.put, List.setIfInBounds_toArray, List.set_cons_zero, List.set_cons_succ]
      refine seql_take 4 (v := ?_) rfl (by kernel_rfl) (fun _ _ _ h => h) (by rfl) (fun w' hw' => ?_) ?_
      rotate_left
      · go_simp; try with_reducible rfl
      try simp only [List.getElem_toArray, List.getElem_cons_succ, List.getElem_cons_zero, Act.put, List.setIfInBounds_toArray, List.set_cons_zero, List.set_cons_succ]
      refine seql_take 5 rfl (by kernel_rfl) (fun _ _ _ h => h) (by rfl) (seq_ldb rfl rfl (HC.out)) ?_
      try simp only [List.getElem_toArray, List.getElem_cons_succ, List.getElem_cons_zero, Act.put, List.setIfInBounds_toArray, List.set_cons_zero, List.set_cons_succ]
      refine seql_take 6 (v := ?_) rfl (by kernel_rfl) (fun _ _ _ h => h) (by rfl) (fun w' hw' => ?_) ?_
      rotate_left
      · go_simp; try with_reducible rfl
      try simp only [List.getElem_toArray, List.getElem_cons_succ, List.getElem_cons_zero, Act.put, List.setIfInBounds_toArray, List.set_cons_zero, List.set_cons_succ]
      refine seql_take 7 (v := ?_) rfl (by kernel_rfl) (fun _ _ _ h => h) (by rfl) (fun w' hw' => ?_) ?_
      rotate_left
      · go_simp; try with_reducible rfl
      try simp only [List.getElem_toArray, List.getElem_cons_succ, List.getElem_cons_zero, Act.put, List.setIfInBounds_toArray, List.set_cons_zero, List.set_cons_succ]
      refine seql_take 8 (v := ?_) rfl (by kernel_rfl) (fun _ _ _ h => h) (by rfl) (fun w' hw' => ?_) ?_
      rotate_left
      · go_simp; try with_reducible rfl
      try simp only [List.getElem_toArray, List.getElem_cons_succ, List.getElem_cons_zero, Act.put, List.setIfInBounds_toArray, List.set_cons_zero, List.set_cons_succ]
      refine seql_take 9 (v := ?_) rfl (by kernel_rfl) (fun _ _ _ h => h) (by rfl) (fun w' hw' => ?_) ?_
      rotate_left
      · go_simp; try with_reducible rfl
      try simp only [List.getElem_toArray, List.getElem_cons_succ, List.getElem_cons_zero, Act.put, List.setIfInBounds_toArray, List.set_cons_zero, List.set_cons_succ]
      refine seql_take 10 rfl (by kernel_rfl) (fun _ _ _ h => h) (by rfl) (seq_ldb rfl rfl (HC.out)) ?_
      try simp only [List.getElem_toArray, List.getElem_cons_succ, List.getElem_cons_zero, Act.put, List.setIfInBounds_toArray, List.set_cons_zero, List.set_cons_succ]
      refine seql_take 11 (v := ?_) rfl (by kernel_rfl) (fun _ _ _ h => h) (by rfl) (fun w' hw' => ?_) ?_
      rotate_left
      · go_simp; try with_reducible rfl
      try simp only [List.getElem_toArray, List.getElem_cons_succ, List.getElem_cons_zero, Act.put, List.setIfInBounds_toArray, List.set_cons_zero, List.set_cons_succ]
      refine seql_take 12 rfl (by kernel_rfl) (fun _ _ _ h => h) (by rfl) (yields_min2 rfl rfl rfl (HL.out.2)) ?_
      try simp only [List.getElem_toArray, List.getElem_cons_succ, List.getElem_cons_zero, Act.put, List.setIfInBounds_toArray, List.set_cons_zero, List.set_cons_succ]
      refine seql_take 13 rfl (by kernel_rfl) (fun _ _ _ h => h) (by rfl) (seq_hi rfl rfl rfl (hn2)) ?_
      try simp only [List.getElem_toArray, List.getElem_cons_succ, List.getElem_cons_zero, Act.put, List.setIfInBounds_toArray, List.set_cons_zero, List.set_cons_succ]
      refine seql_last 14 rfl (by kernel_rfl) (by kernel_rfl) (by rfl) (fun KK hKK => ?_)
      go_wp2_with fail
      by_cases hfit : needN n ≤ l.cnt - l.at_
      · obtain ⟨e1, p1, l1, t1⟩ := append_on HR.out.2.1 HR.out.2.2.1 (b0.take 1500) (by rw [HL.out.1]; omega) (by rw [HL.out.1]; exact hfit)
        have hn' := HN.out
        have hst' := HR.out.2.2.2.1
        have hag' := HR.out.2.2.2.2
        refine (append_sys (w0 := W) (wp := wr.drew) (HR.out.1.below (Below.refl _ wr).drew) (Below.refl _ _) hB0 HT.out (by omega) (by rw [HR.out.2.1.W]; decide) (by omega) (by omega) (by omega) (by omega) bo n bcap (b0.take 1500) HL.out.1.symm (by rw [HL.out.1]; exact hn2) (by rw [HL.out.1]; omega) HBT.out (fun j hj hne => .inl (HBW.out hne j hj)) (by rw [HL.out.1]; exact hfit)).mono ?_
        rintro e w5 ⟨rfl, h5⟩
        rw [e1] at h5 ⊢
        have H5 := Lib.hid (show St W w5 d g 1 (100 + 20 * (i + 1)) from ⟨_, _, _, h5, p1, l1, by omega, hag'⟩)
        clear h5 e1 p1 l1 t1 hn' hst' hag'
        go_wp2_with fail
        refine seql_done (by kernel_rfl) ?_
        go_wp2_with fail
        go_roundw
        case rel => exact ⟨i + 1, by omega, by omega, by simp, H5.out⟩
        case measure => simp [intOf]; omega
      · have hn' := HN.out
        refine (appendFull_any bo n bcap wr.drew HR.out.1.log.drew (by omega) (by omega) (by omega) (by omega)).mono ?_
        rintro e w5 ⟨rfl, hb5⟩
        have H5 := Lib.hid (show St W w5 d g 1 (100 + 20 * (i + 1)) from ⟨s, l, recs, (HR.out.1.below (Below.refl _ wr).drew).below hb5, HR.out.2.1, HR.out.2.2.1, by have := HR.out.2.2.2.1; omega, HR.out.2.2.2.2⟩)
        clear hb5 hn'
        go_wp2_with fail
        refine seql_done (by kernel_rfl) ?_
        go_wp2_with fail
        go_roundw
        case rel => exact ⟨i + 1, by omega, by omega, by simp, H5.out⟩
        case measure => simp [intOf]; omega
    · have hst2 : St2 W wr d g 1 := ⟨s, l, recs, HR.out.1, HR.out.2.1, HR.out.2.2.1, by have := HR.out.2.2.2.1; omega, HR.out.2.2.2.2⟩
      have HST := Lib.hid hst2
      clear hst2
      have hcases : ¬ i < es.length ∨ (i < es.length ∧ ¬ i < 5) := by omega
      clear hc1
      rcases hcases with hc | ⟨hc, hc5⟩
      · have hd1 : decide ((i : Int) < (es.length : Int)) = false := decide_eq_false (by omega)
        go_wp2_with fail
        clear hc hd1
        go_loopw [9] (fun _ wr => St2 W wr d g 1) (fun _ wr => 15 - posOf wr g)
        case atStart => exact HST.out
        case round =>
          obtain ⟨s, l, recs, hsys, hpl, hleft, hsteps, hage⟩ := hrel
          have HR := Lib.hid (And.intro hsys (And.intro hpl (And.intro hleft (And.intro hsteps hage))))
          have hbel := hsys.bel
          have hszr := hbel.size
          have HBr := Lib.hid hbel
          have hrb := recs_bound hpl
          have hnx := hpl.next
          have hcnt := hpl.cnt
          have hatle := hpl.at_le
          have hat2 : 2 ≤ l.at_ := by have := hpl.inv.two; omega
          have hff := hpl.f
          have hroom : roomP l = if 14 ≤ l.at_ then -1 else ((14 - l.at_ - 1 : Nat) : Int) * 511 := by unfold roomP; rw [hcnt]
          have HRM := Lib.hid hroom
          have HN := Lib.hid (And.intro hrb (And.intro hnx (And.intro hcnt (And.intro hatle (And.intro hff hage)))))
          clear hsys hpl hleft hsteps hage hbel hrb hnx hcnt hff hroom
          go_wp2_with fail
          refine (room_any _ HR.out.1.log (by have := HN.out; omega) (by omega)).mono ?_
          rintro e w3 ⟨rfl, hb3⟩
          have H3 := Lib.hid (HR.out.1.below hb3)
          have HB3 := Lib.hid hb3
          clear hb3
          by_cases hat14 : l.at_ < 14
          · obtain ⟨n, hn⟩ : ∃ n, (14 - l.at_ - 1) * 511 = n := ⟨_, rfl⟩
            have hrn : roomP l = (n : Int) := by rw [HRM.out, if_neg (by omega)]; omega
            have HRN := Lib.hid hrn
            have HNN := Lib.hid hn
            have hnb : n ≤ 6132 := by omega
            rw [hrn]
            clear hrn hn
            go_wp2_with fail
            refine (room_any w3 H3.out.log (by have := HN.out; omega) (by omega)).mono ?_
            rintro e w4 ⟨rfl, hb4⟩
            rw [HRN.out]
            have H4 := Lib.hid (H3.out.below hb4)
            have HB4 := Lib.hid hb4
            clear hb4
            go_wp2_with (refine op_makeZ rfl _ _ rfl (n + 1) _ (by omega) rfl rfl (by omega) ?_; rintro w5 q1 q2; have Q5 := Lib.hid (And.intro (At.own q1) (grown_below q2)); clear q1 q2)
            refine (appendFull_any _ (n + 1) (n + 1) w5 (H4.out.below Q5.out.2).log (by omega) (by have := HN.out; omega) (by have := HN.out; omega) (by have := HN.out; have := HNN.out; unfold needN nparts; omega)).mono ?_
            rintro e w6 ⟨rfl, hb6⟩
            have H6 := Lib.hid ((H4.out.below Q5.out.2).below hb6)
            clear hb6
            go_wp2_with fail
            refine (room_any w6 H6.out.log (by have := HN.out; omega) (by omega)).mono ?_
            rintro e w7 ⟨rfl, hb7⟩
            rw [HRN.out]
            have H7 := Lib.hid (H6.out.below hb7)
            clear hb7
            obtain ⟨k, hk, hcm⟩ := cut_mod less n (by omega)
            have hwu : IntKind.u64.wrap ((n : Int) + 1) = (n : Int) + 1 := by rw [IntKind.wrap_u64]; omega
            go_wp2_with (refine op_makeZ rfl _ _ rfl (n - k) _ (by omega) rfl rfl (by omega) ?_; rintro w8 q1 q2; have Q8 := Lib.hid (And.intro (At.own q1) (And.intro (grown_below q2) (fun j hj => (q1.lt j (by rw [own_slice]; exact hj)).1))); clear q1 q2)
            have hfit : needN (List.replicate (n - k) (0 : UInt8)).length ≤ l.cnt - l.at_ := by
              have := HN.out
              have := HNN.out
              rw [List.length_replicate]
              unfold needN nparts
              omega
            obtain ⟨e1, p1, l1, t1⟩ := append_on HR.out.2.1 HR.out.2.2.1 (List.replicate (n - k) 0) (by rw [List.length_replicate]; omega) hfit
            have hst' := HR.out.2.2.2.1
            have hag' := HR.out.2.2.2.2
            have hn' := HN.out
            refine (append_sys (w0 := W) (wp := w7) H7.out Q8.out.2.1 hB0 HT.out (by omega) (by rw [HR.out.2.1.W]; decide) (by omega) (by omega) (by omega) (by omega) (some ⟨w7.heap.size, 0, none⟩) (n - k) (n - k) (List.replicate (n - k) 0) (by simp) (by simp) (by rw [List.length_replicate]; omega) Q8.out.1 (fun j hj _ => .inr (by cases hj; exact Nat.le_refl _)) hfit).mono ?_
            rintro e w9 ⟨rfl, h9⟩
            rw [e1] at h9 ⊢
            have H9 := Lib.hid h9
            have P9 := Lib.hid (And.intro p1 (And.intro l1 t1))
            have hat9 : (appendL l 0 (List.replicate (n - k) 0)).at_ = l.at_ + needN (n - k) := by simp [appendL]
            have hcnt9 : (appendL l 0 (List.replicate (n - k) 0)).cnt = l.cnt := by simp [appendL]
            have hage9 : (appendL l 0 (List.replicate (n - k) 0)).age = l.age := by simp [appendL]
            have A9 := Lib.hid (And.intro hat9 (And.intro hcnt9 hage9))
            clear h9 e1 p1 l1 t1 hst' hag' hat9 hcnt9 hage9
            generalize (appendP l.f s l.at_ l.age l.next (List.replicate (n - k) 0)).2 = s9 at *
            generalize appendL l 0 (List.replicate (n - k) 0) = l9 at *
            have hlt9 : l.at_ < l9.at_ := by rw [A9.out.1]; unfold needN; omega
            have hle9 := P9.out.1.at_le
            go_wp2_with fail
            refine (room_any w9 H9.out.log (by rw [A9.out.2.1]; omega) (by omega)).mono ?_
            rintro e w10 ⟨rfl, hb10⟩
            have hr9 : decide ((n : Int) ≤ roomP l9) = false := by
              refine decide_eq_false ?_
              have := HNN.out
              unfold roomP
              rw [A9.out.2.1, hn'.2.2.1]
              split
              · omega
              · omega
            have H10 := Lib.hid (show St2 W w10 d g 1 from ⟨s9, l9, _, H9.out.below hb10, P9.out.1, P9.out.2.1, by have := P9.out.2.2; have := HR.out.2.2.2.1; omega, by rw [A9.out.2.2]; exact HR.out.2.2.2.2⟩)
            have M10 := Lib.hid (posOf_log (H9.out.below hb10).log)
            have M0 := Lib.hid (posOf_log HR.out.1.log)
            clear hb10 hn'
            go_wp2_with fail
            go_roundw
            case rel => exact H10.out
            case measure =>
              rw [M10.out, M0.out]
              omega
          · have hr14 : roomP l = -1 := by rw [HRM.out, if_pos (by omega)]
            rw [hr14]
            clear hr14
            go_wp2_with fail
            refine (age_any w3 H3.out.log).mono ?_
            rintro e w4 ⟨rfl, rfl⟩
            rw [HN.out.2.2.2.2.2]
            go_wp2_with fail
            refine (appendFull_any none 0 0 w3 H3.out.log (by omega) (by have := HN.out; omega) (by have := HN.out; omega) (by have := HN.out; unfold needN; omega)).mono ?_
            rintro e w5 ⟨rfl, hb5⟩
            have H5 := Lib.hid (H3.out.below hb5)
            clear hb5
            go_wp2_with fail
            obtain ⟨e1, p1, l1, t1⟩ := trunc_on HR.out.2.1 HR.out.2.2.1
            have hst' := HR.out.2.2.2.1
            have hag' := HR.out.2.2.2.2
            have hn' := HN.out
            refine (truncate_sys H5.out hB0 HT.out (by omega) (by rw [HR.out.2.1.W]; decide) (by omega) (by omega)).mono ?_
            rintro e w6 ⟨rfl, h6⟩
            rw [e1] at h6 ⊢
            have H6 := Lib.hid h6
            have P6 := Lib.hid (And.intro p1 (And.intro l1 t1))
            have hage6 : (truncL l 0).age = 2 := by simp [truncL, hag']
            have A6 := Lib.hid hage6
            clear h6 e1 p1 l1 t1 hag' hage6
            generalize (truncP l.f s l.age).2 = s6 at *
            generalize hl6 : truncL l 0 = l6 at *
            have hat6 : l6.at_ = 2 := by rw [← hl6]; rfl
            have B6 := Lib.hid hat6
            clear hl6 hat6
            go_wp2_with fail
            refine (age_any w6 H6.out.log).mono ?_
            rintro e w7 ⟨rfl, rfl⟩
            rw [A6.out]
            have hp6 := P6.out
            have hat6 := B6.out
            have hl614 := hp6.1.cnt
            obtain ⟨e1, p1, l1, t1⟩ := append_on hp6.1 hp6.2.1 [] (by decide) (by rw [hl614, hat6]; decide)
            have hf6 := hp6.1.f
            have hnx6 := hp6.1.next
            have hW6 := hp6.1.W
            have hst6 := hp6.2.2
            rw [List.length_nil] at hnx6
            clear hp6
            have G6 := Lib.hid (And.intro hf6 (And.intro hnx6 (And.intro hW6 (And.intro hst6 (And.intro hl614 (And.intro hat6 e1))))))
            clear hf6 hnx6 hW6 hst6 hl614 hat6 e1 p1 l1 t1
            go_wp2_with fail
            have g6 := G6.out
            refine (append_sys (w0 := W) (wp := w6) H6.out (Below.refl _ _) hB0 HT.out (by omega) (by rw [g6.2.2.1]; decide) (by omega) (by omega) (by omega) (by rw [A6.out]; decide) none 0 0 [] rfl (by decide) (by decide) (At.nil _ _) (fun i hi _ => by cases hi) (by rw [g6.2.2.2.2.1, g6.2.2.2.2.2.1]; decide)).mono ?_
            rintro e w8 ⟨rfl, h8⟩
            rw [g6.2.2.2.2.2.2] at h8 ⊢
            have H8 := Lib.hid h8.bel
            clear h8 g6
            go_wp2_with fail
            go_returns
            exact ⟨rfl, H8.out⟩
      · have hd1 : decide ((i : Int) < (es.length : Int)) = true := decide_eq_true (by omega)
        have hd2 : decide ((i : Int) < 5) = false := decide_eq_false (by omega)
        go_wp2_with fail
        clear hc hd1
        go_loopw [9] (fun _ wr => St2 W wr d g 1) (fun _ wr => 15 - posOf wr g)
        case atStart => exact HST.out
        case round =>
          obtain ⟨s, l, recs, hsys, hpl, hleft, hsteps, hage⟩ := hrel
          have HR := Lib.hid (And.intro hsys (And.intro hpl (And.intro hleft (And.intro hsteps hage))))
          have hbel := hsys.bel
          have hszr := hbel.size
          have HBr := Lib.hid hbel
          have hrb := recs_bound hpl
          have hnx := hpl.next
          have hcnt := hpl.cnt
          have hatle := hpl.at_le
          have hat2 : 2 ≤ l.at_ := by have := hpl.inv.two; omega
          have hff := hpl.f
          have hroom : roomP l = if 14 ≤ l.at_ then -1 else ((14 - l.at_ - 1 : Nat) : Int) * 511 := by unfold roomP; rw [hcnt]
          have HRM := Lib.hid hroom
          have HN := Lib.hid (And.intro hrb (And.intro hnx (And.intro hcnt (And.intro hatle (And.intro hff hage)))))
          clear hsys hpl hleft hsteps hage hbel hrb hnx hcnt hff hroom
          go_wp2_with fail
          refine (room_any _ HR.out.1.log (by have := HN.out; omega) (by omega)).mono ?_
          rintro e w3 ⟨rfl, hb3⟩
          have H3 := Lib.hid (HR.out.1.below hb3)
          have HB3 := Lib.hid hb3
          clear hb3
          by_cases hat14 : l.at_ < 14
          · obtain ⟨n, hn⟩ : ∃ n, (14 - l.at_ - 1) * 511 = n := ⟨_, rfl⟩
            have hrn : roomP l = (n : Int) := by rw [HRM.out, if_neg (by omega)]; omega
            have HRN := Lib.hid hrn
            have HNN := Lib.hid hn
            have hnb : n ≤ 6132 := by omega
            rw [hrn]
            clear hrn hn
            go_wp2_with fail
            refine (room_any w3 H3.out.log (by have := HN.out; omega) (by omega)).mono ?_
            rintro e w4 ⟨rfl, hb4⟩
            rw [HRN.out]
            have H4 := Lib.hid (H3.out.below hb4)
            have HB4 := Lib.hid hb4
            clear hb4
            go_wp2_with (refine op_makeZ rfl _ _ rfl (n + 1) _ (by omega) rfl rfl (by omega) ?_; rintro w5 q1 q2; have Q5 := Lib.hid (And.intro (At.own q1) (grown_below q2)); clear q1 q2)
            refine (appendFull_any _ (n + 1) (n + 1) w5 (H4.out.below Q5.out.2).log (by omega) (by have := HN.out; omega) (by have := HN.out; omega) (by have := HN.out; have := HNN.out; unfold needN nparts; omega)).mono ?_
            rintro e w6 ⟨rfl, hb6⟩
            have H6 := Lib.hid ((H4.out.below Q5.out.2).below hb6)
            clear hb6
            go_wp2_with fail
            refine (room_any w6 H6.out.log (by have := HN.out; omega) (by omega)).mono ?_
            rintro e w7 ⟨rfl, hb7⟩
            rw [HRN.out]
            have H7 := Lib.hid (H6.out.below hb7)
            clear hb7
            obtain ⟨k, hk, hcm⟩ := cut_mod less n (by omega)
            have hwu : IntKind.u64.wrap ((n : Int) + 1) = (n : Int) + 1 := by rw [IntKind.wrap_u64]; omega
            go_wp2_with (refine op_makeZ rfl _ _ rfl (n - k) _ (by omega) rfl rfl (by omega) ?_; rintro w8 q1 q2; have Q8 := Lib.hid (And.intro (At.own q1) (And.intro (grown_below q2) (fun j hj => (q1.lt j (by rw [own_slice]; exact hj)).1))); clear q1 q2)
            have hfit : needN (List.replicate (n - k) (0 : UInt8)).length ≤ l.cnt - l.at_ := by
              have := HN.out
              have := HNN.out
              rw [List.length_replicate]
              unfold needN nparts
              omega
            obtain ⟨e1, p1, l1, t1⟩ := append_on HR.out.2.1 HR.out.2.2.1 (List.replicate (n - k) 0) (by rw [List.length_replicate]; omega) hfit
            have hst' := HR.out.2.2.2.1
            have hag' := HR.out.2.2.2.2
            have hn' := HN.out
            refine (append_sys (w0 := W) (wp := w7) H7.out Q8.out.2.1 hB0 HT.out (by omega) (by rw [HR.out.2.1.W]; decide) (by omega) (by omega) (by omega) (by omega) (some ⟨w7.heap.size, 0, none⟩) (n - k) (n - k) (List.replicate (n - k) 0) (by simp) (by simp) (by rw [List.length_replicate]; omega) Q8.out.1 (fun j hj _ => .inr (by cases hj; exact Nat.le_refl _)) hfit).mono ?_
            rintro e w9 ⟨rfl, h9⟩
            rw [e1] at h9 ⊢
            have H9 := Lib.hid h9
            have P9 := Lib.hid (And.intro p1 (And.intro l1 t1))
            have hat9 : (appendL l 0 (List.replicate (n - k) 0)).at_ = l.at_ + needN (n - k) := by simp [appendL]
            have hcnt9 : (appendL l 0 (List.replicate (n - k) 0)).cnt = l.cnt := by simp [appendL]
            have hage9 : (appendL l 0 (List.replicate (n - k) 0)).age = l.age := by simp [appendL]
            have A9 := Lib.hid (And.intro hat9 (And.intro hcnt9 hage9))
            clear h9 e1 p1 l1 t1 hst' hag' hat9 hcnt9 hage9
            generalize (appendP l.f s l.at_ l.age l.next (List.replicate (n - k) 0)).2 = s9 at *
            generalize appendL l 0 (List.replicate (n - k) 0) = l9 at *
            have hlt9 : l.at_ < l9.at_ := by rw [A9.out.1]; unfold needN; omega
            have hle9 := P9.out.1.at_le
            go_wp2_with fail
            refine (room_any w9 H9.out.log (by rw [A9.out.2.1]; omega) (by omega)).mono ?_
            rintro e w10 ⟨rfl, hb10⟩
            have hr9 : decide ((n : Int) ≤ roomP l9) = false := by
              refine decide_eq_false ?_
              have := HNN.out
              unfold roomP
              rw [A9.out.2.1, hn'.2.2.1]
              split
              · omega
              · omega
            have H10 := Lib.hid (show St2 W w10 d g 1 from ⟨s9, l9, _, H9.out.below hb10, P9.out.1, P9.out.2.1, by have := P9.out.2.2; have := HR.out.2.2.2.1; omega, by rw [A9.out.2.2]; exact HR.out.2.2.2.2⟩)
            have M10 := Lib.hid (posOf_log (H9.out.below hb10).log)
            have M0 := Lib.hid (posOf_log HR.out.1.log)
            clear hb10 hn'
            go_wp2_with fail
            go_roundw
            case rel => exact H10.out
            case measure =>
              rw [M10.out, M0.out]
              omega
          · have hr14 : roomP l = -1 := by rw [HRM.out, if_pos (by omega)]
            rw [hr14]
            clear hr14
            go_wp2_with fail
            refine (age_any w3 H3.out.log).mono ?_
            rintro e w4 ⟨rfl, rfl⟩
            rw [HN.out.2.2.2.2.2]
            go_wp2_with fail
            refine (appendFull_any none 0 0 w3 H3.out.log (by omega) (by have := HN.out; omega) (by have := HN.out; omega) (by have := HN.out; unfold needN; omega)).mono ?_
            rintro e w5 ⟨rfl, hb5⟩
            have H5 := Lib.hid (H3.out.below hb5)
            clear hb5
            go_wp2_with fail
            obtain ⟨e1, p1, l1, t1⟩ := trunc_on HR.out.2.1 HR.out.2.2.1
            have hst' := HR.out.2.2.2.1
            have hag' := HR.out.2.2.2.2
            have hn' := HN.out
            refine (truncate_sys H5.out hB0 HT.out (by omega) (by rw [HR.out.2.1.W]; decide) (by omega) (by omega)).mono ?_
            rintro e w6 ⟨rfl, h6⟩
            rw [e1] at h6 ⊢
            have H6 := Lib.hid h6
            have P6 := Lib.hid (And.intro p1 (And.intro l1 t1))
            have hage6 : (truncL l 0).age = 2 := by simp [truncL, hag']
            have A6 := Lib.hid hage6
            clear h6 e1 p1 l1 t1 hag' hage6
            generalize (truncP l.f s l.age).2 = s6 at *
            generalize hl6 : truncL l 0 = l6 at *
            have hat6 : l6.at_ = 2 := by rw [← hl6]; rfl
            have B6 := Lib.hid hat6
            clear hl6 hat6
            go_wp2_with fail
            refine (age_any w6 H6.out.log).mono ?_
            rintro e w7 ⟨rfl, rfl⟩
            rw [A6.out]
            have hp6 := P6.out
            have hat6 := B6.out
            have hl614 := hp6.1.cnt
            obtain ⟨e1, p1, l1, t1⟩ := append_on hp6.1 hp6.2.1 [] (by decide) (by rw [hl614, hat6]; decide)
            have hf6 := hp6.1.f
            have hnx6 := hp6.1.next
            have hW6 := hp6.1.W
            have hst6 := hp6.2.2
            rw [List.length_nil] at hnx6
            clear hp6
            have G6 := Lib.hid (And.intro hf6 (And.intro hnx6 (And.intro hW6 (And.intro hst6 (And.intro hl614 (And.intro hat6 e1))))))
            clear hf6 hnx6 hW6 hst6 hl614 hat6 e1 p1 l1 t1
            go_wp2_with fail
            have g6 := G6.out
            refine (append_sys (w0 := W) (wp := w6) H6.out (Below.refl _ _) hB0 HT.out (by omega) (by rw [g6.2.2.1]; decide) (by omega) (by omega) (by omega) (by rw [A6.out]; decide) none 0 0 [] rfl (by decide) (by decide) (At.nil _ _) (fun i hi _ => by cases hi) (by rw [g6.2.2.2.2.1, g6.2.2.2.2.2.1]; decide)).mono ?_
            rintro e w8 ⟨rfl, h8⟩
            rw [g6.2.2.2.2.2.2] at h8 ⊢
            have H8 := Lib.hid h8.bel
            clear h8 g6
            go_wp2_with fail
            go_returns
            exact ⟨rfl, H8.out⟩



theorem own : ownKnob Tryd.prog.godebug = none := by kernel_rfl
theorem laidOut : laidOutB Tryd.prog = true := by kernel_rfl
theorem readable : ∀ t ∈ Tryd.f6.params.toList, Tryd.prog.readableRec t = true ∧ t < Tryd.prog.types.size := by
  rw [Tryd.params6]
  intro t ht
  simp at ht
  rcases ht with rfl | rfl
  · exact ⟨by kernel_rfl, of_decide_eq_true (by kernel_rfl)⟩
  · exact ⟨by kernel_rfl, of_decide_eq_true (by kernel_rfl)⟩

theorem laid_met (os : Os) : laidMet Tryd.prog Rows.walFullRow.laid ((laidWorld os).forCall (fun _ _ => 0) ⟨#[], #[.slice none 0 0, .int .i64 0], []⟩).memory :=
  laidMet_of_run' 8 (by kernel_rfl) (by kernel_rfl)
theorem reads (os : Os) {H : Type} (enc : TypeId × Value → H) : DataW.whole enc Tryd.prog ((laidWorld os).forCall (fun _ _ => 0) ⟨#[], #[.slice none 0 0, .int .i64 0], []⟩).memory Tryd.f6.params.toList Rows.walFullSpec.vars false (#[.slice none 0 0, .int .i64 0] : Array Value).toList 8 = some ([.nil, .lit (.int .i64 0)], [], []) := by kernel_rfl
set_option maxRecDepth 100000 in
theorem lifted (os : Os) (started : os.Started) (H : Type) (enc : TypeId × Value → H) (F : Stop.Interp) :
    ReturnsInHanded {} Tryd.checked os 6 .any ((OpenSpec.ofChange Rows.walFullSpec).preRow enc Tryd.prog Tryd.f6 Rows.walFullRow.domain false Rows.walFullRow.laid) (((OpenSpec.ofChange Rows.walFullSpec).at F).post enc Tryd.prog Tryd.f6 false true false false) := by
  have hx := reads os enc
  refine returnsInHanded_of_row (C := Tryd.checked) (s := OpenSpec.ofChange Rows.walFullSpec) own started (by kernel_rfl) Tryd.func6
    (witness_row_at (enc := enc) (C := Tryd.checked) false (laidWorld os) #[.slice none 0 0, .int .i64 0] rfl (by kernel_rfl) (by kernel_rfl) (by kernel_rfl)
      (OpenSpec.preRow_of_cond 8 hx (by kernel_rfl) (fun k hk => by cases hk) (by kernel_rfl) (laid_met os))) ?_
  intro W base args ds gs before hval0 hW _ _ _ hL _ _
  have ht : Tab W := table_of hL
  have hval : ∀ (j : Nat) t v, Tryd.f6.params[j]? = some t → args[j]? = some v → Value.okWide Tryd.prog W .any base t v := hval0
  have hW' := hW
  obtain ⟨p, q, hA0, hV, rfl, hfz, hnd⟩ := hW
  have hA : DataW.TrodAll enc Tryd.prog W 0 (fun _ => true) true Tryd.f6.params.toList args.toList ds p := hA0
  rw [Tryd.params6] at hA hval
  obtain ⟨v0, v1, d0, d1, p0, p1, rfl, rfl, rfl, h0, h1⟩ := trodAll_two hA
  obtain ⟨rfl, rfl⟩ := trodVars_none hV
  obtain ⟨ao, cap, es, rfl, hc, hm, hes⟩ := open_ents Tryd.underlying44 (by kernel_rfl) Tryd.underlying51 (by kernel_rfl) Tryd.underlying3 Tryd.underlying22 Tryd.underlying5 cellsU8 (by kernel_rfl) (by kernel_rfl) (hval 0 44 v0 rfl rfl) h0
  obtain ⟨z, rfl, rfl, rfl, wc⟩ := open_int Tryd.underlying3 (hval 1 3 v1 rfl rfl) h1
  refine (walk ao cap es (by omega) z W (World.block_lt_of_cell? (a := ⟨0, 0, none⟩) W (ht 0 (by decide))) hes ht).mono fun e W' ⟨he, hb⟩ => ?_
  subst he
  exact ⟨_, rfl, post_law laidOut rfl rfl Tryd.underlying4 readable rfl rfl rfl hW' hb⟩

theorem said : Rows.WalFullSaid :=
  OpenClaim.holds_of_cond 6 Tryd.f6 rfl rfl rfl rfl rfl rfl rfl ⟨rfl, rfl, rfl, rfl, rfl⟩ rfl rfl rfl rfl rfl (by kernel_rfl) Tryd.func6 (by kernel_rfl)
    (of_decide_eq_true (by kernel_rfl)) (by unfold Func.isWrapper; first | (rw [if_pos (by decide +kernel)]; kernel_rfl) | (rw [if_neg (by decide +kernel)]; exact ⟨rfl, rfl⟩))
    (fun os started H enc _ F => by rw [OpenClaim.pre_eq_preRow]; exact lifted os started H enc F)

/-- No parameter wants a stand-in; the program's own looks are off. -/
theorem plain (f : FuncId) (fn : Func) (hf : Tryd.pinned.checked.prog.funcNamed "scriptor/scriptorlaw05.WalFull" = some f) (hfn : Tryd.pinned.checked.prog.funcs[f]? = some fn) :
    false = Tryd.pinned.checked.prog.looks [] ∧ ∀ (j : Nat) t, fn.params[j]? = some t → Tryd.pinned.checked.prog.wantsStandIn t = false := by
  obtain rfl : f = 6 := Option.some.inj ((show Tryd.prog.funcNamed "scriptor/scriptorlaw05.WalFull" = some 6 by kernel_rfl).symm.trans hf) |>.symm
  obtain rfl : fn = Tryd.f6 := (Option.some.inj (Tryd.func6.symm.trans hfn)).symm
  refine ⟨by kernel_rfl, fun j t ht => ?_⟩
  have hall : ∀ t ∈ Tryd.f6.params.toList, Tryd.prog.wantsStandIn t = false := by
    rw [Tryd.params6]
    intro t ht
    simp at ht
    rcases ht with rfl | rfl
    · kernel_rfl
    · kernel_rfl
  exact hall t (Array.mem_toList_iff.2 (Array.mem_of_getElem? ht))

theorem card : Rows.WalFullCardSaid :=
  Claim7.holds_tied_plain_at .later [] _ _ _ _ said (fun _ h => by cases h) (by kernel_rfl) (fun _ h => by cases h) walFull_row_tie rfl ⟨rfl, rfl⟩ (by kernel_rfl) rfl plain (by kernel_rfl)
end Go.Proofs.YtnonhmjfhcmpgaaDoor.walFull
