/- The walks of match's builder, first part: is a test there already? -/
import Derived.Test.YtnhdefaagicejaaMat4
namespace Go.Proofs.Ytnhdefaagicejaa
set_option linter.unusedSimpArgs false
set_option linter.unusedVariables false
open Go.RowKit

set_option maxRecDepth 100000 in
set_option maxHeartbeats 1000000 in
theorem sameC_any (y : TestM) (ko : Option Addr) (kcap q : Nat) (k m : Int) (t : List UInt8) (ao : Option Addr) (n cap : Nat) (hn : n ≤ 1000000000) (w : World) (hq : PatAt w q k m t ao n cap) :
    Calls Try.prog 27 #[patV y.op y.num y.text ko y.n kcap, .pointer (some ⟨q, 0, none⟩)] w (fun e w' => e = .returned (.bool (decide (y = testK k m t n))) ∧ Below w.heap.size w w') := by
  have hb : Below w.heap.size w (w.alloc (.cells #[.int .i64 y.op, .int .i64 y.num, .string ⟨y.text.toArray⟩, .slice ko y.n kcap] 50)) := (Below.refl _ w).alloc (Nat.le_refl _) _
  have HB := Lib.hid (And.intro hb (And.intro (PatAt.new w y.op y.num y.text ko y.n kcap 50) (hq.below hb)))
  have ht := test_any k m t ao n cap hn
  obtain ⟨z, hz⟩ : ∃ z, testK k m t n = z := ⟨_, rfl⟩
  rw [hz] at ht ⊢
  have HT := Lib.hid ht
  clear hb hq ht hz
  unfold patV
  go_enter Try.func27, Try.ntmps27
  go_wp2_with fail
  refine seq_start (by kernel_rfl) ?_
  refine seq_take 0 rfl (by kernel_rfl) (fun _ _ _ h => h) (by rfl) (seq_ldPat rfl rfl (HB.out.2.1)) ?_
  try simp only [List.getElem_toArray, List.getElem_cons_succ, List.getElem_cons_zero, Act.put, List.setIfInBounds_toArray, List.set_cons_zero, List.set_cons_succ]
  refine seq_take 1 rfl (by kernel_rfl) (fun _ _ _ h => h) (by rfl) (seq_ldPat rfl rfl (HB.out.2.2)) ?_
  try simp only [List.getElem_toArray, List.getElem_cons_succ, List.getElem_cons_zero, Act.put, List.setIfInBounds_toArray, List.set_cons_zero, List.set_cons_succ]
  refine seq_run 2 rfl (by kernel_rfl) (by rfl) (fun KK hKK => ?_)
  go_wp2_with fail
  refine (HT.out _).mono ?_
  rintro e w3 ⟨⟨ko3, kc3, rfl⟩, hb3⟩
  have H3 := Lib.hid hb3
  clear hb3
  go_wp2_with fail
  refine ⟨H3.out, ?_⟩
  refine seq_run 3 rfl (by kernel_rfl) (by rfl) (fun KK hKK => ?_)
  go_wp2_with fail
  refine (same_any y z _ _ _ _ _).mono ?_
  rintro e w4 ⟨rfl, hb4⟩
  have H4 := Lib.hid hb4
  clear hb4
  go_wp2_with fail
  refine ⟨H4.out, ?_⟩
  refine seq_take 4 (v := ?_) rfl (by kernel_rfl) (fun _ _ _ h => h) (by rfl) (fun w' hw' => ?_) ?_
  rotate_left
  · go_simp; try with_reducible rfl
  try simp only [List.getElem_toArray, List.getElem_cons_succ, List.getElem_cons_zero, Act.put, List.setIfInBounds_toArray, List.set_cons_zero, List.set_cons_succ]
  refine seq_done (by kernel_rfl) ?_
  go_wp2_with fail
  go_ret
  exact ⟨rfl, (HB.out.1.drew.trans (H3.out.mono (by simp))).trans (H4.out.mono (by have := H3.out.size; simp at this ⊢; omega))⟩
/-- A test's cells, at the index where it lies. -/
theorem testCells {w : World} {D : Nat → Prop} {ao : Option Addr} {xs : List TestM} (h : InL 4 TestIn w D ao xs) (i : Nat) (hi : i < xs.length) :
    ∃ b o ko kcap, ao = some ⟨b, o, none⟩ ∧ w.cell? ⟨b, o + i * 4, none⟩ = some (.int .i64 xs[i].op) ∧ w.cell? ⟨b, o + i * 4 + 1, none⟩ = some (.int .i64 xs[i].num) ∧ w.cell? ⟨b, o + i * 4 + 2, none⟩ = some (.string ⟨xs[i].text.toArray⟩) ∧ w.cell? ⟨b, o + i * 4 + 3, none⟩ = some (.slice ko xs[i].n kcap) ∧ b < w.heap.size := by
  obtain ⟨b, o, cs, rfl, ⟨ko, kcap, hcs⟩, hc, _, hlt⟩ := h.get elemT (by decide) i hi
  subst hcs
  exact ⟨b, o, ko, kcap, rfl, by have := hc 0 _ rfl; rwa [Nat.add_zero] at this, by have := hc 1 _ rfl; rwa [← Nat.add_assoc] at this, by have := hc 2 _ rfl; rwa [← Nat.add_assoc] at this, by have := hc 3 _ rfl; rwa [← Nat.add_assoc] at this, hlt⟩
set_option maxRecDepth 100000 in
set_option maxHeartbeats 4000000 in
theorem indexT_any (ts : List TestM) (ao : Option Addr) (cap q : Nat) (k m : Int) (t : List UInt8) (xo : Option Addr) (n xcap : Nat) (hn : n ≤ 1000000000) (hl : ts.length ≤ 1000000000) (w : World) (D : Nat → Prop) (h : InL 4 TestIn w D ao ts) (hq : PatAt w q k m t xo n xcap) :
    Calls Try.prog 31 #[.slice ao ts.length cap, .func (.func 27) #[] #[.pointer (some ⟨q, 0, none⟩)]] w (fun e w' => (∃ z : Int, e = .returned (.int .i64 z) ∧ decide (0 ≤ z) = decide (testK k m t n ∈ ts)) ∧ Below w.heap.size w w') := by
  have H := Lib.hid (And.intro h hq)
  clear h hq
  go_enter Try.func31, Try.ntmps31
  go_wp2_with fail
  go_loopw [8] (fun v8 wr => ∃ i : Nat, i ≤ ts.length ∧ v8 = .int .i64 (i : Int) ∧ (∀ j (hj : j < ts.length), j < i → ts[j] ≠ testK k m t n) ∧ Below w.heap.size w wr) (fun v8 _ => ts.length - (intOf v8).toNat)
  case atStart => exact ⟨0, by omega, rfl, fun j hj h => by omega, Below.refl _ _⟩
  case round =>
    obtain ⟨i, hi, rfl, hall, hbr⟩ := hrel
    have HO := Lib.hid (And.intro hall hbr)
    have hszr := hbr.size
    clear hall hbr
    by_cases hlt : i < ts.length
    · have hd1 : decide ((i : Int) < (ts.length : Int)) = true := decide_eq_true (by omega)
      obtain ⟨b, o, ko, kcap, rfl, c0, c1, c2, c3, hblt⟩ := testCells (H.out.1.below elemT HO.out.2) i hlt
      obtain ⟨x, hx⟩ : ∃ x, ts[i] = x := ⟨_, rfl⟩
      rw [hx] at c0 c1 c2 c3
      have hrc := sameC_any x ko kcap q k m t xo n xcap hn wr (H.out.2.below HO.out.2)
      obtain ⟨bb, hbb⟩ : ∃ bb, decide (x = testK k m t n) = bb := ⟨_, rfl⟩
      rw [hbb] at hrc
      unfold patV at hrc
      have HX := Lib.hid (And.intro hx hbb)
      have HC := Lib.hid hrc
      clear hx hrc hbb
      go_wp2_with fail
      refine HC.out.mono ?_
      rintro e w2 ⟨rfl, hb2⟩
      have H2 := Lib.hid (HO.out.2.trans (hb2.mono hszr))
      clear hb2
      cases bb
      · go_wp2_with fail
        go_roundw
        case rel =>
          refine ⟨i + 1, by omega, by simp, fun j hj hji => ?_, H2.out⟩
          rcases Nat.lt_or_ge j i with h | h
          · exact HO.out.1 j hj h
          · obtain rfl : j = i := by omega
            rw [HX.out.1]
            exact of_decide_eq_false HX.out.2
        case measure => simp [intOf]; omega
      · go_wp2_with fail
        go_ret
        refine ⟨⟨(i : Int), rfl, ?_⟩, H2.out⟩
        rw [decide_eq_true (show testK k m t n ∈ ts by rw [← of_decide_eq_true HX.out.2, ← HX.out.1]; exact List.getElem_mem hlt)]
        simp
    · obtain rfl : i = ts.length := by omega
      go_wp2_with fail
      go_ret
      refine ⟨⟨-1, rfl, ?_⟩, HO.out.2⟩
      rw [decide_eq_false (show ¬ testK k m t n ∈ ts from fun hm => by
        obtain ⟨j, hj, e⟩ := List.getElem_of_mem hm
        exact HO.out.1 j hj hj e)]
      decide
set_option maxRecDepth 100000 in
set_option maxHeartbeats 1000000 in
theorem containsT_any (ts : List TestM) (ao : Option Addr) (cap q : Nat) (k m : Int) (t : List UInt8) (xo : Option Addr) (n xcap : Nat) (hn : n ≤ 1000000000) (hl : ts.length ≤ 1000000000) (w : World) (D : Nat → Prop) (h : InL 4 TestIn w D ao ts) (hq : PatAt w q k m t xo n xcap) :
    Calls Try.prog 22 #[.slice ao ts.length cap, .func (.func 27) #[] #[.pointer (some ⟨q, 0, none⟩)]] w (fun e w' => e = .returned (.bool (decide (testK k m t n ∈ ts))) ∧ Below w.heap.size w w') := by
  have H := Lib.hid (indexT_any ts ao cap q k m t xo n xcap hn hl w D h hq)
  clear h hq
  go_enter Try.func22, Try.ntmps22
  go_wp2_with fail
  refine H.out.mono ?_
  rintro e w1 ⟨⟨z, rfl, hz⟩, hb⟩
  have HZ := Lib.hid (And.intro hz hb)
  clear hz hb
  go_wp2_with fail
  go_ret
  exact ⟨by rw [← HZ.out.1]; rfl, HZ.out.2⟩
end Go.Proofs.Ytnhdefaagicejaa
