/- The walk of match.right: the form of a pattern, all the way down. -/
import Derived.Test.YtnhdefaagicejaaMat1
import Derived.WalkLawsBesides
namespace Go.Proofs.Ytnhdefaagicejaa
set_option linter.unusedSimpArgs false
set_option linter.unusedVariables false
open Go.RowKit

def RightOk (N : Nat) : Prop := ∀ (x : PV) (w : World) (D : Nat → Prop) (cs : List Value), VIn w D N cs x →
  Calls Try.prog 19 #[.agg cs.toArray] w (fun e w' => e = .returned (.bool (rightP x)) ∧ Below w.heap.size w w')
theorem rightPs_false : ∀ {ks : List PV} (i : Nat) (hi : i < ks.length), rightP ks[i] = false → rightPs ks = false
  | x :: xs, 0, _, h => by unfold rightPs; simp at h; rw [h]; rfl
  | x :: xs, i + 1, hi, h => by
    unfold rightPs
    rw [rightPs_false i (by simpa using hi) (by simpa using h), Bool.and_false]
theorem rightPs_true : ∀ {ks : List PV}, (∀ i (hi : i < ks.length), rightP ks[i] = true) → rightPs ks = true
  | [], _ => by unfold rightPs; rfl
  | x :: xs, h => by
    unfold rightPs
    rw [show rightP x = true from h 0 (by simp), rightPs_true fun i hi => h (i + 1) (Nat.succ_lt_succ hi)]
    rfl
set_option maxRecDepth 100000 in
set_option maxHeartbeats 1000000 in
theorem rightC_any (N : Nat) (ih : RightOk N) (x : PV) (w : World) (D : Nat → Prop) (cs : List Value) (h : VIn w D N cs x) :
    Calls Try.prog 23 #[.agg cs.toArray] w (fun e w' => e = .returned (.bool (!(rightP x))) ∧ Below w.heap.size w w') := by
  have H := Lib.hid h
  cases N with
  | zero => exact h.elim
  | succ n =>
  obtain ⟨k, m, t, ks⟩ := x
  obtain ⟨ao, cap, hv, hcs, _⟩ := h.val
  rw [hv]
  unfold patV
  clear h
  go_enter Try.func23, Try.ntmps23
  go_wp2_with fail
  have hbA := fun (o : Obj) => (Below.refl w.heap.size w).alloc (Nat.le_refl _) o
  have hr := ih (.mk k m t ks) (w.alloc (.cells #[.int .i64 k, .int .i64 m, .string ⟨t.toArray⟩, .slice ao ks.length cap] 50)) D cs (H.out.below (hbA _))
  rw [hv] at hr
  refine hr.mono ?_
  rintro e w2 ⟨rfl, hb2⟩
  have H2 := Lib.hid ((hbA (.cells #[.int .i64 k, .int .i64 m, .string ⟨t.toArray⟩, .slice ao ks.length cap] 50)).trans (hb2.mono (by simp)))
  clear hb2 hr hbA
  go_wp2_with fail
  go_ret
  exact ⟨rfl, H2.out⟩
set_option maxRecDepth 100000 in
set_option maxHeartbeats 4000000 in
theorem indexR_any (N : Nat) (ih : RightOk N) (ks : List PV) (ao : Option Addr) (cap : Nat) (hkl : ks.length ≤ 9223372036854775807) (w : World) (D : Nat → Prop) (h : VsIn w D N ao ks) :
    Calls Try.prog 31 #[.slice ao ks.length cap, .func (.func 23) #[] #[]] w (fun e w' => (∃ z : Int, e = .returned (.int .i64 z) ∧ decide (0 ≤ z) = !(rightPs ks)) ∧ Below w.heap.size w w') := by
  have H := Lib.hid h
  clear h
  go_enter Try.func31, Try.ntmps31
  go_wp2_with fail
  go_loopw [8] (fun v8 wr => ∃ i : Nat, i ≤ ks.length ∧ v8 = .int .i64 (i : Int) ∧ (∀ j (hj : j < ks.length), j < i → rightP ks[j] = true) ∧ Below w.heap.size w wr) (fun v8 _ => ks.length - (intOf v8).toNat)
  case atStart => exact ⟨0, by omega, rfl, fun j hj h => by omega, Below.refl _ _⟩
  case round =>
    obtain ⟨i, hi, rfl, hall, hbr⟩ := hrel
    have HO := Lib.hid (And.intro hall hbr)
    have hszr := hbr.size
    clear hall hbr
    by_cases hlt : i < ks.length
    · have hd1 : decide ((i : Int) < (ks.length : Int)) = true := decide_eq_true (by omega)
      cases N with
      | zero =>
        obtain ⟨_, _, _, _, hv, _⟩ := H.out.get i hlt
        exact hv.elim
      | succ n =>
      obtain ⟨b, o, k, m, t, kao, kks, kcap, rfl, hx, hv, c0, c1, c2, c3, hblt⟩ := (H.out.below HO.out.2).cells i hlt
      have hrc := rightC_any (n + 1) ih (.mk k m t kks) wr D _ hv
      obtain ⟨q, hq⟩ : ∃ q, rightP (.mk k m t kks) = q := ⟨_, rfl⟩
      rw [hq] at hrc
      have HX := Lib.hid (And.intro hx hq)
      have HC := Lib.hid hrc
      clear hx hv hrc hq
      go_wp2_with fail
      refine HC.out.mono ?_
      rintro e w2 ⟨rfl, hb2⟩
      have H2 := Lib.hid (HO.out.2.trans (hb2.mono hszr))
      clear hb2
      cases q
      · go_wp2_with fail
        go_ret
        refine ⟨⟨(i : Int), rfl, ?_⟩, H2.out⟩
        rw [rightPs_false i hlt (by rw [HX.out.1]; exact HX.out.2)]
        simp
      · go_wp2_with fail
        go_roundw
        case rel =>
          refine ⟨i + 1, by omega, by simp, fun j hj hji => ?_, H2.out⟩
          rcases Nat.lt_or_ge j i with h | h
          · exact HO.out.1 j hj h
          · obtain rfl : j = i := by omega
            rw [HX.out.1]
            exact HX.out.2
        case measure => simp [intOf]; omega
    · obtain rfl : i = ks.length := by omega
      go_wp2_with fail
      go_ret
      refine ⟨⟨-1, rfl, ?_⟩, HO.out.2⟩
      rw [rightPs_true fun j hj => HO.out.1 j hj hj]
      decide
set_option maxRecDepth 100000 in
set_option maxHeartbeats 1000000 in
theorem containsR_any (N : Nat) (ih : RightOk N) (ks : List PV) (ao : Option Addr) (cap : Nat) (hkl : ks.length ≤ 9223372036854775807) (w : World) (D : Nat → Prop) (h : VsIn w D N ao ks) :
    Calls Try.prog 22 #[.slice ao ks.length cap, .func (.func 23) #[] #[]] w (fun e w' => e = .returned (.bool (!(rightPs ks))) ∧ Below w.heap.size w w') := by
  have H := Lib.hid (indexR_any N ih ks ao cap hkl w D h)
  clear h
  go_enter Try.func22, Try.ntmps22
  go_wp2_with fail
  refine H.out.mono ?_
  rintro e w1 ⟨⟨z, rfl, hz⟩, hb⟩
  have HZ := Lib.hid (And.intro hz hb)
  clear hz hb
  go_wp2_with fail
  go_ret
  exact ⟨by rw [← HZ.out.1]; rfl, HZ.out.2⟩
set_option maxRecDepth 100000 in
set_option maxHeartbeats 1000000 in
theorem mright_any : ∀ N : Nat, RightOk N
  | 0 => fun _ _ _ _ h => h.elim
  | N + 1 => by
    have ih := mright_any N
    rintro ⟨k, m, t, ks⟩ w D cs h
    obtain ⟨ao, cap, hv, hcs, hkc, hcap, hks⟩ := h.val
    have H := Lib.hid (And.intro h (And.intro (show ks.length ≤ 9223372036854775807 by omega) hks))
    clear hkc hcap
    rw [hv]
    have HB := Lib.hid (show Below w.heap.size w (w.alloc (.cells #[.int .i64 k, .int .i64 m, .string ⟨t.toArray⟩, .slice ao ks.length cap] 50)) from (Below.refl w.heap.size w).alloc (Nat.le_refl _) _)
    unfold patV
    clear h hks
    have hr : rightP (.mk k m t ks) = (decide (0 ≤ k ∧ k ≤ 6 ∧ (k = 5 → 0 ≤ m)) && (decide (k < 5) || rightPs ks)) := by rw [rightP]
    have HR := Lib.hid hr
    clear hr
    by_cases h0 : k < 0
    · have hd : decide (k < 0) = true := decide_eq_true h0
      rw [show rightP (.mk k m t ks) = false by rw [HR.out, decide_eq_false (by omega)]; rfl]
      go_enter Try.func19, Try.ntmps19
      go_wp2_with fail
      go_ret
      exact ⟨rfl, HB.out⟩
    have hd0 : decide (k < 0) = false := decide_eq_false h0
    by_cases h6 : 6 < k
    · have hd : decide (6 < k) = true := decide_eq_true h6
      rw [show rightP (.mk k m t ks) = false by rw [HR.out, decide_eq_false (by omega)]; rfl]
      go_enter Try.func19, Try.ntmps19
      go_wp2_with fail
      go_ret
      exact ⟨rfl, HB.out⟩
    have hd6 : decide (6 < k) = false := decide_eq_false h6
    by_cases h5 : k = 5 ∧ m < 0
    · obtain ⟨rfl, hm⟩ := h5
      have hd : decide (m < 0) = true := decide_eq_true hm
      rw [show rightP (.mk 5 m t ks) = false by rw [HR.out, decide_eq_false (by omega)]; rfl]
      go_enter Try.func19, Try.ntmps19
      go_wp2_with fail
      go_ret
      exact ⟨rfl, HB.out⟩
    have hcon := containsR_any N ih ks ao cap (by have := H.out.2.1; omega) (w.alloc (.cells #[.int .i64 k, .int .i64 m, .string ⟨t.toArray⟩, .slice ao ks.length cap] 50)) D (H.out.2.2.below HB.out)
    obtain ⟨q2, hq2⟩ : ∃ q2, rightPs ks = q2 := ⟨_, rfl⟩
    rw [hq2] at hcon
    have HQ := Lib.hid (show rightP (.mk k m t ks) = (decide (k < 5) || q2) by rw [HR.out, decide_eq_true (show 0 ≤ k ∧ k ≤ 6 ∧ (k = 5 → 0 ≤ m) from ⟨by omega, by omega, fun h => by omega⟩), hq2]; rfl)
    have HC := Lib.hid hcon
    clear hq2 hcon
    by_cases h5k : k < 5
    · have hd5 : decide (k < 5) = true := decide_eq_true h5k
      have hd55 : decide (k = 5) = false := decide_eq_false (by omega)
      have hb55 : (k == 5) = false := by simp; omega
      rw [show rightP (.mk k m t ks) = true by rw [HQ.out, hd5]; rfl]
      go_enter Try.func19, Try.ntmps19
      go_wp2_with fail
      go_ret
      exact ⟨rfl, HB.out⟩
    · have hd5 : decide (k < 5) = false := decide_eq_false h5k
      rw [show rightP (.mk k m t ks) = q2 by rw [HQ.out, hd5]; rfl]
      by_cases hk5 : k = 5
      · subst hk5
        have hdm : decide (m < 0) = false := decide_eq_false (by omega)
        go_enter Try.func19, Try.ntmps19
        go_wp2_with fail
        refine HC.out.mono ?_
        rintro e w2 ⟨rfl, hb2⟩
        have H2 := Lib.hid (HB.out.trans (hb2.mono HB.out.size))
        clear hb2
        go_wp2_with fail
        go_ret
        exact ⟨by cases q2 <;> rfl, H2.out⟩
      · have hd55 : decide (k = 5) = false := decide_eq_false hk5
        have hb55 : (k == 5) = false := by simp [hk5]
        go_enter Try.func19, Try.ntmps19
        go_wp2_with fail
        refine HC.out.mono ?_
        rintro e w2 ⟨rfl, hb2⟩
        have H2 := Lib.hid (HB.out.trans (hb2.mono HB.out.size))
        clear hb2
        go_wp2_with fail
        go_ret
        exact ⟨by cases q2 <;> rfl, H2.out⟩
end Go.Proofs.Ytnhdefaagicejaa
