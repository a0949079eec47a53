/- The walk of val.right: the form of a value, all the way down. -/
import Derived.Test.YtpeehagaiofobaaDoorVal1
namespace Go.Proofs.YtpeehagaiofobaaDoor
open Go.RowKit

theorem VIn.val {w : World} {D : Nat → Prop} {n : Nat} {cs : List Value} {k m : Int} {t : List UInt8} {ks : List PV} (h : VIn w D (n + 1) cs (.mk k m t ks)) : ∃ ao cap, Value.agg cs.toArray = valV k m t ao ks.length cap ∧ cs = [.int .i64 k, .int .i64 m, .string ⟨t.toArray⟩, .slice ao ks.length cap] ∧ ks.length ≤ cap ∧ (cap ≤ 9223372036854775807 ∧ R64 k ∧ R64 m ∧ t.length ≤ 9223372036854775807) ∧ VsIn w D n ao ks := by
  obtain ⟨ao, cap, rfl, h1, h2, h3⟩ := VIn.row.1 h
  exact ⟨ao, cap, rfl, rfl, h1, h2, h3⟩
/-- What right says, at values of a depth. -/
def RightOk (N : Nat) : Prop := ∀ (x : PV) (d : Nat), d ≤ 100000 → ∀ (w : World) (D : Nat → Prop) (cs : List Value), VIn w D N cs x →
  Calls Tryd.prog 23 #[.agg cs.toArray, .int .i64 (d : Int)] w (fun e w' => e = .returned (.bool (rightV floatOk d x)) ∧ Below w.heap.size w w')
theorem rightVs_false {d : Nat} : ∀ {ks : List PV} (i : Nat) (hi : i < ks.length), rightV floatOk d ks[i] = false → rightVs floatOk d ks = false
  | x :: xs, 0, _, h => by unfold rightVs; simp at h; rw [h]; rfl
  | x :: xs, i + 1, hi, h => by
    unfold rightVs
    rw [rightVs_false i (by simpa using hi) (by simpa using h), Bool.and_false]
theorem rightVs_true {d : Nat} : ∀ {ks : List PV}, (∀ i (hi : i < ks.length), rightV floatOk d ks[i] = true) → rightVs floatOk d ks = true
  | [], _ => by unfold rightVs; rfl
  | x :: xs, h => by
    unfold rightVs
    rw [show rightV floatOk d x = true from h 0 (by simp), rightVs_true fun i hi => h (i + 1) (Nat.succ_lt_succ hi)]
    rfl
set_option maxRecDepth 100000 in
set_option maxHeartbeats 1000000 in
theorem rightC_any (N : Nat) (ih : RightOk N) (x : PV) (d : Nat) (hd : d ≤ 90000) (g : Nat) (w : World) (D : Nat → Prop) (cs : List Value) (h : VIn w D N cs x) (hg : w.cell? ⟨g, 0, none⟩ = some (.int .i64 (d : Int))) :
    Calls Tryd.prog 50 #[.agg cs.toArray, .pointer (some ⟨g, 0, none⟩)] w (fun e w' => e = .returned (.bool (!(rightV floatOk (d + 1) x))) ∧ Below w.heap.size w w') := by
  have H := Lib.hid h
  cases N with
  | zero => exact h.elim
  | succ n =>
  obtain ⟨k, m, t, ks⟩ := x
  obtain ⟨ao, cap, hv, hcs, _⟩ := h.val
  rw [hv]
  unfold valV
  have HG := Lib.hid hg
  have hgl := World.block_lt_of_cell? (a := ⟨g, 0, none⟩) w hg
  clear h
  go_enter Tryd.func50, Tryd.ntmps50
  go_wp2_with fail
  have hbA := fun (o : Obj) => (Below.refl w.heap.size w).alloc (Nat.le_refl _) o
  have hr := ih (.mk k m t ks) (d + 1) (by omega) (w.alloc (.cells #[.int .i64 k, .int .i64 m, .string ⟨t.toArray⟩, .slice ao ks.length cap] 37)) D cs (H.out.below (hbA _))
  rw [hv, show (((d + 1 : Nat)) : Int) = (d : Int) + 1 by simp] at hr
  refine hr.mono ?_
  rintro e w2 ⟨rfl, hb2⟩
  have H2 := Lib.hid ((hbA (.cells #[.int .i64 k, .int .i64 m, .string ⟨t.toArray⟩, .slice ao ks.length cap] 37)).trans (hb2.mono (by simp)))
  clear hb2 hr hbA
  go_wp2_with fail
  go_ret
  exact ⟨rfl, H2.out⟩

/-- The cells of one part, at the index where it lies. -/
theorem VsIn.cells {w : World} {D : Nat → Prop} {n : Nat} {ao : Option Addr} {xs : List PV} (h : VsIn w D (n + 1) ao xs) (i : Nat) (hi : i < xs.length) :
    ∃ b o k m t kao ks kcap, ao = some ⟨b, o, none⟩ ∧ xs[i] = .mk k m t ks ∧ VIn w D (n + 1) [.int .i64 k, .int .i64 m, .string ⟨t.toArray⟩, .slice kao ks.length kcap] (.mk k m t ks) ∧
      w.cell? ⟨b, o + i * 4, none⟩ = some (.int .i64 k) ∧ w.cell? ⟨b, o + i * 4 + 1, none⟩ = some (.int .i64 m) ∧ w.cell? ⟨b, o + i * 4 + 2, none⟩ = some (.string ⟨t.toArray⟩) ∧ w.cell? ⟨b, o + i * 4 + 3, none⟩ = some (.slice kao ks.length kcap) ∧ b < w.heap.size := by
  obtain ⟨b, o, cs, rfl, hv, hc, _, hlt⟩ := h.get i hi
  cases hx : xs[i] with
  | mk k m t ks =>
    rw [hx] at hv
    obtain ⟨kao, kcap, _, hcs, _⟩ := hv.val
    subst hcs
    exact ⟨b, o, k, m, t, kao, ks, kcap, rfl, rfl, hv, by have := hc 0 _ rfl; rwa [Nat.add_zero] at this, by have := hc 1 _ rfl; rwa [← Nat.add_assoc] at this, by have := hc 2 _ rfl; rwa [← Nat.add_assoc] at this, by have := hc 3 _ rfl; rwa [← Nat.add_assoc] at this, hlt⟩
set_option maxRecDepth 100000 in
set_option maxHeartbeats 4000000 in
theorem index_any (N : Nat) (ih : RightOk N) (d : Nat) (hd : d ≤ 90000) (g : Nat) (ks : List PV) (ao : Option Addr) (cap : Nat) (hkl : ks.length ≤ 9223372036854775807) (w : World) (D : Nat → Prop) (h : VsIn w D N ao ks) (hg : w.cell? ⟨g, 0, none⟩ = some (.int .i64 (d : Int))) :
    Calls Tryd.prog 66 #[.slice ao ks.length cap, .func (.func 50) #[] #[.pointer (some ⟨g, 0, none⟩)]] w (fun e w' => (∃ z : Int, e = .returned (.int .i64 z) ∧ decide (0 ≤ z) = !(rightVs floatOk (d + 1) ks)) ∧ Below w.heap.size w w') := by
  have H := Lib.hid (And.intro h hg)
  clear h hg
  go_enter Tryd.func66, Tryd.ntmps66
  go_wp2_with fail
  go_loopw [8] (fun v8 wr => ∃ i : Nat, i ≤ ks.length ∧ v8 = .int .i64 (i : Int) ∧ (∀ j (hj : j < ks.length), j < i → rightV floatOk (d + 1) ks[j] = true) ∧ Below w.heap.size w wr) (fun v8 _ => ks.length - (intOf v8).toNat)
  case atStart => exact ⟨0, by omega, rfl, fun j hj h => by omega, Below.refl _ _⟩
  case round =>
    obtain ⟨i, hi, rfl, hall, hbr⟩ := hrel
    have HO := Lib.hid (And.intro hall hbr)
    have hszr := hbr.size
    clear hall hbr
    by_cases hlt : i < ks.length
    · have hd1 : decide ((i : Int) < (ks.length : Int)) = true := decide_eq_true (by omega)
      cases N with
      | zero =>
        obtain ⟨_, _, _, _, hv, _⟩ := H.out.1.get i hlt
        exact hv.elim
      | succ n =>
      obtain ⟨b, o, k, m, t, kao, kks, kcap, rfl, hx, hv, c0, c1, c2, c3, hblt⟩ := (H.out.1.below HO.out.2).cells i hlt
      have hgr : wr.cell? ⟨g, 0, none⟩ = some (.int .i64 (d : Int)) := (World.cell?_of_block (HO.out.2.block g (World.block_lt_of_cell? (a := ⟨g, 0, none⟩) w H.out.2))).trans H.out.2
      have hrc := rightC_any (n + 1) ih (.mk k m t kks) d hd g wr D _ hv hgr
      obtain ⟨q, hq⟩ : ∃ q, rightV floatOk (d + 1) (.mk k m t kks) = q := ⟨_, rfl⟩
      rw [hq] at hrc
      have HX := Lib.hid (And.intro hx hq)
      have HC := Lib.hid hrc
      clear hx hv hgr hrc hq
      go_wp2_with fail
      refine HC.out.mono ?_
      rintro e w2 ⟨rfl, hb2⟩
      have H2 := Lib.hid (HO.out.2.trans (hb2.mono hszr))
      clear hb2
      cases q
      · go_wp2_with fail
        go_ret
        refine ⟨⟨(i : Int), rfl, ?_⟩, H2.out⟩
        rw [rightVs_false i hlt (by rw [HX.out.1]; exact HX.out.2)]
        simp
      · go_wp2_with fail
        go_roundw
        case rel =>
          refine ⟨i + 1, by omega, by simp, fun j hj hji => ?_, H2.out⟩
          rcases Nat.lt_or_ge j i with h | h
          · exact HO.out.1 j hj h
          · obtain rfl : j = i := by omega
            rw [HX.out.1]
            exact HX.out.2
        case measure => simp [intOf]; omega
    · obtain rfl : i = ks.length := by omega
      go_wp2_with fail
      go_ret
      refine ⟨⟨-1, rfl, ?_⟩, HO.out.2⟩
      rw [rightVs_true fun j hj => HO.out.1 j hj hj]
      decide
set_option maxRecDepth 100000 in
set_option maxHeartbeats 1000000 in
theorem contains_any (N : Nat) (ih : RightOk N) (d : Nat) (hd : d ≤ 90000) (g : Nat) (ks : List PV) (ao : Option Addr) (cap : Nat) (hkl : ks.length ≤ 9223372036854775807) (w : World) (D : Nat → Prop) (h : VsIn w D N ao ks) (hg : w.cell? ⟨g, 0, none⟩ = some (.int .i64 (d : Int))) :
    Calls Tryd.prog 49 #[.slice ao ks.length cap, .func (.func 50) #[] #[.pointer (some ⟨g, 0, none⟩)]] w (fun e w' => e = .returned (.bool (!(rightVs floatOk (d + 1) ks))) ∧ Below w.heap.size w w') := by
  have H := Lib.hid (index_any N ih d hd g ks ao cap hkl w D h hg)
  clear h hg
  go_enter Tryd.func49, Tryd.ntmps49
  go_wp2_with fail
  refine H.out.mono ?_
  rintro e w1 ⟨⟨z, rfl, hz⟩, hb⟩
  have HZ := Lib.hid (And.intro hz hb)
  clear hz hb
  go_wp2_with fail
  go_ret
  exact ⟨by rw [← HZ.out.1]; rfl, HZ.out.2⟩
set_option maxRecDepth 100000 in
set_option maxHeartbeats 1000000 in
theorem vright_any : ∀ N : Nat, RightOk N
  | 0 => fun _ _ _ _ _ _ h => h.elim
  | N + 1 => by
    have ih := vright_any N
    rintro ⟨k, m, t, ks⟩ d hd w D cs h
    obtain ⟨ao, cap, hv, hcs, hkc, hcap, hks⟩ := h.val
    have H := Lib.hid (And.intro h (And.intro (show ks.length ≤ 9223372036854775807 by omega) hks))
    clear hkc hcap
    rw [hv]
    unfold valV
    clear h hks
    have hr : rightV floatOk d (.mk k m t ks) = (decide (d ≤ 200) && fitsV floatOk k m t ks.length && rightVs floatOk (d + 1) ks) := by rw [rightV]
    rw [hr]
    clear hr
    by_cases hd2 : d ≤ 200
    · have hd3 : decide ((d : Int) ≤ 200) = true := decide_eq_true (by omega)
      rw [decide_eq_true hd2, Bool.true_and]
      obtain ⟨q, hq⟩ : ∃ q, fitsV floatOk k m t ks.length = q := ⟨_, rfl⟩
      rw [hq]
      have HQ := Lib.hid hq
      clear hq
      obtain ⟨q2, hq2⟩ : ∃ q2, rightVs floatOk (d + 1) ks = q2 := ⟨_, rfl⟩
      rw [hq2]
      have HQ2 := Lib.hid hq2
      clear hq2
      go_enter Tryd.func23, Tryd.ntmps23
      go_wp2_with fail
      obtain ⟨W, hW⟩ : ∃ W, (w.alloc (.cells #[.int .i64 k, .int .i64 m, .string ⟨t.toArray⟩, .slice ao ks.length cap] 37)).alloc (.cells #[.int .i64 (d : Int)] 3) = W := ⟨_, rfl⟩
      have hbW : Below w.heap.size w W := by rw [← hW]; exact ((Below.refl w.heap.size w).alloc (Nat.le_refl _) _).alloc (by simp) _
      have hvW : ValAt W w.heap.size k m t ao ks.length cap := by rw [← hW]; exact (ValAt.new w k m t ao ks.length cap).below ((Below.refl _ _).alloc (Nat.le_refl _) _)
      have hgW : W.cell? ⟨w.heap.size + 1, 0, none⟩ = some (.int .i64 (d : Int)) := by
        rw [← hW]
        have hrow := heap_alloc_new (w.alloc (.cells #[.int .i64 k, .int .i64 m, .string ⟨t.toArray⟩, .slice ao ks.length cap] 37)) (.cells #[.int .i64 (d : Int)] 3)
        simp only [World.size_alloc] at hrow
        exact cell_of_row _ _ 0 _ _ (0, 0) hrow
      rw [hW]
      have HW := Lib.hid (And.intro hbW (And.intro hvW hgW))
      clear hW hbW hvW hgW
      refine (fits_any' k m t ao ks.length cap W).mono ?_
      rintro e w1 ⟨rfl, hb1⟩
      have hv1 := HW.out.2.1.below hb1
      have c3 := hv1.2.2.2
      have hg1 : w1.cell? ⟨w.heap.size + 1, 0, none⟩ = some (.int .i64 (d : Int)) := (World.cell?_of_block (hb1.block _ (World.block_lt_of_cell? (a := ⟨w.heap.size + 1, 0, none⟩) W HW.out.2.2))).trans HW.out.2.2
      have H1 := Lib.hid (And.intro (HW.out.1.trans (hb1.mono HW.out.1.size)) hg1)
      clear hb1 hv1 hg1
      rw [HQ.out]
      cases q
      · go_wp2_with fail
        go_ret
        exact ⟨rfl, H1.out.1⟩
      · go_wp2_with fail
        refine (contains_any N ih d (by omega) (w.heap.size + 1) ks ao cap (by have := H.out.2.1; omega) w1 D (H.out.2.2.below H1.out.1) H1.out.2).mono ?_
        rintro e w2 ⟨rfl, hb2⟩
        have H2 := Lib.hid (H1.out.1.trans (hb2.mono H1.out.1.size))
        clear hb2 c3
        rw [HQ2.out]
        cases q2
        · go_wp2_with fail
          go_ret
          exact ⟨rfl, H2.out⟩
        · go_wp2_with fail
          go_ret
          exact ⟨rfl, H2.out⟩
    · have hd3 : decide ((d : Int) ≤ 200) = false := decide_eq_false (by omega)
      rw [decide_eq_false hd2]
      go_enter Tryd.func23, Tryd.ntmps23
      go_wp2_with fail
      go_ret
      exact ⟨rfl, ((Below.refl w.heap.size w).alloc (Nat.le_refl _) _).alloc (by simp) _⟩
end Go.Proofs.YtpeehagaiofobaaDoor
