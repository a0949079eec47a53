/- The walks of val.Encode, of Same, and of the document's Tame. -/
import Derived.Test.YtpeehagaiofobaaDoorVal3
import Derived.Handy
namespace Go.Proofs.YtpeehagaiofobaaDoor
open Go.RowKit

def EncOk (w : World) (x : PV) (e : Ending) (w' : World) : Prop := Below w.heap.size w w' ∧
  ((rightV floatOk 1 x = true ∧ (encV x).length ≤ 16384 ∧ ∃ ao cap, e = .returned (.tuple #[.slice ao (encV x).length cap, .int .i64 0]) ∧ w'.ownsRow w.heap.size 5 1 (.slice ao (encV x).length cap) (encV x).length (bytesV (encV x))) ∨
    ∃ (z : Int), (z = 2 ∨ z = 4) ∧ e = .returned (.tuple #[.slice none 0 0, .int .i64 z]))
set_option maxRecDepth 100000 in
set_option maxHeartbeats 1000000 in
theorem encode_any (N : Nat) (x : PV) (w : World) (D : Nat → Prop) (cs : List Value) (h : VIn w D N cs x) :
    Calls Tryd.prog 10 #[.agg cs.toArray] w (EncOk w x) := by
  cases N with
  | zero => exact h.elim
  | succ N =>
  obtain ⟨k, m, t, ks⟩ := x
  obtain ⟨ko, kcap, hv, hcs, _⟩ := h.val
  have hbA := fun (o : Obj) => (Below.refl w.heap.size w).alloc (Nat.le_refl _) o
  obtain ⟨W, hW⟩ : ∃ W, w.alloc (.cells #[.int .i64 k, .int .i64 m, .string ⟨t.toArray⟩, .slice ko ks.length kcap] 37) = W := ⟨_, rfl⟩
  have hbW : Below w.heap.size w W := by rw [← hW]; exact hbA _
  have hvW : ValAt W w.heap.size k m t ko ks.length kcap := by rw [← hW]; exact ValAt.new w k m t ko ks.length kcap
  have hsW : w.heap.size < W.heap.size := by rw [← hW]; simp
  have H := Lib.hid (And.intro h (And.intro hbW hvW))
  have hr := vright_any (N + 1) (.mk k m t ks) 1 (by decide) W D cs (h.there.mono (fun _ h => h.1) |>.below hbW)
  rw [hv] at hr ⊢
  unfold valV at hr ⊢
  have HR := Lib.hid hr
  have HV := Lib.hid (And.intro hv hcs)
  have HW := Lib.hid hW
  clear h hv hcs hbA hbW hvW hr hW
  go_enter Tryd.func10, Tryd.ntmps10
  go_wp2_with fail
  rw [HW.out]
  refine HR.out.mono ?_
  rintro e w1 ⟨rfl, hb1⟩
  have hv1 := H.out.2.2.below hb1
  obtain ⟨c0, c1, c2, c3⟩ := hv1
  have hs1 := hb1.size
  have H1 := Lib.hid (H.out.2.1.trans (hb1.mono (Nat.le_of_lt hsW)))
  clear hb1
  obtain ⟨q, hq⟩ : ∃ q, rightV floatOk 1 (.mk k m t ks) = q := ⟨_, rfl⟩
  rw [hq]
  have HQ := Lib.hid hq
  clear hq
  cases q
  · go_wp2_with fail
    go_returns
    exact ⟨H1.out, .inr ⟨2, .inl rfl, rfl⟩⟩
  · have hput := put_any (N + 1) (.mk k m t ks) 1 HQ.out w1 (fun b => D b ∧ b < w.heap.size) cs (H.out.1.there.below H1.out) w1.heap.size none 0 [] (World.ownsRow_nil _ _ _ _) (Nat.le_refl _) (fun j hj => by cases hj) (by simp)
    rw [HV.out.1] at hput
    unfold valV at hput
    have HPUT := Lib.hid hput
    clear hput
    go_wp2_with fail
    clear c0 c1 c2 c3
    refine HPUT.out.mono ?_
    rintro e w2 ⟨ao, cap, rfl, hown, hk, _⟩
    have hb2 : Below w1.heap.size w1 w2 := hk.below (fun i _ h => by cases h) (Nat.le_refl _)
    obtain ⟨L, hL⟩ : ∃ L, putV [] (.mk k m t ks) = L := ⟨_, rfl⟩
    have hen := putV_enc [] (.mk k m t ks)
    rw [hL] at hown hen ⊢
    have H2 := Lib.hid (And.intro hown (And.intro (H1.out.trans (hb2.mono (by omega))) hen))
    clear hown hk hb2 hL hen
    by_cases hbig : 16384 < L.length
    · have hd1 : decide (16384 < (L.length : Int)) = true := decide_eq_true (by omega)
      go_wp2_with fail
      go_returns
      exact ⟨H2.out.2.1, .inr ⟨4, .inr rfl, rfl⟩⟩
    · have hd1 : decide (16384 < (L.length : Int)) = false := decide_eq_false (by omega)
      obtain rfl : L = encV (.mk k m t ks) := by have := H2.out.2.2 (by omega); simpa using this
      go_wp2_with fail
      go_returns
      exact ⟨H2.out.2.1, .inl ⟨HQ.out, by omega, ao, cap, rfl, owns_mono H2.out.1 (by omega)⟩⟩

/-- Two values that are one are the same. -/
def SameOk (N : Nat) : Prop := ∀ (x : PV) (w : World) (D E : Nat → Prop) (cs cs2 : List Value), VIn w D N cs x → VIn w E N cs2 x →
  Calls Tryd.prog 14 #[.agg cs.toArray, .agg cs2.toArray] w (fun e w' => e = .returned (.bool true) ∧ Below w.heap.size w w')
set_option maxRecDepth 100000 in
set_option maxHeartbeats 4000000 in
theorem equalV_any (N : Nat) (ih : SameOk N) (ks : List PV) (ao ao2 : Option Addr) (cap cap2 : Nat) (hkl : ks.length ≤ 9223372036854775807) (w : World) (D E : Nat → Prop) (h : VsIn w D N ao ks) (h2 : VsIn w E N ao2 ks) :
    Calls Tryd.prog 33 #[.slice ao ks.length cap, .slice ao2 ks.length cap2, .func (.func 14) #[] #[]] w (fun e w' => e = .returned (.bool true) ∧ Below w.heap.size w w') := by
  have H := Lib.hid (And.intro h h2)
  clear h h2
  go_enter Tryd.func33, Tryd.ntmps33
  go_wp2_with fail
  go_loopw [17] (fun v17 wr => ∃ i : Nat, i ≤ ks.length ∧ v17 = .int .i64 (i : Int) ∧ Below w.heap.size w wr) (fun v17 _ => ks.length - (intOf v17).toNat)
  case atStart => exact ⟨0, by omega, rfl, Below.refl _ _⟩
  case round =>
    obtain ⟨i, hi, rfl, hbr⟩ := hrel
    have HO := Lib.hid hbr
    have hszr := hbr.size
    clear hbr
    by_cases hlt : i < ks.length
    · have hd1 : decide ((i : Int) < (ks.length : Int)) = true := decide_eq_true (by omega)
      cases N with
      | zero =>
        obtain ⟨_, _, _, _, hv, _⟩ := H.out.1.get i hlt
        exact hv.elim
      | succ n =>
      obtain ⟨b, o, k, m, t, kao, kks, kcap, rfl, hx, hv, c0, c1, c2, c3, hblt⟩ := (H.out.1.below HO.out).cells i hlt
      obtain ⟨b2, o2, k2, m2, t2, kao2, kks2, kcap2, rfl, hx2, hv2, e0, e1, e2, e3, hblt2⟩ := (H.out.2.below HO.out).cells i hlt
      rw [hx] at hx2
      cases hx2
      have hbA := fun (o : Obj) => (Below.refl wr.heap.size wr).alloc (Nat.le_refl _) o
      obtain ⟨W, hW⟩ : ∃ W, (wr.alloc (.cells #[.int .i64 k, .int .i64 m, .string ⟨t.toArray⟩, .slice kao kks.length kcap] 37)) = W := ⟨_, rfl⟩
      have hbW : Below wr.heap.size wr W := by rw [← hW]; exact hbA _
      have hbW2 : Below wr.heap.size wr (W.alloc (.cells #[.int .i64 k, .int .i64 m, .string ⟨t.toArray⟩, .slice kao2 kks.length kcap2] 37)) := hbW.alloc hbW.size _
      have hsame := ih (.mk k m t kks) (W.alloc (.cells #[.int .i64 k, .int .i64 m, .string ⟨t.toArray⟩, .slice kao2 kks.length kcap2] 37)) D E _ _ (hv.below hbW2) (hv2.below hbW2)
      have f0 : W.cell? ⟨b2, o2 + i * 4, none⟩ = some (.int .i64 k) := (World.cell?_of_block (a := ⟨b2, o2 + i * 4, none⟩) (hbW.block b2 hblt2)).trans e0
      have f1 : W.cell? ⟨b2, o2 + i * 4 + 1, none⟩ = some (.int .i64 m) := (World.cell?_of_block (a := ⟨b2, o2 + i * 4 + 1, none⟩) (hbW.block b2 hblt2)).trans e1
      have f2 : W.cell? ⟨b2, o2 + i * 4 + 2, none⟩ = some (.string ⟨t.toArray⟩) := (World.cell?_of_block (a := ⟨b2, o2 + i * 4 + 2, none⟩) (hbW.block b2 hblt2)).trans e2
      have f3 : W.cell? ⟨b2, o2 + i * 4 + 3, none⟩ = some (.slice kao2 kks.length kcap2) := (World.cell?_of_block (a := ⟨b2, o2 + i * 4 + 3, none⟩) (hbW.block b2 hblt2)).trans e3
      rw [← hW] at f0 f1 f2 f3 hsame hbW2
      have HS := Lib.hid (And.intro hsame hbW2)
      clear hx hv hv2 hbA hW hbW hbW2 hsame
      go_wp2_with fail
      refine HS.out.1.mono ?_
      rintro e w2 ⟨rfl, hb2⟩
      have H2 := Lib.hid (HO.out.trans ((HS.out.2.trans (hb2.mono HS.out.2.size)).mono hszr))
      clear hb2
      go_wp2_with fail
      go_roundw
      case rel => exact ⟨i + 1, by omega, by simp, H2.out⟩
      case measure => simp [intOf]; omega
    · obtain rfl : i = ks.length := by omega
      go_wp2_with fail
      go_ret
      exact ⟨rfl, HO.out⟩
set_option maxRecDepth 100000 in
set_option maxHeartbeats 1000000 in
theorem vsame_any : ∀ N : Nat, SameOk N
  | 0 => fun _ _ _ _ _ _ h => h.elim
  | N + 1 => by
    have ih := vsame_any N
    rintro ⟨k, m, t, ks⟩ w D E cs cs2 h h2
    obtain ⟨ao, cap, hv, hcs, hkc, hcap, hks⟩ := h.val
    obtain ⟨ao2, cap2, hv2, hcs2, _, _, hks2⟩ := h2.val
    have hbA : Below w.heap.size w ((w.alloc (.cells #[.int .i64 k, .int .i64 m, .string ⟨t.toArray⟩, .slice ao ks.length cap] 37)).alloc (.cells #[.int .i64 k, .int .i64 m, .string ⟨t.toArray⟩, .slice ao2 ks.length cap2] 37)) := ((Below.refl w.heap.size w).alloc (Nat.le_refl _) _).alloc (by simp) _
    have H := Lib.hid (And.intro (equalV_any N ih ks ao ao2 cap cap2 (by omega) _ D E (hks.below hbA) (hks2.below hbA)) hbA)
    rw [hv, hv2]
    unfold valV
    clear h h2 hks hks2 hv hv2 hcs hcs2 hbA hkc hcap
    go_enter Tryd.func14, Tryd.ntmps14
    go_wp2_with fail
    refine H.out.1.mono ?_
    rintro e w2 ⟨rfl, hb2⟩
    have H2 := Lib.hid (H.out.2.trans (hb2.mono H.out.2.size))
    clear hb2
    go_wp2_with fail
    go_ret
    exact ⟨rfl, H2.out⟩
end Go.Proofs.YtpeehagaiofobaaDoor
