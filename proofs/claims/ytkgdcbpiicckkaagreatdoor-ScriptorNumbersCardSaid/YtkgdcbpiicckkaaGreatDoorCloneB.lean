/- The walk of the library's bytes.Clone (as in the disk's text, for seats without a disk). -/
import Derived.Test.YtkgdcbpiicckkaaGreatDoorOps
import Derived.Lib.BufferMore
import Derived.Handy
namespace Go.Proofs.YtkgdcbpiicckkaaGreatDoor
set_option linter.unusedSimpArgs false
set_option linter.unusedVariables false
open Go.RowKit

set_option maxHeartbeats 400000 in
theorem clone_any (ao : Option Addr) (l : List UInt8) (n cap : Nat) (hn : n = l.length) (hm : l.length ≤ 70368744177664) (w : World) (hat : At w ao (bytesV l)) :
    Calls Tryz.prog 30 #[.slice ao n cap] w (NewBytes w l) := by
  subst hn
  have HA := Lib.hid hat
  go_enter Tryz.func30, Tryz.ntmps30
  rcases ao with _ | a
  · have hl : l = [] := by
      rcases HA.out with h | ⟨b, o, h, _⟩
      · simpa [bytesV] using h
      · cases h
    subst hl
    have heq := Lib.run_eql_slice_nil_nil (P := Tryz.prog) w 0 cap Tryz.underlying24
    simp only [List.length_nil] at *
    go_wp2_with fail
    go_ret
    exact ⟨none, 0, rfl, World.ownsRow_nil _ _ _ _, Below.refl _ _⟩
  · have heq := Lib.run_eql_slice_some_nil (P := Tryz.prog) w a l.length cap Tryz.underlying24
    go_wp2_with (at_builtin; refine app_bytes rfl _ _ rfl w.heap.size (some ⟨w.heap.size, 0, none⟩) 0 [] 0 rfl (by exact World.ownsRow_lit w #[] 0 (Nat.le_refl _) (by decide) rfl) _ _ cap l rfl (HA.out.below ((Below.refl _ _).alloc (Nat.le_refl _) _)) rfl (by omega) (by simp) ?_; rintro co capc w1 ⟨q1, q2, q3⟩)
    go_ret
    have hb1 : Below w.heap.size w w1 := ((Below.refl _ w).alloc (Nat.le_refl _) _).trans (below_grown (B := w.heap.size) (w := w.alloc (.cells #[] 5)) (ao := some ⟨w.heap.size, 0, none⟩) (m := 0) (cap := 0) (e := 5) (size := 1) (n := 0) (xs := []) (World.ownsRow_lit w #[] 0 (Nat.le_refl _) (by decide) rfl) (by simp) q2)
    refine ⟨co, capc, by simp, by simpa using q1, hb1⟩
end Go.Proofs.YtkgdcbpiicckkaaGreatDoor
