/- More rows of a law's input, opened. -/
import Derived.Test.YtkgdcbpiicckkaaGreatDoorLaw
namespace Go.Proofs.YtkgdcbpiicckkaaGreatDoor
set_option linter.unusedSimpArgs false
set_option linter.unusedVariables false
open Go.ChangeShapes Go.WideShapes Go.ChangeAt Go.RowKit

section
variable {H : Type} {enc : TypeId × Value → H} {P : Program}

/-- A SLICE OF BOOLS, OPENED. -/
theorem open_bools {w : World} {r : Reach} {b0 : Nat} {t e : TypeId} {v : Value} {d : DataW H} {ps : List MemPlace} (ht : P.underlying t = some (.slice e)) (he : P.underlying e = some .bool) (hc : P.cellsOf e = 1) (hval : Value.okWide P w r b0 t v) (h : DataW.Trod enc P w 0 (fun _ => true) true t v d ps) :
    ∃ (ao : Option Addr) (cap : Nat) (l : List Bool), v = .slice ao l.length cap ∧ l.length ≤ cap ∧ cap ≤ 9223372036854775807 ∧ At w ao (l.map Value.bool) := by
  obtain ⟨ao, cap, vs, rfl, h1, h2, h3, h4⟩ := open_at ht hc hval h
  have : ∀ vs : List Value, (∀ u ∈ vs, ∃ n d' p', DataW.trod enc P w 0 (fun _ => true) true n e [u] = some (d', p')) → ∃ l : List Bool, vs = l.map Value.bool := by
    intro vs
    induction vs with
    | nil => exact fun _ => ⟨[], rfl⟩
    | cons u vs ih =>
      intro hu
      obtain ⟨n, d', p', hd⟩ := hu u (by simp)
      obtain ⟨z, e1, _⟩ := DataW.trod_bool he hd
      obtain ⟨l, rfl⟩ := ih fun u' hu' => hu u' (by simp [hu'])
      refine ⟨z :: l, ?_⟩
      have e2 : u = .bool z := by simpa using e1
      rw [e2]; rfl
  obtain ⟨l, rfl⟩ := this vs h4
  rw [List.length_map] at *
  exact ⟨ao, cap, l, rfl, h1, h2, h3⟩
end

end Go.Proofs.YtkgdcbpiicckkaaGreatDoor
