/- What the rows' list gives: the table's cells; and a world that holds the table. -/
import Derived.Test.YtpeehagaiofobaaDoorCards
import Derived.Test.YtpeehagaiofobaaDoorTie
import Derived.Test.YtpeehagaiofobaaDoorCrc
import Derived.Test.YtpeehagaiofobaaDoorLaw
import Derived.Deep.DeepHandedRow
import Derived.Lib.LaidTab
namespace Go.Proofs.YtpeehagaiofobaaDoor
open Go.RowKit
theorem gTab : Tryd.prog.globalNamed "scriptor/crc.half" = some 0 := by kernel_rfl
theorem gTabType : (Tryd.prog.globals[0]?).map (·.type) = some 111 := by kernel_rfl
theorem cellsTab : Tryd.prog.cellsOf 111 = 16 := by kernel_rfl
theorem cellsU32 : Tryd.prog.cellsOf 86 = 1 := by kernel_rfl
def halfZ : List Int := [0, 274646895, 549293790, 820201905, 1098587580, 1361435347, 1640403810, 1905808397, 2197175160, 2460548119, 2722870694, 2987750089, 3280807620, 3553878443, 3811616794, 4084100981]
theorem halfZ_eq : ∀ i, i < 16 → halfZ.getD i 0 = (halfN i : Nat) := by decide
theorem table_of {W : World} (h : laidMetH Tryd.prog [("scriptor/crc.half", Rows.laid_scriptor_crc_half)] W) : Tab W := by
  have ht : Lib.TabIs Tryd.prog W "scriptor/crc.half" .u32 halfZ := Lib.tabIs_of_head (rest := []) gTab gTabType Tryd.underlying111 Tryd.underlying86 cellsU32 cellsTab h
  intro i hi
  rw [← halfZ_eq i hi]
  exact ht.cell gTab i hi
noncomputable def laidWorld (os : Os) : World :=
  { World.holding Tryd.prog os ⟨#[], #[], []⟩ with heap := (World.holding Tryd.prog os ⟨#[], #[], []⟩).heap.modify 0 fun
      | .cells _ t frozen => .cells (halfZ.map (Value.int .u32)).toArray t frozen
      | o => o }

end Go.Proofs.YtpeehagaiofobaaDoor
