/-
  DERIVED. GIVEN WITH THE SEED: THE CARDS: each row of YtkgdcbpiicckkaaGreatDoorRows.lean that lists a variable, with what it lists TIED to the program's text (the seventh form; the later family's looks); each row that meets fmt, with fmt's text TOLD by the authors' own Lean function (tested against real Go, not proved from fmt's source: count such statements apart). THE CARD IS WHAT COUNTS. Prove the row's statement (the work); the ties are given (YtkgdcbpiicckkaaGreatDoorTie.lean); close each card by the builder's one call (the guide's Derived/Test/ToyasCard.lean, 'card_holds'). Laid BY PROGRAM, IN A SANDBOX (cutbox-door.mjs). By AI agents, Wed Nov 11 2026. No macro, syntax, notation, axiom, sorry.
-/
import Derived.Test.YtkgdcbpiicckkaaGreatDoorRows
import GoSem.ClaimSeven
namespace Go.Proofs.YtkgdcbpiicckkaaGreatDoor
namespace Rows

/-- THE TIED CARD OF 'scriptortop.ScriptorNumbers'. -/
def scriptorNumbersCard : Claim7 := { stood := { row := scriptorNumbersRow, standIns := [], harness := (true, "9986cea661c21e2e95839fff0568ae05ba851a64354daa5042bd908520979292"), looks := true }, kinds := [], alts := [], laidByText := true, laidKinds := [.data, .data, .data, .data, .data, .sentinel, .sentinel, .pinned], laidTests := true, laidLooks := .later }
def ScriptorNumbersCardSaid : Prop := Claim7.holds Tryz.pinned (.plain (OpenSpec.ofChange scriptorNumbersSpec)) scriptorNumbersCard

/-- THE SECOND FORM's CARD OF 'scriptortop.ScriptorNumbers'. -/
def scriptorNumbersUptoCard : Claim7 := { stood := { row := scriptorNumbersUptoRow, standIns := [], harness := (true, "9986cea661c21e2e95839fff0568ae05ba851a64354daa5042bd908520979292"), looks := true }, kinds := [], alts := [], laidByText := true, laidKinds := [.data, .data, .data, .data, .data, .sentinel, .sentinel, .pinned], laidTests := true, laidLooks := .later }
def ScriptorNumbersUptoCardSaid : Prop := Claim7.holds Tryz.pinned (.plain (OpenSpec.upto scriptorNumbersSpec)) scriptorNumbersUptoCard
end Rows
end Go.Proofs.YtkgdcbpiicckkaaGreatDoor
