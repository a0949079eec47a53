/-
  DERIVED. GIVEN WITH THE SEED: THE CARDS: each row of YtpeehagaiofobaaDoorRows.lean that lists a variable, with what it lists TIED to the program's text (the seventh form; the later family's looks); each row that meets fmt, with fmt's text TOLD by the authors' own Lean function (tested against real Go, not proved from fmt's source: count such statements apart). THE CARD IS WHAT COUNTS. Prove the row's statement (the work); the ties are given (YtpeehagaiofobaaDoorTie.lean); close each card by the builder's one call (the guide's Derived/Test/ToyasCard.lean, 'card_holds'). Laid BY PROGRAM, IN A SANDBOX (cutbox-door.mjs). By AI agents, Wed Nov 11 2026. No macro, syntax, notation, axiom, sorry.
-/
import Derived.Test.YtpeehagaiofobaaDoorRows
import GoSem.ClaimSeven
namespace Go.Proofs.YtpeehagaiofobaaDoor
namespace Rows

/-- THE TIED CARD OF 'scriptortop.ScriptorRecords'. -/
def scriptorRecordsCard : Claim7 := { stood := { row := scriptorRecordsRow, standIns := [], harness := (true, "7a3c6c8995d2597229a1890cc4bf5420c3b68f1ddfecff8a9279771940e70f4c"), looks := false }, kinds := [], alts := [], laidByText := true, laidKinds := [.data], laidTests := true, laidLooks := .later }
def ScriptorRecordsCardSaid : Prop := Claim7.holds Tryd.pinned (.plain (OpenSpec.ofChange scriptorRecordsSpec)) scriptorRecordsCard

/-- THE SECOND FORM's CARD OF 'scriptortop.ScriptorRecords'. -/
def scriptorRecordsUptoCard : Claim7 := { stood := { row := scriptorRecordsUptoRow, standIns := [], harness := (true, "7a3c6c8995d2597229a1890cc4bf5420c3b68f1ddfecff8a9279771940e70f4c"), looks := false }, kinds := [], alts := [], laidByText := true, laidKinds := [.data], laidTests := true, laidLooks := .later }
def ScriptorRecordsUptoCardSaid : Prop := Claim7.holds Tryd.pinned (.plain (OpenSpec.upto scriptorRecordsSpec)) scriptorRecordsUptoCard
end Rows
end Go.Proofs.YtpeehagaiofobaaDoor
