/-
  DERIVED. GIVEN WITH THE SEED: THE CARDS: each row of YtnhdefaagicejaaDoorRows.lean that lists a variable, with what it lists TIED to the program's text (the seventh form; the later family's looks); each row that meets fmt, with fmt's text TOLD by the authors' own Lean function (tested against real Go, not proved from fmt's source: count such statements apart). THE CARD IS WHAT COUNTS. Prove the row's statement (the work); the ties are given (YtnhdefaagicejaaDoorTie.lean); close each card by the builder's one call (the guide's Derived/Test/ToyasCard.lean, 'card_holds'). Laid BY PROGRAM, IN A SANDBOX (cutbox-door.mjs). By AI agents, Wed Nov 11 2026. No macro, syntax, notation, axiom, sorry.
-/
import Derived.Test.YtnhdefaagicejaaDoorRows
import GoSem.ClaimSeven
namespace Go.Proofs.YtnhdefaagicejaaDoor
namespace Rows

/-- THE TIED CARD OF 'scriptorlaw16.CodeMany'. -/
def codeManyCard : Claim7 := { stood := { row := codeManyRow, standIns := [], harness := (true, "e0adaedcea530d9b047e09ff1848c7f7e6d60ef9b858e13a459dae2853c83f90"), looks := true }, kinds := [], alts := [], laidByText := true, laidKinds := [.data], laidTests := true, laidLooks := .later }
def CodeManyCardSaid : Prop := Claim7.holds Tryd.pinned (.plain (OpenSpec.ofChange codeManySpec)) codeManyCard

/-- THE TIED CARD OF 'scriptorlaw16.CodeDead'. -/
def codeDeadCard : Claim7 := { stood := { row := codeDeadRow, standIns := [], harness := (true, "e0adaedcea530d9b047e09ff1848c7f7e6d60ef9b858e13a459dae2853c83f90"), looks := true }, kinds := [], alts := [], laidByText := true, laidKinds := [.data], laidTests := true, laidLooks := .later }
def CodeDeadCardSaid : Prop := Claim7.holds Tryd.pinned (.plain (OpenSpec.ofChange codeDeadSpec)) codeDeadCard

/-- THE TIED CARD OF 'scriptorlaw16.CodeBack'. -/
def codeBackCard : Claim7 := { stood := { row := codeBackRow, standIns := [], harness := (true, "e0adaedcea530d9b047e09ff1848c7f7e6d60ef9b858e13a459dae2853c83f90"), looks := true }, kinds := [], alts := [], laidByText := true, laidKinds := [.data, .data], laidTests := true, laidLooks := .later }
def CodeBackCardSaid : Prop := Claim7.holds Tryd.pinned (.plain (OpenSpec.ofChange codeBackSpec)) codeBackCard

/-- THE SECOND FORM's CARD OF 'scriptorlaw16.CodeMany'. -/
def codeManyUptoCard : Claim7 := { stood := { row := codeManyUptoRow, standIns := [], harness := (true, "e0adaedcea530d9b047e09ff1848c7f7e6d60ef9b858e13a459dae2853c83f90"), looks := true }, kinds := [], alts := [], laidByText := true, laidKinds := [.data], laidTests := true, laidLooks := .later }
def CodeManyUptoCardSaid : Prop := Claim7.holds Tryd.pinned (.plain (OpenSpec.upto codeManySpec)) codeManyUptoCard

/-- THE SECOND FORM's CARD OF 'scriptorlaw16.CodeDead'. -/
def codeDeadUptoCard : Claim7 := { stood := { row := codeDeadUptoRow, standIns := [], harness := (true, "e0adaedcea530d9b047e09ff1848c7f7e6d60ef9b858e13a459dae2853c83f90"), looks := true }, kinds := [], alts := [], laidByText := true, laidKinds := [.data], laidTests := true, laidLooks := .later }
def CodeDeadUptoCardSaid : Prop := Claim7.holds Tryd.pinned (.plain (OpenSpec.upto codeDeadSpec)) codeDeadUptoCard

/-- THE SECOND FORM's CARD OF 'scriptorlaw16.CodeBack'. -/
def codeBackUptoCard : Claim7 := { stood := { row := codeBackUptoRow, standIns := [], harness := (true, "e0adaedcea530d9b047e09ff1848c7f7e6d60ef9b858e13a459dae2853c83f90"), looks := true }, kinds := [], alts := [], laidByText := true, laidKinds := [.data, .data], laidTests := true, laidLooks := .later }
def CodeBackUptoCardSaid : Prop := Claim7.holds Tryd.pinned (.plain (OpenSpec.upto codeBackSpec)) codeBackUptoCard
end Rows
end Go.Proofs.YtnhdefaagicejaaDoor
