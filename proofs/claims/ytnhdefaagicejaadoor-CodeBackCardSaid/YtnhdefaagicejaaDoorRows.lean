/-
  NARROWER THAN 'FOR EVERY INPUT', by the rows' own cells (each row's printed sentence says how): CodeMany: laid · CodeDead: laid · CodeBack: laid.
  DERIVED. THE GIVEN ROWS OF THIS SEAT. 3 by the template 'for every input the law returns true; each argument reads behind the call as it read before'; 0 by the template 'total and deterministic' (their statements: YtnhdefaagicejaaDoorTotals.lean).
  GIVEN WITH THE SEED: the statements are not yours to turn. If you find one false, say at which input.
  Laid BY PROGRAM, IN A SANDBOX (cutbox-rows.mjs): the forced cells as the released guide's own fill.sh prints them over the translation ce0d11082bddb737… (all of the seat's roots in one cut). By AI agents, Wed Nov 11 2026. No macro, syntax, notation, axiom, sorry.
-/
import Derived.Test.YtnhdefaagicejaaDoorChecked
import GoSem.Claim
import GoSem.ClaimJoined
import GoSem.ClaimMapViews
import Derived.JoinedTies
import Derived.KernelRfl
namespace Go.Proofs.YtnhdefaagicejaaDoor
/- THE CELL 'sum', in the pinned program and in every row, IS THE sha256 OF THE DUMP (.gsa) THAT YtnhdefaagicejaaDoorProg.lean LOADS. Nothing in Lean hashes anything: it is a label: what it is worth is what the hold of that sum in a sandbox is worth. -/
noncomputable def Tryd.pinned : Pinned := { name := "ytnhdefaagicejaadoor", sum := "ce0d11082bddb737891b3abf5a2f4a4a9b5a31dfbd2af7b2b5be399de998f3fd", checked := Tryd.checked }
namespace Rows
def none {H : Type} : Left H := { results := [], args := [] }

/- WHAT THE LISTED PACKAGE-LEVEL VARIABLES READ AS WHEN THE CALL BEGINS. Each datum BY PROGRAM (the guide's laid-datum.mjs) off the statement by which the dump's own 'gosem.cut.vars' lays the variable. In a bare row this is a premise. The card (YtnhdefaagicejaaDoorCards.lean) ties it to the program's text. -/
def laid_scriptor_code_shapes {H : Type} : DataW H := .agg [.agg [.lit (.string [73, 110, 116]), .lit (.int .i64 1)], .agg [.lit (.string [83, 116, 114]), .lit (.int .i64 1)], .agg [.lit (.string [70, 108, 111, 97, 116]), .lit (.int .i64 1)], .agg [.lit (.string [85, 110, 105, 116]), .lit (.int .i64 0)], .agg [.lit (.string [76, 111, 99, 97, 108]), .lit (.int .i64 1)], .agg [.lit (.string [70, 114, 101, 101]), .lit (.int .i64 1)], .agg [.lit (.string [83, 101, 108, 102]), .lit (.int .i64 0)], .agg [.lit (.string [71, 108, 111, 98, 97, 108]), .lit (.int .i64 1)], .agg [.lit (.string [83, 101, 116]), .lit (.int .i64 1)], .agg [.lit (.string [80, 114, 105, 109]), .lit (.int .i64 1)], .agg [.lit (.string [67, 111, 110]), .lit (.int .i64 2)], .agg [.lit (.string [84, 117, 112]), .lit (.int .i64 1)], .agg [.lit (.string [67, 108, 111, 115, 101]), .lit (.int .i64 2)], .agg [.lit (.string [65, 112, 112, 108, 121]), .lit (.int .i64 0)], .agg [.lit (.string [82, 101, 116]), .lit (.int .i64 0)], .agg [.lit (.string [74, 117, 109, 112]), .lit (.int .i64 1)], .agg [.lit (.string [85, 110, 108, 101, 115, 115]), .lit (.int .i64 1)], .agg [.lit (.string [80, 111, 112]), .lit (.int .i64 0)], .agg [.lit (.string [83, 108, 105, 100, 101]), .lit (.int .i64 1)], .agg [.lit (.string [70, 105, 101, 108, 100]), .lit (.int .i64 1)], .agg [.lit (.string [73, 115, 73, 110, 116]), .lit (.int .i64 2)], .agg [.lit (.string [73, 115, 83, 116, 114]), .lit (.int .i64 2)], .agg [.lit (.string [73, 115, 67, 111, 110]), .lit (.int .i64 2)], .agg [.lit (.string [82, 97, 105, 115, 101]), .lit (.int .i64 0)], .agg [.lit (.string [84, 114, 121]), .lit (.int .i64 1)], .agg [.lit (.string [69, 110, 100, 84, 114, 121]), .lit (.int .i64 0)], .agg [.lit (.string [66, 101, 103, 105, 110]), .lit (.int .i64 0)], .agg [.lit (.string [67, 111, 109, 109, 105, 116]), .lit (.int .i64 0)], .agg [.lit (.string [72, 97, 108, 116]), .lit (.int .i64 0)]]
def laid_scriptor_crc_half {H : Type} : DataW H := .agg [.lit (.int .u32 0), .lit (.int .u32 274646895), .lit (.int .u32 549293790), .lit (.int .u32 820201905), .lit (.int .u32 1098587580), .lit (.int .u32 1361435347), .lit (.int .u32 1640403810), .lit (.int .u32 1905808397), .lit (.int .u32 2197175160), .lit (.int .u32 2460548119), .lit (.int .u32 2722870694), .lit (.int .u32 2987750089), .lit (.int .u32 3280807620), .lit (.int .u32 3553878443), .lit (.int .u32 3811616794), .lit (.int .u32 4084100981)]

/-- 'scriptorlaw16.CodeMany': WHATEVER THE INPUT: true; the input reads as it did. -/
def codeManySpec : ChangeSpec := { name := "codeMany", fn := fun _ => fun
  | [d1, d2] => { results := [.lit (.bool true)], args := [d1, d2] }
  | _ => none }
def codeManyRow : OpenClaim := { program := "ytnhdefaagicejaadoor", sum := "ce0d11082bddb737891b3abf5a2f4a4a9b5a31dfbd2af7b2b5be399de998f3fd", func := "scriptor/scriptorlaw16.CodeMany", spec := "codeMany", inPlace := ["math.Float64frombits", "math.Float64bits"], unfollowed := true, recurses := true, named := ["scriptor/code.shapes"], apart := false, laid := [("scriptor/code.shapes", laid_scriptor_code_shapes)] }
def CodeManySaid : Prop := codeManyRow.holds Tryd.pinned (OpenSpec.ofChange codeManySpec)

/-- ITS FALSE NEIGHBOUR: 'it returns false'. Refute it at one input. -/
def codeManyWrong : ChangeSpec := { name := "codeMany", fn := fun _ => fun
  | [d1, d2] => { results := [.lit (.bool false)], args := [d1, d2] }
  | _ => none }
def CodeManyWrongFalsely : Prop := codeManyRow.holds Tryd.pinned (OpenSpec.ofChange codeManyWrong)

/-- 'scriptorlaw16.CodeDead': WHATEVER THE INPUT: true; the input reads as it did. -/
def codeDeadSpec : ChangeSpec := { name := "codeDead", fn := fun _ => fun
  | [d1, d2] => { results := [.lit (.bool true)], args := [d1, d2] }
  | _ => none }
def codeDeadRow : OpenClaim := { program := "ytnhdefaagicejaadoor", sum := "ce0d11082bddb737891b3abf5a2f4a4a9b5a31dfbd2af7b2b5be399de998f3fd", func := "scriptor/scriptorlaw16.CodeDead", spec := "codeDead", inPlace := ["math.Float64frombits", "math.Float64bits"], unfollowed := true, recurses := true, named := ["scriptor/code.shapes"], apart := false, laid := [("scriptor/code.shapes", laid_scriptor_code_shapes)] }
def CodeDeadSaid : Prop := codeDeadRow.holds Tryd.pinned (OpenSpec.ofChange codeDeadSpec)

/-- ITS FALSE NEIGHBOUR: 'it returns false'. Refute it at one input. -/
def codeDeadWrong : ChangeSpec := { name := "codeDead", fn := fun _ => fun
  | [d1, d2] => { results := [.lit (.bool false)], args := [d1, d2] }
  | _ => none }
def CodeDeadWrongFalsely : Prop := codeDeadRow.holds Tryd.pinned (OpenSpec.ofChange codeDeadWrong)

/-- 'scriptorlaw16.CodeBack': WHATEVER THE INPUT: true; the input reads as it did. -/
def codeBackSpec : ChangeSpec := { name := "codeBack", fn := fun _ => fun
  | [d1, d2] => { results := [.lit (.bool true)], args := [d1, d2] }
  | _ => none }
def codeBackRow : OpenClaim := { program := "ytnhdefaagicejaadoor", sum := "ce0d11082bddb737891b3abf5a2f4a4a9b5a31dfbd2af7b2b5be399de998f3fd", func := "scriptor/scriptorlaw16.CodeBack", spec := "codeBack", inPlace := ["math.Float64frombits", "math.Float64bits"], unfollowed := true, recurses := true, named := ["scriptor/code.shapes", "scriptor/crc.half"], apart := false, laid := [("scriptor/crc.half", laid_scriptor_crc_half), ("scriptor/code.shapes", laid_scriptor_code_shapes)] }
def CodeBackSaid : Prop := codeBackRow.holds Tryd.pinned (OpenSpec.ofChange codeBackSpec)

/-- ITS FALSE NEIGHBOUR: 'it returns false'. Refute it at one input. -/
def codeBackWrong : ChangeSpec := { name := "codeBack", fn := fun _ => fun
  | [d1, d2] => { results := [.lit (.bool false)], args := [d1, d2] }
  | _ => none }
def CodeBackWrongFalsely : Prop := codeBackRow.holds Tryd.pinned (OpenSpec.ofChange codeBackWrong)

/- THE SECOND FORM. 'bulk': how many values and letters a reading holds, each counted each time it is reached (what is shared counts as often as it is met; a slice's spare places count too). A statement '..UptoSaid' is the law's where the arguments, and the package variables that the reading takes, are together of bulk at most 1048576: NARROWER than '..Said'. Prove '..Said' where nothing that the law and all that it calls make is longer than what came in: it says more and counts as full. Else prove '..UptoSaid'. A law counts once. -/
mutual
def uptoBulk {H : Type} : DataW H → Nat
  | .lit (.string bytes) => bytes.length + 1
  | .lit _ => 1
  | .nil => 1
  | .ptr d => uptoBulk d + 1
  | .slice elems spare => uptoBulkAll elems + uptoBulkAll spare + 1
  | .agg parts => uptoBulkAll parts + 1
  | .iface _ d => uptoBulk d + 1
  | .map entries => uptoBulkEntries entries + 1
  | .held _ => 1
def uptoBulkAll {H : Type} : List (DataW H) → Nat
  | [] => 0
  | d :: r => uptoBulk d + uptoBulkAll r
def uptoBulkEntries {H : Type} : List (Lit × DataW H) → Nat
  | [] => 0
  | x :: r => uptoBulkEntry x + uptoBulkEntries r
def uptoBulkEntry {H : Type} : Lit × DataW H → Nat
  | (.string bytes, d) => bytes.length + uptoBulk d + 1
  | (_, d) => uptoBulk d + 1
 end
def uptoSmall : (H : Type) → List (DataW H) → Bool := fun _ ds => decide (uptoBulkAll ds ≤ 1048576)
def OpenSpec.upto (s : _root_.Go.ChangeSpec) : _root_.Go.OpenSpec := { _root_.Go.OpenSpec.ofChange s with cond := some uptoSmall }

/-- 'scriptorlaw16.CodeMany', WHERE WHAT IT READS IS OF BULK AT MOST 1048576: true; the input reads as it did. -/
def codeManyUptoRow : OpenClaim := { program := "ytnhdefaagicejaadoor", sum := "ce0d11082bddb737891b3abf5a2f4a4a9b5a31dfbd2af7b2b5be399de998f3fd", func := "scriptor/scriptorlaw16.CodeMany", spec := "codeMany", inPlace := ["math.Float64frombits", "math.Float64bits"], unfollowed := true, recurses := true, named := ["scriptor/code.shapes"], apart := false, laid := [("scriptor/code.shapes", laid_scriptor_code_shapes)], narrowed := true }
def CodeManyUptoSaid : Prop := codeManyUptoRow.holds Tryd.pinned (OpenSpec.upto codeManySpec)

/-- 'scriptorlaw16.CodeDead', WHERE WHAT IT READS IS OF BULK AT MOST 1048576: true; the input reads as it did. -/
def codeDeadUptoRow : OpenClaim := { program := "ytnhdefaagicejaadoor", sum := "ce0d11082bddb737891b3abf5a2f4a4a9b5a31dfbd2af7b2b5be399de998f3fd", func := "scriptor/scriptorlaw16.CodeDead", spec := "codeDead", inPlace := ["math.Float64frombits", "math.Float64bits"], unfollowed := true, recurses := true, named := ["scriptor/code.shapes"], apart := false, laid := [("scriptor/code.shapes", laid_scriptor_code_shapes)], narrowed := true }
def CodeDeadUptoSaid : Prop := codeDeadUptoRow.holds Tryd.pinned (OpenSpec.upto codeDeadSpec)

/-- 'scriptorlaw16.CodeBack', WHERE WHAT IT READS IS OF BULK AT MOST 1048576: true; the input reads as it did. -/
def codeBackUptoRow : OpenClaim := { program := "ytnhdefaagicejaadoor", sum := "ce0d11082bddb737891b3abf5a2f4a4a9b5a31dfbd2af7b2b5be399de998f3fd", func := "scriptor/scriptorlaw16.CodeBack", spec := "codeBack", inPlace := ["math.Float64frombits", "math.Float64bits"], unfollowed := true, recurses := true, named := ["scriptor/code.shapes", "scriptor/crc.half"], apart := false, laid := [("scriptor/crc.half", laid_scriptor_crc_half), ("scriptor/code.shapes", laid_scriptor_code_shapes)], narrowed := true }
def CodeBackUptoSaid : Prop := codeBackUptoRow.holds Tryd.pinned (OpenSpec.upto codeBackSpec)

end Rows
end Go.Proofs.YtnhdefaagicejaaDoor
