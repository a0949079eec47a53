/- What the list of ScriptorNumbers' row gives: the tables that are read; and a world that holds all that is listed. -/
import Derived.Test.YtkgdcbpiicckkaaGreatDoorCards
import Derived.Test.YtkgdcbpiicckkaaGreatDoorTie
import Derived.Test.YtkgdcbpiicckkaaGreatDoorNumX
import Derived.Test.YtkgdcbpiicckkaaGreatDoorCrc
import Derived.Test.YtkgdcbpiicckkaaGreatDoorLaw
import Derived.Deep.DeepHandedRow
import Derived.Deep.DeepLaidRun
import Derived.Lib.LaidTab
namespace Go.Proofs.YtkgdcbpiicckkaaGreatDoor
set_option linter.unusedSimpArgs false
set_option linter.unusedVariables false
open Go.RowKit
theorem gTab : Tryz.prog.globalNamed "scriptor/crc.half" = some 1 := by kernel_rfl
theorem gTabType : (Tryz.prog.globals[1]?).map (·.type) = some 94 := by kernel_rfl
theorem cellsTab : Tryz.prog.cellsOf 94 = 16 := by kernel_rfl
theorem cellsU32 : Tryz.prog.cellsOf 53 = 1 := by kernel_rfl
theorem gPow : Tryz.prog.globalNamed "internal/strconv.uint64pow10" = some 2 := by kernel_rfl
theorem gPowType : (Tryz.prog.globals[2]?).map (·.type) = some 109 := by kernel_rfl
theorem cellsPow : Tryz.prog.cellsOf 109 = 20 := by kernel_rfl
theorem cellsU64 : Tryz.prog.cellsOf 27 = 1 := by kernel_rfl
theorem gBru : Tryz.prog.globalNamed "math/bits.deBruijn64tab" = some 7 := by kernel_rfl
theorem gBruType : (Tryz.prog.globals[7]?).map (·.type) = some 130 := by kernel_rfl
theorem cellsBru : Tryz.prog.cellsOf 130 = 64 := by kernel_rfl
theorem cellsB1 : Tryz.prog.cellsOf 5 = 1 := by kernel_rfl
def halfZ : List Int := [0, 274646895, 549293790, 820201905, 1098587580, 1361435347, 1640403810, 1905808397, 2197175160, 2460548119, 2722870694, 2987750089, 3280807620, 3553878443, 3811616794, 4084100981]
theorem halfZ_eq : ∀ i, i < 16 → halfZ.getD i 0 = (halfN i : Nat) := by decide
def bru64Z : List Int := [0, 1, 56, 2, 57, 49, 28, 3, 61, 58, 42, 50, 38, 29, 17, 4, 62, 47, 59, 36, 45, 43, 51, 22, 53, 39, 33, 30, 24, 18, 12, 5, 63, 55, 48, 27, 60, 41, 37, 16, 46, 35, 44, 21, 52, 32, 23, 11, 54, 26, 40, 15, 34, 20, 31, 10, 25, 14, 19, 9, 13, 8, 7, 6]
def bru32Z : List Int := [0, 1, 28, 2, 29, 14, 24, 3, 30, 22, 20, 15, 25, 17, 4, 8, 31, 27, 13, 23, 21, 19, 16, 7, 26, 12, 18, 6, 11, 5, 10, 9]
def acceptZ : List Int := [128, 191, 160, 191, 128, 159, 144, 191, 128, 143, 0, 0, 0, 0, 0, 0, 0, 0, 0, 0, 0, 0, 0, 0, 0, 0, 0, 0, 0, 0, 0, 0]
/-- A table that stands anywhere on the list. -/
theorem tabIs_mem {P : Program} {W : World} {name : String} {k : IntKind} {zs : List Int} {g : Nat} {t e : TypeId} {n : Nat}
    (hg : P.globalNamed name = some g) (hty : (P.globals[g]?).map (·.type) = some t) (ht : P.underlying t = some (.array n e)) (he : P.underlying e = some (.int k)) (hce : P.cellsOf e = 1) (hct : P.cellsOf t = n) :
    ∀ {l : List (String × DataW Unit)} {ps : List MemPlace}, DataW.LaidVars P W l ps → (name, Lib.tabData k zs) ∈ l → Lib.TabIs P W name k zs
  | [], _, _, h => by cases h
  | (n', d') :: r, ps, ⟨g', t', cs, fuel, p, q, hg', ht', hvar, hd, hr, _⟩, hm => by
    rcases List.mem_cons.1 hm with h0 | hm
    · have h1 : name = n' := congrArg Prod.fst h0
      have h2 : (Lib.tabData k zs : DataW Unit) = d' := congrArg Prod.snd h0
      subst h1
      subst h2
      obtain rfl := Option.some.inj (hg.symm.trans hg')
      obtain rfl := Option.some.inj (hty.symm.trans ht')
      unfold Lib.TabIs
      rw [hvar, ← Lib.cells_of_tab ht he hce hct hd]
    · exact tabIs_mem hg hty ht he hce hct hr hm
theorem tabs_of {W : World} (h : laidMet Tryz.prog Rows.scriptorNumbersRow.laid W) : Tab W ∧ PTab W ∧ DTab W := by
  obtain ⟨ps, h, _⟩ := h
  refine ⟨fun i hi => ?_, ?_, ?_⟩
  · have ht : Lib.TabIs Tryz.prog W "scriptor/crc.half" .u32 halfZ := tabIs_mem gTab gTabType Tryz.underlying94 Tryz.underlying53 cellsU32 cellsTab h (List.mem_of_getElem? (i := 4) rfl)
    rw [← halfZ_eq i hi]
    exact ht.cell gTab i hi
  · exact tabIs_mem gPow gPowType Tryz.underlying109 Tryz.underlying27 cellsU64 cellsPow h (List.mem_of_getElem? (i := 2) rfl)
  · have ht : Lib.TabIs Tryz.prog W "math/bits.deBruijn64tab" .u8 bru64Z := tabIs_mem gBru gBruType Tryz.underlying130 Tryz.underlying5 cellsB1 cellsBru h (List.mem_of_getElem? (i := 1) rfl)
    exact ht.cell gBru 15 (by decide)
def putCells (cs : List Value) : Obj → Obj
  | .cells _ t frozen => .cells cs.toArray t frozen
  | o => o
abbrev rangeS : ByteArray := { data := #[118, 97, 108, 117, 101, 32, 111, 117, 116, 32, 111, 102, 32, 114, 97, 110, 103, 101] }
abbrev syntaxS : ByteArray := { data := #[105, 110, 118, 97, 108, 105, 100, 32, 115, 121, 110, 116, 97, 120] }
/-- Where the witness' own objects begin. -/
noncomputable def low : Nat := (World.holding Tryz.prog default ⟨#[], #[], []⟩).heap.size
noncomputable def laidWorld (os : Os) : World :=
  let w0 := World.holding Tryz.prog os ⟨#[.cells #[.string rangeS] 128, .cells #[.string syntaxS] 128], #[], []⟩
  { w0 with heap := (((((((w0.heap.modify 6 (putCells (bru32Z.map (Value.int .u8)))).modify 7 (putCells (bru64Z.map (Value.int .u8)))).modify 2 (putCells (Lib.pow10Tab.map (Value.int .u64)))).modify 9 (putCells (acceptZ.map (Value.int .u8)))).modify 1 (putCells (halfZ.map (Value.int .u32)))).modify 4 (putCells [.iface 126 (.pointer (some ⟨low, 0, none⟩))])).modify 3 (putCells [.iface 126 (.pointer (some ⟨low + 1, 0, none⟩))])).modify 8 (putCells (Go.Pinned.utf8FirstZ.map fun (n : Nat) => Value.int .u8 (n : Int))) }
theorem laid_met0 (os : Os) (args : Array Value) : laidMet Tryz.prog Rows.scriptorNumbersRow.laid ((laidWorld os).forCall (fun _ _ => 0) ⟨#[], args, []⟩).memory :=
  laidMet_of_run3 8 (by kernel_rfl) (by kernel_rfl) (by kernel_rfl)
end Go.Proofs.YtkgdcbpiicckkaaGreatDoor
