/- What the rows' list gives: the table of steps; and a world that holds it. -/
import Derived.Test.YtnhdefaagicejaaDoorCards
import Derived.Test.YtnhdefaagicejaaDoorTie
import Derived.Test.YtnhdefaagicejaaDoorCodeT
import Derived.Test.YtnhdefaagicejaaDoorLaw
import Derived.Deep.DeepHandedRow
import Derived.Lib.LaidTab
namespace Go.Proofs.YtnhdefaagicejaaDoor
set_option linter.unusedSimpArgs false
set_option linter.unusedVariables false
open Go.RowKit
theorem gShapes : Tryd.prog.globalNamed "scriptor/code.shapes" = some 0 := by kernel_rfl
theorem gShapesType : (Tryd.prog.globals[0]?).map (·.type) = some 84 := by kernel_rfl
theorem cellsShapes : Tryd.prog.cellsOf 84 = 58 := by kernel_rfl
theorem cellsShape : Tryd.prog.cellsOf 83 = 2 := by kernel_rfl
theorem cellsInt1 : Tryd.prog.cellsOf 3 = 1 := by kernel_rfl
/-- The numbers in the table's data. -/
def shapeUses {H : Type} : List (DataW H) → List (DataW H)
  | [] => []
  | .agg [_, u] :: r => u :: shapeUses r
  | _ :: r => shapeUses r
theorem shape_data {H : Type} (l : List (DataW H)) (h : (Rows.laid_scriptor_code_shapes : DataW H) = .agg l) (i : Nat) (hi : i < 29) : ∃ s : DataW H, l[i]? = some (.agg [s, .lit (.int .i64 (usesP (i : Int) : Nat))]) := by
  unfold Rows.laid_scriptor_code_shapes at h
  have hl := DataW.agg.inj h
  rw [← hl]
  have hc : i = 0 ∨ i = 1 ∨ i = 2 ∨ i = 3 ∨ i = 4 ∨ i = 5 ∨ i = 6 ∨ i = 7 ∨ i = 8 ∨ i = 9 ∨ i = 10 ∨ i = 11 ∨ i = 12 ∨ i = 13 ∨ i = 14 ∨ i = 15 ∨ i = 16 ∨ i = 17 ∨ i = 18 ∨ i = 19 ∨ i = 20 ∨ i = 21 ∨ i = 22 ∨ i = 23 ∨ i = 24 ∨ i = 25 ∨ i = 26 ∨ i = 27 ∨ i = 28 := by omega
  rcases hc with rfl | rfl | rfl | rfl | rfl | rfl | rfl | rfl | rfl | rfl | rfl | rfl | rfl | rfl | rfl | rfl | rfl | rfl | rfl | rfl | rfl | rfl | rfl | rfl | rfl | rfl | rfl | rfl | rfl <;> exact ⟨_, rfl⟩
theorem cells_of_shapes {H : Type} {enc : TypeId × Value → H} {w : World} {base : Nat} {sp : Nat → Bool} {held : Bool} {fuel : Nat} {cs : List Value} {p : List MemPlace}
    (h : DataW.trod enc Tryd.prog w base sp held fuel 84 cs = some (Rows.laid_scriptor_code_shapes, p)) : ∀ i, i < 29 → cs[i * 2 + 1]? = some (.int .i64 (usesP (i : Int) : Nat)) := by
  intro i hi
  cases fuel with
  | zero => simp [DataW.trod] at h
  | succ fuel =>
    simp only [DataW.trod, Tryd.underlying84, cellsShape, cellsShapes] at h
    split at h
    · rename_i hl
      obtain ⟨xs, hm, hx⟩ := Option.map_eq_some_iff.1 h
      have hxs : (.agg (xs.map (·.1)) : DataW H) = Rows.laid_scriptor_code_shapes := congrArg Prod.fst hx
      obtain ⟨b, hb, hf⟩ := Lib.mapM_at hm i i (by simp [hi])
      obtain ⟨s, hs⟩ := shape_data _ hxs.symm i hi
      rw [List.getElem?_map, hb] at hs
      simp only [Option.map_some, Option.some.injEq] at hs
      obtain ⟨ys, n, rfl, hbe, _, hyl, hg⟩ := DataW.trod_struct Tryd.underlying83 hf
      have h1 := hg 1 _ rfl
      have hys : ys.map (·.1) = [s, .lit (.int .i64 (usesP (i : Int) : Nat))] := by
        rw [hbe] at hs
        exact DataW.agg.inj hs
      have hy1 : (ys[1]?).map (·.1) = some (.lit (.int .i64 (usesP (i : Int) : Nat)) : DataW H) := by
        rw [← List.getElem?_map, hys]
        rfl
      rw [← h1] at hy1
      obtain ⟨y, hy, hye⟩ := Option.map_eq_some_iff.1 hy1
      obtain ⟨z, hc, rfl, _⟩ := DataW.trod_int Tryd.underlying3 hy
      simp only [DataW.lit.injEq, Lit.int.injEq, true_and] at hye
      subst hye
      have hc' : List.take (Tryd.prog.cellsOf 3) (List.drop 1 (List.take 2 (List.drop (i * 2) cs))) = [Value.int .i64 (usesP (i : Int) : Nat)] := hc
      rw [cellsInt1] at hc'
      have h2 := congrArg (·[0]?) hc'
      simp only [List.getElem?_take, List.getElem?_drop, List.getElem?_cons_zero] at h2
      simpa using h2
    · cases h
theorem shtab_of_head {rest : List (String × DataW Unit)} {W : World} (h : laidMet Tryd.prog (("scriptor/code.shapes", Rows.laid_scriptor_code_shapes) :: rest) W) : ShTab W := by
  obtain ⟨ps, ⟨g', t', cs, fuel, p, q, hg', ht', hvar, hd, _, _⟩, _⟩ := h
  obtain rfl := Option.some.inj (gShapes.symm.trans hg')
  obtain rfl := Option.some.inj (gShapesType.symm.trans ht')
  intro k hk
  have := World.var?_cell gShapes hvar (k * 2 + 1)
  rw [this]
  simpa using cells_of_shapes hd k hk
/-- The cells of the table. -/
def shapeCells : List Value := [.string ⟨#[73, 110, 116]⟩, .int .i64 1, .string ⟨#[83, 116, 114]⟩, .int .i64 1, .string ⟨#[70, 108, 111, 97, 116]⟩, .int .i64 1, .string ⟨#[85, 110, 105, 116]⟩, .int .i64 0, .string ⟨#[76, 111, 99, 97, 108]⟩, .int .i64 1, .string ⟨#[70, 114, 101, 101]⟩, .int .i64 1, .string ⟨#[83, 101, 108, 102]⟩, .int .i64 0, .string ⟨#[71, 108, 111, 98, 97, 108]⟩, .int .i64 1, .string ⟨#[83, 101, 116]⟩, .int .i64 1, .string ⟨#[80, 114, 105, 109]⟩, .int .i64 1, .string ⟨#[67, 111, 110]⟩, .int .i64 2, .string ⟨#[84, 117, 112]⟩, .int .i64 1, .string ⟨#[67, 108, 111, 115, 101]⟩, .int .i64 2, .string ⟨#[65, 112, 112, 108, 121]⟩, .int .i64 0, .string ⟨#[82, 101, 116]⟩, .int .i64 0, .string ⟨#[74, 117, 109, 112]⟩, .int .i64 1, .string ⟨#[85, 110, 108, 101, 115, 115]⟩, .int .i64 1, .string ⟨#[80, 111, 112]⟩, .int .i64 0, .string ⟨#[83, 108, 105, 100, 101]⟩, .int .i64 1, .string ⟨#[70, 105, 101, 108, 100]⟩, .int .i64 1, .string ⟨#[73, 115, 73, 110, 116]⟩, .int .i64 2, .string ⟨#[73, 115, 83, 116, 114]⟩, .int .i64 2, .string ⟨#[73, 115, 67, 111, 110]⟩, .int .i64 2, .string ⟨#[82, 97, 105, 115, 101]⟩, .int .i64 0, .string ⟨#[84, 114, 121]⟩, .int .i64 1, .string ⟨#[69, 110, 100, 84, 114, 121]⟩, .int .i64 0, .string ⟨#[66, 101, 103, 105, 110]⟩, .int .i64 0, .string ⟨#[67, 111, 109, 109, 105, 116]⟩, .int .i64 0, .string ⟨#[72, 97, 108, 116]⟩, .int .i64 0]
noncomputable def laidWorldS (os : Os) : World :=
  { World.holding Tryd.prog os ⟨#[], #[], []⟩ with heap := (World.holding Tryd.prog os ⟨#[], #[], []⟩).heap.modify 0 fun
      | .cells _ t frozen => .cells shapeCells.toArray t frozen
      | o => o }
end Go.Proofs.YtnhdefaagicejaaDoor
