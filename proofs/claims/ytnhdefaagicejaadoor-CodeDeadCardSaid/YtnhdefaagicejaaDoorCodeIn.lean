/- A law's input of code, opened. -/
import Derived.Test.YtnhdefaagicejaaDoorCodeM
import Derived.Test.YtnhdefaagicejaaDoorLaw
namespace Go.Proofs.YtnhdefaagicejaaDoor
set_option linter.unusedSimpArgs false
set_option linter.unusedVariables false
open Go.ChangeShapes Go.WideShapes Go.ChangeAt Go.RowKit

section
variable {H : Type} {enc : TypeId × Value → H}
theorem at_of_rows1 {w : World} {ao : Option Addr} {l : List Value} (h : RowsAt w ao 1 (l.map fun v => [v])) : At w ao l := by
  rcases h with h | ⟨b, o, rfl, hc⟩
  · exact .inl (by simpa using h)
  · refine .inr ⟨b, o, rfl, fun j v hj => ?_⟩
    have := hc j [v] (by rw [List.getElem?_map, hj]; rfl) 0 v rfl
    simpa using this
theorem rowsAt_lt {w : World} {b o k : Nat} {rows : List (List Value)} (h : RowsAt w (some ⟨b, o, none⟩) k rows) (hne : rows ≠ []) (hl : ∀ r ∈ rows, r.length = k) (hk : 0 < k) : b < w.heap.size := by
  rcases h with h | ⟨b', o', he, hc⟩
  · exact absurd h hne
  · cases he
    have h0 : 0 < rows.length := List.length_pos_iff.2 hne
    have hr := hl rows[0] (List.getElem_mem h0)
    exact World.block_lt_of_cell? (a := ⟨b, o + (0 * k + 0), none⟩) w (hc 0 rows[0] (List.getElem?_eq_getElem h0) 0 (rows[0][0]'(by omega)) (List.getElem?_eq_getElem _))
/-- Rows of steps. -/
theorem open_ins {w : World} {ti te : TypeId} {f0 f1 f2 : Field} {fuel : Nat} {cs : List Value} {x : DataW H × List MemPlace} (ht : Tryd.prog.underlying ti = some (.slice te)) (hs : Tryd.prog.underlying te = some (.struct #[f0, f1, f2])) (hf : (f0.type, f0.offset, f1.type, f1.offset, f2.type, f2.offset) = (3, 0, 3, 1, 3, 2)) (hc : Tryd.prog.cellsOf te = 3) (hci : Tryd.prog.cellsOf 3 = 1)
    (h : DataW.trod enc Tryd.prog w 0 (fun _ => true) true fuel ti cs = some x) :
    ∃ (ao : Option Addr) (cap : Nat) (l : List InsP), cs = [.slice ao l.length cap] ∧ l.length ≤ cap ∧ cap ≤ 9223372036854775807 ∧ RowsAt w ao 3 (l.map insRow) ∧ ∀ x ∈ l, R64i x.op ∧ R64i x.a ∧ R64i x.b := by
  obtain ⟨ao, cap, rows, rfl, h1, h2, h3, h4⟩ := open_rows0 ht hc (by decide) h
  simp only [Prod.mk.injEq] at hf
  obtain ⟨e1, e2, e3, e4, e5, e6⟩ := hf
  obtain ⟨l, rfl, hl⟩ := rows_map (f := insRow) (p := fun x => R64i x.op ∧ R64i x.a ∧ R64i x.b) (rows := rows) (by
    intro r hr
    obtain ⟨hrl, n, y, hy⟩ := h4 r hr
    match r, hrl with
    | [c0, c1, c2], _ =>
      obtain ⟨m0, y0, d0⟩ := row_field hs hy 0 f0 rfl
      obtain ⟨m1, y1, d1⟩ := row_field hs hy 1 f1 rfl
      obtain ⟨m2, y2, d2⟩ := row_field hs hy 2 f2 rfl
      rw [e1, e2, hci] at d0
      rw [e3, e4, hci] at d1
      rw [e5, e6, hci] at d2
      obtain ⟨z0, z0e, l0, u0⟩ := int_range Tryd.underlying3 d0
      obtain ⟨z1, z1e, l1, u1⟩ := int_range Tryd.underlying3 d1
      obtain ⟨z2, z2e, l2, u2⟩ := int_range Tryd.underlying3 d2
      simp at z0e z1e z2e
      exact ⟨⟨z0, z1, z2⟩, by rw [z0e, z1e, z2e]; rfl, ⟨l0, u0⟩, ⟨l1, u1⟩, ⟨l2, u2⟩⟩)
  rw [List.length_map] at *
  exact ⟨ao, cap, l, rfl, h1, h2, h3, hl⟩
theorem open_strs1 {w : World} {fuel : Nat} {cs : List Value} {x : DataW H × List MemPlace} (hc : Tryd.prog.cellsOf 9 = 1) (h : DataW.trod enc Tryd.prog w 0 (fun _ => true) true fuel 24 cs = some x) :
    ∃ (ao : Option Addr) (cap : Nat) (l : List (List UInt8)), cs = [.slice ao l.length cap] ∧ l.length ≤ cap ∧ cap ≤ 9223372036854775807 ∧ At w ao (strCells l) ∧ (∀ s ∈ l, s.length ≤ 9223372036854775807) ∧ RowsAt w ao 1 ((strCells l).map fun v => [v]) := by
  obtain ⟨ao, cap, rows, rfl, h1, h2, h3, h4⟩ := open_rows0 Tryd.underlying24 hc (by decide) h
  obtain ⟨l, rfl, hl⟩ := rows_map (f := fun s : List UInt8 => [Value.string ⟨s.toArray⟩]) (p := fun s => s.length ≤ 9223372036854775807) (rows := rows) (by
    intro r hr
    obtain ⟨hrl, n, y, hy⟩ := h4 r hr
    obtain ⟨s, e1, _, hs⟩ := DataW.trod_string Tryd.underlying9 hy
    exact ⟨s.data.toList, by rw [e1], by rw [Array.length_toList]; unfold maxLen at hs; exact Nat.le_trans hs (by decide)⟩)
  rw [List.length_map] at *
  have h5 : RowsAt w ao 1 ((strCells l).map fun v => [v]) := by simpa [strCells, Function.comp_def] using h3
  exact ⟨ao, cap, l, rfl, h1, h2, at_of_rows1 h5, hl, h5⟩
theorem open_ints1 {w : World} {fuel : Nat} {cs : List Value} {x : DataW H × List MemPlace} (hc : Tryd.prog.cellsOf 3 = 1) (h : DataW.trod enc Tryd.prog w 0 (fun _ => true) true fuel 22 cs = some x) :
    ∃ (ao : Option Addr) (cap : Nat) (l : List Int), cs = [.slice ao l.length cap] ∧ l.length ≤ cap ∧ cap ≤ 9223372036854775807 ∧ At w ao (intsV l) ∧ (∀ z ∈ l, R64i z) ∧ RowsAt w ao 1 ((intsV l).map fun v => [v]) := by
  obtain ⟨ao, cap, rows, rfl, h1, h2, h3, h4⟩ := open_rows0 Tryd.underlying22 hc (by decide) h
  obtain ⟨l, rfl, hl⟩ := rows_map (f := fun z : Int => [Value.int .i64 z]) (p := R64i) (rows := rows) (by
    intro r hr
    obtain ⟨hrl, n, y, hy⟩ := h4 r hr
    obtain ⟨z, e1, hz⟩ := int_range Tryd.underlying3 hy
    exact ⟨z, e1, hz⟩)
  rw [List.length_map] at *
  have h5 : RowsAt w ao 1 ((intsV l).map fun v => [v]) := by simpa [intsV, Function.comp_def] using h3
  exact ⟨ao, cap, l, rfl, h1, h2, at_of_rows1 h5, hl, h5⟩
set_option maxRecDepth 100000 in
/-- A struct of code, opened. -/
theorem open_code {w : World} {r : Reach} {b0 : Nat} {tc ti te : TypeId} {g0 g1 g2 g3 f0 f1 f2 : Field} {v : Value} {d : DataW H} {ps : List MemPlace} (htc : Tryd.prog.underlying tc = some (.struct #[g0, g1, g2, g3])) (hg : (g0.type, g0.offset, g1.type, g1.offset, g2.type, g2.offset, g3.type, g3.offset) = (ti, 0, 24, 1, 22, 2, 3, 3)) (hc4 : Tryd.prog.cellsOf tc = 4) (hk : Tryd.prog.cellsOf ti = 1 ∧ Tryd.prog.cellsOf 24 = 1 ∧ Tryd.prog.cellsOf 22 = 1 ∧ Tryd.prog.cellsOf 3 = 1 ∧ Tryd.prog.cellsOf 9 = 1)
    (ht : Tryd.prog.underlying ti = some (.slice te)) (hs : Tryd.prog.underlying te = some (.struct #[f0, f1, f2])) (hf : (f0.type, f0.offset, f1.type, f1.offset, f2.type, f2.offset) = (3, 0, 3, 1, 3, 2)) (hc : Tryd.prog.cellsOf te = 3)
    (hval : Value.okWide Tryd.prog w r b0 tc v) (h : DataW.Trod enc Tryd.prog w 0 (fun _ => true) true tc v d ps) :
    ∃ (c : CodeP) (io so fo : Option Addr) (icap scap fcap : Nat), v = .agg #[.slice io c.ins.length icap, .slice so c.strs.length scap, .slice fo c.funs.length fcap, .int .i64 c.glob] ∧ CodeMem w (fun b => b < w.heap.size) c io so fo ∧ c.ins.length ≤ icap ∧ icap ≤ 9223372036854775807 ∧ c.strs.length ≤ scap ∧ scap ≤ 9223372036854775807 ∧ c.funs.length ≤ fcap ∧ fcap ≤ 9223372036854775807 ∧ R64i c.glob := by
  obtain ⟨cs, rfl, hcs⟩ := okWide_struct htc hval
  rw [hc4] at hcs
  obtain ⟨fuel, hfu⟩ := h
  obtain ⟨l⟩ := cs
  simp only [List.size_toArray] at hcs
  simp only [Value.cells] at hfu
  simp only [Prod.mk.injEq] at hg
  obtain ⟨e1, e2, e3, e4, e5, e6, e7, e8⟩ := hg
  obtain ⟨k0, k1, k2, k3, k4⟩ := hk
  match l, hcs with
  | [c0, c1, c2, c3], _ =>
    obtain ⟨m0, y0, d0⟩ := row_field htc hfu 0 g0 rfl
    obtain ⟨m1, y1, d1⟩ := row_field htc hfu 1 g1 rfl
    obtain ⟨m2, y2, d2⟩ := row_field htc hfu 2 g2 rfl
    obtain ⟨m3, y3, d3⟩ := row_field htc hfu 3 g3 rfl
    rw [e1, e2, k0] at d0
    rw [e3, e4, k1] at d1
    rw [e5, e6, k2] at d2
    rw [e7, e8, k3] at d3
    obtain ⟨io, icap, li, i1, i2, i3, i4, i5⟩ := open_ins ht hs hf hc k3 d0
    obtain ⟨so, scap, ls, s1, s2, s3, s4, s5, s6⟩ := open_strs1 k4 d1
    obtain ⟨fo, fcap, lf, f1', f2', f3, f4, f5, f6⟩ := open_ints1 k3 d2
    obtain ⟨z, z1, z2⟩ := int_range Tryd.underlying3 d3
    simp at i1 s1 f1' z1
    refine ⟨⟨li, ls, lf, z⟩, io, so, fo, icap, scap, fcap, by rw [i1, s1, f1', z1], ⟨i4, s4, f4, fun b hb hne => ?_, fun b hb hne => ?_, fun b hb hne => ?_, i5, s5, f5⟩, i2, i3, s2, s3, f2', f3, z2⟩
    · rcases i4 with h | ⟨b', o', rfl, hc'⟩
      · exact absurd (by simpa using h) hne
      · cases hb
        exact rowsAt_lt (.inr ⟨_, _, rfl, hc'⟩) (by simpa using hne) (by intro r hr; obtain ⟨x, _, rfl⟩ := List.mem_map.1 hr; rfl) (by decide)
    · rcases s6 with h | ⟨b', o', rfl, hc'⟩
      · exact absurd (by simpa [strCells] using h) hne
      · cases hb
        exact rowsAt_lt (.inr ⟨_, _, rfl, hc'⟩) (by simpa [strCells] using hne) (by intro r hr; obtain ⟨x, _, rfl⟩ := List.mem_map.1 hr; rfl) (by decide)
    · rcases f6 with h | ⟨b', o', rfl, hc'⟩
      · exact absurd (by simpa [intsV] using h) hne
      · cases hb
        exact rowsAt_lt (.inr ⟨_, _, rfl, hc'⟩) (by simpa [intsV] using hne) (by intro r hr; obtain ⟨x, _, rfl⟩ := List.mem_map.1 hr; rfl) (by decide)
end
end Go.Proofs.YtnhdefaagicejaaDoor
