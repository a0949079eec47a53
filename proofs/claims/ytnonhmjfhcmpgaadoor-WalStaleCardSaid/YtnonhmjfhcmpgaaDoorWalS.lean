/- Rows of sectors that somebody wrote, as a law's input has them, opened. No program in sight. -/
import Derived.Test.YtnonhmjfhcmpgaaDoorWalN
namespace Go.Proofs.YtnonhmjfhcmpgaaDoor
open Go.ChangeShapes Go.WideShapes Go.ChangeAt Go.RowKit

/-- Sectors that somebody wrote: place, kind, age, number, bytes. -/
def SpotsAt (w : World) (ao : Option Addr) (es : List (Int × Int × Int × Int × List UInt8)) : Prop := ∀ i, (hi : i < es.length) → ∃ b o bo cap, ao = some ⟨b, o, none⟩ ∧ w.cell? ⟨b, o + i * 5, none⟩ = some (.int .i64 es[i].1) ∧ w.cell? ⟨b, o + i * 5 + 1, none⟩ = some (.int .i64 es[i].2.1) ∧
  w.cell? ⟨b, o + i * 5 + 2, none⟩ = some (.int .i64 es[i].2.2.1) ∧ w.cell? ⟨b, o + i * 5 + 3, none⟩ = some (.int .i64 es[i].2.2.2.1) ∧ w.cell? ⟨b, o + i * 5 + 4, none⟩ = some (.slice bo es[i].2.2.2.2.length cap) ∧ es[i].2.2.2.2.length ≤ cap ∧ cap ≤ 9223372036854775807 ∧ At w bo (bytesV es[i].2.2.2.2)
section
variable {H : Type} {enc : TypeId × Value → H} {P : Program}
theorem open_spots {w : World} {r : Reach} {b0 : Nat} {v : Value} {d : DataW H} {ps : List MemPlace} {te t8 t9 ti t3 : TypeId} {f0 f1 f2 f3 f4 : Field} (hts : P.underlying ti = some (.slice te)) (hc3 : P.cellsOf te = 5)
    (hs : P.underlying te = some (.struct #[f0, f1, f2, f3, f4])) (hf : (f0.type, f0.offset, f1.type, f1.offset, f2.type, f2.offset, f3.type, f3.offset, f4.type, f4.offset) = (t3, 0, t3, 1, t3, 2, t3, 3, t8, 4)) (hi : P.underlying t3 = some (.int .i64)) (hb : P.underlying t8 = some (.slice t9)) (hu : P.underlying t9 = some (.int .u8)) (hc1 : P.cellsOf t9 = 1) (hci : P.cellsOf t3 = 1) (hcb : P.cellsOf t8 = 1)
    (hval : Value.okWide P w r b0 ti v) (h : DataW.Trod enc P w 0 (fun _ => true) true ti v d ps) : ∃ (ao : Option Addr) (cap : Nat) (es : List (Int × Int × Int × Int × List UInt8)), v = .slice ao es.length cap ∧ es.length ≤ cap ∧ cap ≤ 9223372036854775807 ∧ SpotsAt w ao es := by
  obtain ⟨ao0, len, cap0, rfl⟩ := okWide_slice hts hval
  obtain ⟨fuel, hd0⟩ := h
  obtain ⟨ao, cap, rows, hcs, h1, h2, h3, h4⟩ := open_rows0 hts hc3 (by decide) hd0
  simp only [Prod.mk.injEq] at hf
  obtain ⟨e1, e2, e3, e4, e5, e6, e7, e8, e9, e10⟩ := hf
  have hr : ∀ r ∈ rows, ∃ a : Int × Int × Int × Int × (Option Addr × Nat × List UInt8), r = [.int .i64 a.1, .int .i64 a.2.1, .int .i64 a.2.2.1, .int .i64 a.2.2.2.1, .slice a.2.2.2.2.1 a.2.2.2.2.2.2.length a.2.2.2.2.2.1] ∧ (a.2.2.2.2.2.2.length ≤ a.2.2.2.2.2.1 ∧ a.2.2.2.2.2.1 ≤ 9223372036854775807 ∧ At w a.2.2.2.2.1 (bytesV a.2.2.2.2.2.2)) := by
    intro r hr
    obtain ⟨hl, n, y, hd⟩ := h4 r hr
    match r, hl with
    | [r0, r1, r2, r3, r4], _ =>
      obtain ⟨m0, y0, d0⟩ := row_field hs hd 0 f0 rfl
      obtain ⟨m1, y1, d1⟩ := row_field hs hd 1 f1 rfl
      obtain ⟨m2, y2, d2⟩ := row_field hs hd 2 f2 rfl
      obtain ⟨m3, y3, d3⟩ := row_field hs hd 3 f3 rfl
      obtain ⟨m4, y4, d4⟩ := row_field hs hd 4 f4 rfl
      rw [e1, e2, hci] at d0
      rw [e3, e4, hci] at d1
      rw [e5, e6, hci] at d2
      rw [e7, e8, hci] at d3
      rw [e9, e10, hcb] at d4
      obtain ⟨z0, z0e, _, _⟩ := int_range hi d0
      obtain ⟨z1, z1e, _, _⟩ := int_range hi d1
      obtain ⟨z2, z2e, _, _⟩ := int_range hi d2
      obtain ⟨z3, z3e, _, _⟩ := int_range hi d3
      obtain ⟨bo, bc, l, be, b1, b2, b3⟩ := open_bytes0 hb hu hc1 d4
      refine ⟨(z0, z1, z2, z3, (bo, bc, l)), ?_, b1, b2, b3⟩
      simp at z0e z1e z2e z3e be
      rw [z0e, z1e, z2e, z3e, be]
  obtain ⟨as, hrows, has⟩ := rows_map hr
  subst hrows
  refine ⟨ao, cap, as.map fun a => (a.1, a.2.1, a.2.2.1, a.2.2.2.1, a.2.2.2.2.2.2), by simpa [Value.cells] using hcs, by simpa using h1, h2, fun i hi => ?_⟩
  have hi' : i < as.length := by simpa using hi
  obtain ⟨b, o, rfl, hcell⟩ := h3.cell i (by simpa using hi')
  obtain ⟨p1, p2, p3⟩ := has as[i] (List.getElem_mem hi')
  simp only [List.getElem_map] at hcell ⊢
  refine ⟨b, o, as[i].2.2.2.2.1, as[i].2.2.2.2.2.1, rfl, ?_, ?_, ?_, ?_, ?_, p1, p2, p3⟩
  · simpa using hcell 0 _ rfl
  · simpa [Nat.add_assoc] using hcell 1 _ rfl
  · simpa [Nat.add_assoc] using hcell 2 _ rfl
  · simpa [Nat.add_assoc] using hcell 3 _ rfl
  · simpa [Nat.add_assoc] using hcell 4 _ rfl
end
end Go.Proofs.YtnonhmjfhcmpgaaDoor
