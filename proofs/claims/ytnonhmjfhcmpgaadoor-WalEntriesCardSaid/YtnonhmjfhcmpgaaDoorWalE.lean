/- Rows of a law's input that hold slices of bytes, opened. No program in sight. -/
import Derived.Test.YtnonhmjfhcmpgaaDoorLaw
namespace Go.Proofs.YtnonhmjfhcmpgaaDoor
open Go.ChangeShapes Go.WideShapes Go.ChangeAt Go.RowKit

section
variable {H : Type} {enc : TypeId × Value → H} {P : Program}

/-- A slice of bytes in a field, opened. -/
theorem open_bytes0 {w : World} {t e : TypeId} {fuel : Nat} {cs : List Value} {x : DataW H × List MemPlace} (ht : P.underlying t = some (.slice e)) (he : P.underlying e = some (.int .u8)) (hc : P.cellsOf e = 1) (h : DataW.trod enc P w 0 (fun _ => true) true fuel t cs = some x) :
    ∃ (ao : Option Addr) (cap : Nat) (l : List UInt8), cs = [.slice ao l.length cap] ∧ l.length ≤ cap ∧ cap ≤ 9223372036854775807 ∧ At w ao (bytesV l) := by
  obtain ⟨ao, cap, rows, hcs, h1, h2, h3, h4⟩ := open_rows0 ht hc (by decide) h
  have hr : ∀ r ∈ rows, ∃ c : UInt8, r = [u8v c] ∧ True := by
    intro r hr
    obtain ⟨_, n, ⟨d', p'⟩, hd⟩ := h4 r hr
    obtain ⟨z, e1, _, hw⟩ := DataW.trod_int he hd
    have hz : 0 ≤ z ∧ z ≤ 255 := by simpa [Lit.wf, IntKind.min, IntKind.max, IntKind.signed, IntKind.bits] using hw
    refine ⟨UInt8.ofNat z.toNat, ?_, trivial⟩
    rw [e1]
    simp only [u8v, UInt8.toNat_ofNat']
    congr 2
    omega
  obtain ⟨l, rfl, _⟩ := rows_map hr
  refine ⟨ao, cap, l, by simpa using hcs, by simpa using h1, h2, ?_⟩
  rcases h3 with h | ⟨b, o, rfl, hcell⟩
  · have : l = [] := by simpa using h
    subst this
    exact .inl rfl
  · refine .inr ⟨b, o, rfl, fun j v hj => ?_⟩
    have hjl : j < l.length := by
      rcases Nat.lt_or_ge j l.length with h | h
      · exact h
      · rw [List.getElem?_eq_none (by simpa using h)] at hj; cases hj
    have := hcell j [u8v l[j]] (by simp [hjl]) 0 (u8v l[j]) rfl
    rw [bytesV_get l j hjl] at hj
    cases hj
    simpa using this

/-- Calls on a log, as a law's input has them. -/
def EntsAt (w : World) (ao : Option Addr) (es : List (Int × List UInt8 × Int)) : Prop := ∀ i, (hi : i < es.length) → ∃ b o bo cap, ao = some ⟨b, o, none⟩ ∧ w.cell? ⟨b, o + i * 3, none⟩ = some (.int .i64 es[i].1) ∧ w.cell? ⟨b, o + i * 3 + 1, none⟩ = some (.slice bo es[i].2.1.length cap) ∧
  w.cell? ⟨b, o + i * 3 + 2, none⟩ = some (.int .i64 es[i].2.2) ∧ es[i].2.1.length ≤ cap ∧ cap ≤ 9223372036854775807 ∧ At w bo (bytesV es[i].2.1) ∧ -9223372036854775808 ≤ es[i].1 ∧ es[i].1 ≤ 9223372036854775807 ∧ -9223372036854775808 ≤ es[i].2.2 ∧ es[i].2.2 ≤ 9223372036854775807
theorem EntsAt.below {w w' : World} {ao : Option Addr} {es : List (Int × List UInt8 × Int)} (h : EntsAt w ao es) (hb : Below w.heap.size w w') : EntsAt w' ao es := by
  intro i hi
  obtain ⟨b, o, bo, cap, h1, h2, h3, h4, h5, h6, h7, h8⟩ := h i hi
  have hlt := World.block_lt_of_cell? (a := ⟨b, o + i * 3, none⟩) w h2
  exact ⟨b, o, bo, cap, h1, (World.cell?_of_block (hb.block b hlt)).trans h2, (World.cell?_of_block (hb.block b hlt)).trans h3, (World.cell?_of_block (hb.block b hlt)).trans h4, h5, h6, h7.below hb, h8⟩
theorem open_ents0 {w : World} {te t8 t9 ti t3 : TypeId} {f0 f1 f2 : Field} {fuel : Nat} {cs : List Value} {x : DataW H × List MemPlace} (hts : P.underlying ti = some (.slice te)) (hc3 : P.cellsOf te = 3)
    (hs : P.underlying te = some (.struct #[f0, f1, f2])) (hf : (f0.type, f0.offset, f1.type, f1.offset, f2.type, f2.offset) = (t3, 0, t8, 1, t3, 2)) (hi : P.underlying t3 = some (.int .i64)) (hb : P.underlying t8 = some (.slice t9)) (hu : P.underlying t9 = some (.int .u8)) (hc1 : P.cellsOf t9 = 1) (hci : P.cellsOf t3 = 1) (hcb : P.cellsOf t8 = 1)
    (h : DataW.trod enc P w 0 (fun _ => true) true fuel ti cs = some x) : ∃ (ao : Option Addr) (cap : Nat) (es : List (Int × List UInt8 × Int)), cs = [.slice ao es.length cap] ∧ es.length ≤ cap ∧ cap ≤ 9223372036854775807 ∧ EntsAt w ao es := by
  obtain ⟨ao, cap, rows, hcs, h1, h2, h3, h4⟩ := open_rows0 hts hc3 (by decide) h
  simp only [Prod.mk.injEq] at hf
  obtain ⟨e1, e2, e3, e4, e5, e6⟩ := hf
  have hr : ∀ r ∈ rows, ∃ a : Int × (Option Addr × Nat × List UInt8) × Int, r = [.int .i64 a.1, .slice a.2.1.1 a.2.1.2.2.length a.2.1.2.1, .int .i64 a.2.2] ∧ (a.2.1.2.2.length ≤ a.2.1.2.1 ∧ a.2.1.2.1 ≤ 9223372036854775807 ∧ At w a.2.1.1 (bytesV a.2.1.2.2) ∧ -9223372036854775808 ≤ a.1 ∧ a.1 ≤ 9223372036854775807 ∧ -9223372036854775808 ≤ a.2.2 ∧ a.2.2 ≤ 9223372036854775807) := by
    intro r hr
    obtain ⟨hl, n, y, hd⟩ := h4 r hr
    match r, hl with
    | [r0, r1, r2], _ =>
      obtain ⟨m0, y0, d0⟩ := row_field hs hd 0 f0 rfl
      obtain ⟨m1, y1, d1⟩ := row_field hs hd 1 f1 rfl
      obtain ⟨m2, y2, d2⟩ := row_field hs hd 2 f2 rfl
      rw [e1, e2, hci] at d0
      rw [e3, e4, hcb] at d1
      rw [e5, e6, hci] at d2
      obtain ⟨z0, z0e, z0a, z0b⟩ := int_range hi d0
      obtain ⟨z2, z2e, z2a, z2b⟩ := int_range hi d2
      obtain ⟨bo, bc, l, be, b1, b2, b3⟩ := open_bytes0 hb hu hc1 d1
      refine ⟨(z0, (bo, bc, l), z2), ?_, b1, b2, b3, z0a, z0b, z2a, z2b⟩
      simp at z0e z2e be
      rw [z0e, z2e, be]
  obtain ⟨as, hrows, has⟩ := rows_map hr
  subst hrows
  refine ⟨ao, cap, as.map fun a => (a.1, a.2.1.2.2, a.2.2), by simpa using hcs, by simpa using h1, h2, fun i hi => ?_⟩
  have hi' : i < as.length := by simpa using hi
  obtain ⟨b, o, rfl, hcell⟩ := h3.cell i (by simpa using hi')
  obtain ⟨p1, p2, p3, p4, p5, p6, p7⟩ := has as[i] (List.getElem_mem hi')
  simp only [List.getElem_map] at hcell ⊢
  refine ⟨b, o, as[i].2.1.1, as[i].2.1.2.1, rfl, ?_, ?_, ?_, p1, p2, p3, p4, p5, p6, p7⟩
  · simpa using hcell 0 _ rfl
  · simpa [Nat.add_assoc] using hcell 1 _ rfl
  · simpa [Nat.add_assoc] using hcell 2 _ rfl
theorem open_ents {w : World} {r : Reach} {b0 : Nat} {v : Value} {d : DataW H} {ps : List MemPlace} {te t8 t9 ti t3 : TypeId} {f0 f1 f2 : Field} (hts : P.underlying ti = some (.slice te)) (hc3 : P.cellsOf te = 3)
    (hs : P.underlying te = some (.struct #[f0, f1, f2])) (hf : (f0.type, f0.offset, f1.type, f1.offset, f2.type, f2.offset) = (t3, 0, t8, 1, t3, 2)) (hi : P.underlying t3 = some (.int .i64)) (hb : P.underlying t8 = some (.slice t9)) (hu : P.underlying t9 = some (.int .u8)) (hc1 : P.cellsOf t9 = 1) (hci : P.cellsOf t3 = 1) (hcb : P.cellsOf t8 = 1)
    (hval : Value.okWide P w r b0 ti v) (h : DataW.Trod enc P w 0 (fun _ => true) true ti v d ps) : ∃ (ao : Option Addr) (cap : Nat) (es : List (Int × List UInt8 × Int)), v = .slice ao es.length cap ∧ es.length ≤ cap ∧ cap ≤ 9223372036854775807 ∧ EntsAt w ao es := by
  obtain ⟨ao, len, cap, rfl⟩ := okWide_slice hts hval
  obtain ⟨fuel, hd⟩ := h
  obtain ⟨ao', cap', es, hv, h1, h2, h3⟩ := open_ents0 hts hc3 hs hf hi hb hu hc1 hci hcb hd
  simp [Value.cells] at hv
  obtain ⟨rfl, rfl, rfl⟩ := hv
  exact ⟨ao, cap, es, rfl, h1, h2, h3⟩
end
end Go.Proofs.YtnonhmjfhcmpgaaDoor
