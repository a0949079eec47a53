/- A night's row of a law's input, opened. No program in sight. -/
import Derived.Test.YtnonhmjfhcmpgaaDoorWalE
namespace Go.Proofs.YtnonhmjfhcmpgaaDoor
open Go.ChangeShapes Go.WideShapes Go.ChangeAt Go.RowKit

section
variable {H : Type} {enc : TypeId × Value → H} {P : Program}

/-- A slice of ints in a field, opened. -/
theorem open_ints0 {w : World} {t e : TypeId} {fuel : Nat} {cs : List Value} {x : DataW H × List MemPlace} (ht : P.underlying t = some (.slice e)) (he : P.underlying e = some (.int .i64)) (hc : P.cellsOf e = 1) (h : DataW.trod enc P w 0 (fun _ => true) true fuel t cs = some x) :
    ∃ (ao : Option Addr) (cap : Nat) (l : List Int), cs = [.slice ao l.length cap] ∧ l.length ≤ cap ∧ cap ≤ 9223372036854775807 ∧ At w ao (l.map (Value.int .i64)) := by
  obtain ⟨ao, cap, rows, hcs, h1, h2, h3, h4⟩ := open_rows0 ht hc (by decide) h
  have hr : ∀ r ∈ rows, ∃ c : Int, r = [.int .i64 c] ∧ True := by
    intro r hr
    obtain ⟨_, n, ⟨d', p'⟩, hd⟩ := h4 r hr
    obtain ⟨z, e1, _, hw⟩ := DataW.trod_int he hd
    exact ⟨z, e1, trivial⟩
  obtain ⟨l, rfl, _⟩ := rows_map hr
  refine ⟨ao, cap, l, by simpa using hcs, by simpa using h1, h2, ?_⟩
  rcases h3 with h | ⟨b, o, rfl, hcell⟩
  · have : l = [] := by simpa using h
    subst this
    exact .inl rfl
  · refine .inr ⟨b, o, rfl, fun j v hj => ?_⟩
    have hjl : j < l.length := by
      rcases Nat.lt_or_ge j l.length with h | h
      · exact h
      · rw [List.getElem?_eq_none (by simpa using h)] at hj; cases hj
    have := hcell j [.int .i64 l[j]] (by simp [hjl]) 0 (.int .i64 l[j]) rfl
    rw [List.getElem?_map, List.getElem?_eq_getElem hjl] at hj
    cases hj
    simpa using this

theorem open_night {w : World} {r : Reach} {b0 : Nat} {v : Value} {d : DataW H} {ps : List MemPlace} {tn ti te t8 t9 t3 tp : TypeId} {f0 f1 f2 g0 g1 g2 : Field}
    (hsn : P.underlying tn = some (.struct #[g0, g1, g2])) (hcn : P.cellsOf tn = 3) (hgf : (g0.type, g0.offset, g1.type, g1.offset, g2.type, g2.offset) = (ti, 0, t3, 1, tp, 2)) (hcp : P.cellsOf tp = 1) (hcs : P.cellsOf ti = 1) (htp : P.underlying tp = some (.slice t3))
    (hts : P.underlying ti = some (.slice te)) (hc3 : P.cellsOf te = 3)
    (hs : P.underlying te = some (.struct #[f0, f1, f2])) (hf : (f0.type, f0.offset, f1.type, f1.offset, f2.type, f2.offset) = (t3, 0, t8, 1, t3, 2)) (hi : P.underlying t3 = some (.int .i64)) (hb : P.underlying t8 = some (.slice t9)) (hu : P.underlying t9 = some (.int .u8)) (hc1 : P.cellsOf t9 = 1) (hci : P.cellsOf t3 = 1) (hcb : P.cellsOf t8 = 1)
    (hval : Value.okWide P w r b0 tn v) (h : DataW.Trod enc P w 0 (fun _ => true) true tn v d ps) :
    ∃ (ao : Option Addr) (cap : Nat) (es : List (Int × List UInt8 × Int)) (c : Int) (po : Option Addr) (pcap : Nat) (l : List Int), v = .agg #[.slice ao es.length cap, .int .i64 c, .slice po l.length pcap] ∧ es.length ≤ cap ∧ cap ≤ 9223372036854775807 ∧ EntsAt w ao es ∧ l.length ≤ pcap ∧ pcap ≤ 9223372036854775807 ∧ At w po (l.map (Value.int .i64)) := by
  obtain ⟨cs, rfl, hsz⟩ := okWide_struct hsn hval
  obtain ⟨fuel, hd⟩ := h
  rw [hcn] at hsz
  obtain ⟨cl⟩ := cs
  match cl, hsz with
  | [r0, r1, r2], _ =>
    simp only [Prod.mk.injEq] at hgf
    obtain ⟨e1, e2, e3, e4, e5, e6⟩ := hgf
    obtain ⟨m0, y0, d0⟩ := row_field hsn hd 0 g0 rfl
    obtain ⟨m1, y1, d1⟩ := row_field hsn hd 1 g1 rfl
    obtain ⟨m2, y2, d2⟩ := row_field hsn hd 2 g2 rfl
    rw [e1, e2, hcs] at d0
    rw [e3, e4, hci] at d1
    rw [e5, e6, hcp] at d2
    obtain ⟨z1, z1e, _, _⟩ := int_range hi d1
    obtain ⟨ao, cap, es, ee, a1, a2, a3⟩ := open_ents0 hts hc3 hs hf hi hb hu hc1 hci hcb d0
    obtain ⟨po, pcap, l, pe, b1, b2, b3⟩ := open_ints0 htp hi hci d2
    refine ⟨ao, cap, es, z1, po, pcap, l, ?_, a1, a2, a3, b1, b2, b3⟩
    simp [Value.cells] at z1e ee pe
    rw [z1e, ee, pe]
end
end Go.Proofs.YtnonhmjfhcmpgaaDoor
