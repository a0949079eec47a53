/- Values with depth (a kind, a number, a text, parts): plain, and in memory; a law's input of them opened. No program in sight. -/
import Derived.Test.YtnhdefaagicejaaKeeps
import Derived.Test.YtnhdefaagicejaaLaw
import Derived.Test.YtnhdefaagicejaaDiskM
namespace Go.Proofs.Ytnhdefaagicejaa
set_option linter.unusedSimpArgs false
set_option linter.unusedVariables false
open Go.ChangeShapes Go.WideShapes Go.ChangeAt Go.RowKit

inductive PV where
  | mk (kind num : Int) (text : List UInt8) (kids : List PV)
def PV.kind : PV → Int | .mk k _ _ _ => k
def PV.num : PV → Int | .mk _ n _ _ => n
def PV.text : PV → List UInt8 | .mk _ _ t _ => t
def PV.kids : PV → List PV | .mk _ _ _ ks => ks
/-- An int of 64 bits. -/
def R64 (z : Int) : Prop := -9223372036854775808 ≤ z ∧ z ≤ 9223372036854775807
/-- The value's four cells, and all that it reaches lies in the blocks D; n: no deeper. -/
def VIn (w : World) (D : Nat → Prop) : Nat → List Value → PV → Prop
  | 0, _, _ => False
  | n + 1, cs, .mk k m t ks => ∃ (ao : Option Addr) (cap : Nat) (rows : List (List Value)), cs = [.int .i64 k, .int .i64 m, .string ⟨t.toArray⟩, .slice ao ks.length cap] ∧ ks.length ≤ cap ∧ (cap ≤ 9223372036854775807 ∧ R64 k ∧ R64 m ∧ t.length ≤ 9223372036854775807) ∧ RowsAt w ao 4 rows ∧ (ks ≠ [] → ∀ b, blk ao = some b → D b) ∧ All2 (fun r x => VIn w D n r x) rows ks
theorem VIn.len {w : World} {D : Nat → Prop} : ∀ {n : Nat} {cs : List Value} {x : PV}, VIn w D n cs x → cs.length = 4
  | 0, _, _, h => h.elim
  | _ + 1, _, .mk _ _ _ _, ⟨_, _, _, e, _⟩ => by rw [e]; rfl
theorem VIn.succ {w : World} {D : Nat → Prop} : ∀ {n : Nat} {cs : List Value} {x : PV}, VIn w D n cs x → VIn w D (n + 1) cs x
  | 0, _, _, h => h.elim
  | _ + 1, _, .mk _ _ _ _, ⟨ao, cap, rows, e, h1, h2, h3, h4, h5⟩ => ⟨ao, cap, rows, e, h1, h2, h3, h4, h5.mono fun _ _ _ h => VIn.succ h⟩
theorem VIn.deep {w : World} {D : Nat → Prop} {n m : Nat} {cs : List Value} {x : PV} (h : VIn w D n cs x) (hm : n ≤ m) : VIn w D m cs x := by
  induction m with
  | zero => obtain rfl : n = 0 := by omega
            exact h
  | succ m ih =>
    rcases Nat.lt_or_ge m n with hlt | hge
    · obtain rfl : n = m + 1 := by omega
      exact h
    · exact (ih hge).succ
theorem VIn.keeps {X : Nat → Prop} {w w' : World} {D : Nat → Prop} (hk : Keeps X w w') (hX : ∀ b, D b → ¬ X b) : ∀ {n : Nat} {cs : List Value} {x : PV}, VIn w D n cs x → VIn w' D n cs x
  | 0, _, _, h => h.elim
  | _ + 1, _, .mk _ _ _ ks, ⟨ao, cap, rows, e, h1, h2, h3, h4, h5⟩ => by
    refine ⟨ao, cap, rows, e, h1, h2, ?_, h4, h5.mono fun _ _ _ h => VIn.keeps hk hX h⟩
    refine h3.keeps hk fun b hb hne => hX b (h4 ?_ b hb)
    rintro rfl
    exact hne (List.eq_nil_of_length_eq_zero (by rw [h5.1]; rfl))
theorem VIn.mono {w : World} {D E : Nat → Prop} (hDE : ∀ b, D b → E b) : ∀ {n : Nat} {cs : List Value} {x : PV}, VIn w D n cs x → VIn w E n cs x
  | 0, _, _, h => h.elim
  | _ + 1, _, .mk _ _ _ _, ⟨ao, cap, rows, e, h1, h2, h3, h4, h5⟩ => ⟨ao, cap, rows, e, h1, h2, h3, fun hne b hb => hDE b (h4 hne b hb), h5.mono fun _ _ _ h => VIn.mono hDE h⟩
theorem VIn.below {w w' : World} {D : Nat → Prop} {n : Nat} {cs : List Value} {x : PV} (h : VIn w D n cs x) (hb : Below w.heap.size w w') : VIn w' D n cs x := h.keeps (Keeps.of_below (X := fun _ => False) hb) fun _ _ h => h
/-- The blocks that it reaches are there. -/
theorem VIn.there {w : World} {D : Nat → Prop} : ∀ {n : Nat} {cs : List Value} {x : PV}, VIn w D n cs x → VIn w (fun b => D b ∧ b < w.heap.size) n cs x
  | 0, _, _, h => h.elim
  | _ + 1, _, .mk _ _ _ ks, ⟨ao, cap, rows, e, h1, h2, h3, h4, h5⟩ => by
    refine ⟨ao, cap, rows, e, h1, h2, h3, fun hne b hb => ⟨h4 hne b hb, ?_⟩, h5.mono fun _ _ _ h => VIn.there h⟩
    have hp : 0 < rows.length := by
      rw [h5.1]
      exact List.length_pos_iff.2 hne
    obtain ⟨b', o, rfl, hc⟩ := h3.cell 0 hp
    obtain ⟨x, hx⟩ : ∃ x, ks[0]? = some x := ⟨ks[0]'(by rw [← h5.1]; exact hp), List.getElem?_eq_getElem _⟩
    have hl := (h5.2 0 rows[0] x (List.getElem?_eq_getElem hp) hx).len
    have hcc := hc 0 rows[0][0] (List.getElem?_eq_getElem (by omega))
    have hlt := World.block_lt_of_cell? (a := ⟨b', o + (0 * 4 + 0), none⟩) w hcc
    cases hb
    exact hlt
/-- One part of a value: its cells. -/
theorem VIn.kid {w : World} {D : Nat → Prop} {n : Nat} {k m : Int} {t : List UInt8} {ks : List PV} {ao : Option Addr} {cap : Nat} {c0 c1 c2 : Value} (h : VIn w D (n + 1) [c0, c1, c2, .slice ao ks.length cap] (.mk k m t ks)) (i : Nat) (hi : i < ks.length) :
    ∃ b o cs, ao = some ⟨b, o, none⟩ ∧ VIn w D n cs ks[i] ∧ (∀ j v, cs[j]? = some v → w.cell? ⟨b, o + (i * 4 + j), none⟩ = some v) ∧ D b ∧ b < w.heap.size := by
  obtain ⟨ao', cap', rows, e, h1, h2, h3, h4, h5⟩ := id h
  simp only [List.cons.injEq, Value.slice.injEq, and_true] at e
  obtain ⟨_, _, _, rfl, _, rfl⟩ := e
  have hi' : i < rows.length := by rw [h5.1]; exact hi
  obtain ⟨b, o, rfl, hc⟩ := h3.cell i hi'
  have hv := h5.2 i rows[i] ks[i] (List.getElem?_eq_getElem hi') (List.getElem?_eq_getElem hi)
  refine ⟨b, o, rows[i], rfl, hv, hc, h4 (by rintro rfl; simp at hi) b rfl, ?_⟩
  have hl := hv.len
  exact World.block_lt_of_cell? (a := ⟨b, o + (i * 4 + 0), none⟩) w (hc 0 rows[i][0] (List.getElem?_eq_getElem (by omega)))
/-- A row of values. -/
def VsIn (w : World) (D : Nat → Prop) (n : Nat) (ao : Option Addr) (xs : List PV) : Prop := ∃ rows, RowsAt w ao 4 rows ∧ (xs ≠ [] → ∀ b, blk ao = some b → D b) ∧ All2 (fun r x => VIn w D n r x) rows xs
theorem VIn.row {w : World} {D : Nat → Prop} {n : Nat} {cs : List Value} {k m : Int} {t : List UInt8} {ks : List PV} : VIn w D (n + 1) cs (.mk k m t ks) ↔ ∃ ao cap, cs = [.int .i64 k, .int .i64 m, .string ⟨t.toArray⟩, .slice ao ks.length cap] ∧ ks.length ≤ cap ∧ (cap ≤ 9223372036854775807 ∧ R64 k ∧ R64 m ∧ t.length ≤ 9223372036854775807) ∧ VsIn w D n ao ks := by
  constructor
  · rintro ⟨ao, cap, rows, e, h1, h2, h3, h4, h5⟩
    exact ⟨ao, cap, e, h1, h2, rows, h3, h4, h5⟩
  · rintro ⟨ao, cap, e, h1, h2, rows, h3, h4, h5⟩
    exact ⟨ao, cap, rows, e, h1, h2, h3, h4, h5⟩
theorem VsIn.keeps {X : Nat → Prop} {w w' : World} {D : Nat → Prop} {n : Nat} {ao : Option Addr} {xs : List PV} (h : VsIn w D n ao xs) (hk : Keeps X w w') (hX : ∀ b, D b → ¬ X b) : VsIn w' D n ao xs := by
  obtain ⟨rows, h3, h4, h5⟩ := h
  refine ⟨rows, h3.keeps hk fun b hb hne => hX b (h4 ?_ b hb), h4, h5.mono fun _ _ _ h => h.keeps hk hX⟩
  rintro rfl
  exact hne (List.eq_nil_of_length_eq_zero (by rw [h5.1]; rfl))
theorem VsIn.below {w w' : World} {D : Nat → Prop} {n : Nat} {ao : Option Addr} {xs : List PV} (h : VsIn w D n ao xs) (hb : Below w.heap.size w w') : VsIn w' D n ao xs := h.keeps (Keeps.of_below (X := fun _ => False) hb) fun _ _ h => h
theorem VsIn.deep {w : World} {D : Nat → Prop} {n m : Nat} {ao : Option Addr} {xs : List PV} (h : VsIn w D n ao xs) (hm : n ≤ m) : VsIn w D m ao xs := by
  obtain ⟨rows, h3, h4, h5⟩ := h
  exact ⟨rows, h3, h4, h5.mono fun _ _ _ h => h.deep hm⟩
theorem VsIn.mono {w : World} {D E : Nat → Prop} {n : Nat} {ao : Option Addr} {xs : List PV} (h : VsIn w D n ao xs) (hDE : ∀ b, D b → E b) : VsIn w E n ao xs := by
  obtain ⟨rows, h3, h4, h5⟩ := h
  exact ⟨rows, h3, fun hne b hb => hDE b (h4 hne b hb), h5.mono fun _ _ _ h => h.mono hDE⟩
theorem VsIn.get {w : World} {D : Nat → Prop} {n : Nat} {ao : Option Addr} {xs : List PV} (h : VsIn w D n ao xs) (i : Nat) (hi : i < xs.length) :
    ∃ b o cs, ao = some ⟨b, o, none⟩ ∧ VIn w D n cs xs[i] ∧ (∀ j v, cs[j]? = some v → w.cell? ⟨b, o + (i * 4 + j), none⟩ = some v) ∧ D b ∧ b < w.heap.size := by
  obtain ⟨rows, h3, h4, h5⟩ := h
  have hi' : i < rows.length := by rw [h5.1]; exact hi
  obtain ⟨b, o, rfl, hc⟩ := h3.cell i hi'
  have hv := h5.2 i rows[i] xs[i] (List.getElem?_eq_getElem hi') (List.getElem?_eq_getElem hi)
  refine ⟨b, o, rows[i], rfl, hv, hc, h4 (by rintro rfl; simp at hi) b rfl, ?_⟩
  have hl := hv.len
  exact World.block_lt_of_cell? (a := ⟨b, o + (i * 4 + 0), none⟩) w (hc 0 rows[i][0] (List.getElem?_eq_getElem (by omega)))
theorem VsIn.nil (w : World) (D : Nat → Prop) (n : Nat) (ao : Option Addr) : VsIn w D n ao [] := ⟨[], .inl rfl, fun h => absurd rfl h, All2.nil⟩

section
variable {H : Type} {enc : TypeId × Value → H} {P : Program}
/-- A slice of elements of k cells each, opened: as XLaw's, but it says how deep. -/
theorem open_rowsN {w : World} {t e : TypeId} {k fuel : Nat} {cs : List Value} {x : DataW H × List MemPlace} (ht : P.underlying t = some (.slice e)) (hc : P.cellsOf e = k) (hk : 0 < k) (h : DataW.trod enc P w 0 (fun _ => true) true fuel t cs = some x) :
    ∃ (ao : Option Addr) (cap : Nat) (rows : List (List Value)), cs = [.slice ao rows.length cap] ∧ rows.length ≤ cap ∧ cap ≤ 9223372036854775807 ∧ RowsAt w ao k rows ∧
      ∀ r ∈ rows, r.length = k ∧ ∃ n y, n < fuel ∧ DataW.trod enc P w 0 (fun _ => true) true n e r = some y := by
  rcases DataW.trod_slice ht h with ⟨hcs, _⟩ | ⟨a, len, cap, elems, rest, n, rfl, hcs, _, _, hl, hm, hlen, hel, _⟩
  · exact ⟨none, 0, [], by simp [hcs], Nat.le_refl _, by decide, .inl rfl, fun r hr => by cases hr⟩
  · rw [hc] at hel
    have hrow : ∀ i, i < len → ∃ r : List Value, r.length = k ∧ (∀ j, j < k → w.cell? (a.add (i * k + j)) = r[j]?) ∧ ∃ m y, m < n + 1 ∧ DataW.trod enc P w 0 (fun _ => true) true m e r = some y := by
      intro i hi
      have h1 := hel i hi
      rw [List.getElem?_eq_getElem (by omega)] at h1
      obtain ⟨r, h2, h3⟩ := Option.bind_eq_some_iff.1 h1
      obtain ⟨_, hcl, hat⟩ := World.cells?_some h2
      exact ⟨r, hcl, fun j hj => by rw [← Deep.add_add]; exact hat j hj, n, _, Nat.lt_succ_self _, h3⟩
    obtain ⟨R, hR⟩ := Deep.choose_lt hrow
    refine ⟨some a, cap, (List.range len).map R, by simp [hcs], by simpa using hl, by unfold maxLen at hm; omega, ?_, ?_⟩
    · rcases Nat.eq_zero_or_pos len with h0 | h0
      · subst h0; exact .inl (by simp)
      · obtain ⟨b, o, spot⟩ := a
        have hs : spot = none := by
          obtain ⟨hl0, hc0, _⟩ := hR 0 h0
          have := hc0 0 hk
          rw [List.getElem?_eq_getElem (by omega)] at this
          simp only [Addr.add, World.cell?] at this
          cases spot with
          | none => rfl
          | some k => simp at this; split at this <;> simp at this
        subst hs
        refine .inr ⟨b, o, rfl, fun i r hi j v hj => ?_⟩
        have hil : i < len := by
          rcases Nat.lt_or_ge i len with h | h
          · exact h
          · rw [List.getElem?_eq_none (by simpa using h)] at hi; cases hi
        have hri : R i = r := by simpa [hil] using hi
        obtain ⟨h1, h2, _⟩ := hR i hil
        have hjk : j < k := by
          rcases Nat.lt_or_ge j k with h | h
          · exact h
          · rw [List.getElem?_eq_none (by rw [← hri]; omega)] at hj; cases hj
        have := h2 j hjk
        rw [Addr.add_lit, hri, hj] at this
        exact this
    · intro r hr
      obtain ⟨i, hi, rfl⟩ := List.mem_map.1 hr
      obtain ⟨h1, _, h3⟩ := hR i (by simpa using hi)
      exact ⟨h1, h3⟩
theorem row_fieldN {w : World} {e : TypeId} {n : Nat} {fs : Array Field} {cs : List Value} {x : DataW H × List MemPlace} (he : P.underlying e = some (.struct fs)) (h : DataW.trod enc P w 0 (fun _ => true) true n e cs = some x) (i : Nat) (f : Field) (hf : fs[i]? = some f) :
    ∃ m y, m < n ∧ DataW.trod enc P w 0 (fun _ => true) true m f.type ((cs.drop f.offset).take (P.cellsOf f.type)) = some y := by
  obtain ⟨xs, m, rfl, _, _, hl, hg⟩ := DataW.trod_struct he h
  have hi : i < fs.size := (Array.getElem?_eq_some_iff.1 hf).1
  exact ⟨m, _, Nat.lt_succ_self _, (hg i f hf).trans (List.getElem?_eq_getElem (by omega))⟩
theorem open_pv {w : World} {tv ti ts tk : TypeId} {f0 f1 f2 f3 : Field} (hs : P.underlying tv = some (.struct #[f0, f1, f2, f3])) (hf : (f0.type, f0.offset, f1.type, f1.offset, f2.type, f2.offset, f3.type, f3.offset) = (ti, 0, ti, 1, ts, 2, tk, 3))
    (hi : P.underlying ti = some (.int .i64)) (hst : P.underlying ts = some .string) (hk : P.underlying tk = some (.slice tv)) (hc4 : P.cellsOf tv = 4) (hci : P.cellsOf ti = 1) (hcs : P.cellsOf ts = 1) (hck : P.cellsOf tk = 1) :
    ∀ (fuel : Nat) (cs : List Value) (x : DataW H × List MemPlace), DataW.trod enc P w 0 (fun _ => true) true fuel tv cs = some x → ∃ pv, VIn w (fun _ => True) fuel cs pv := by
  simp only [Prod.mk.injEq] at hf
  obtain ⟨e1, e2, e3, e4, e5, e6, e7, e8⟩ := hf
  intro fuel
  induction fuel using Nat.strongRecOn with
  | _ fuel ih =>
    intro cs x h
    obtain ⟨_, n, rfl, _, hlen, _⟩ := DataW.trod_struct hs h
    rw [hc4] at hlen
    match cs, hlen with
    | [c0, c1, c2, c3], _ =>
      obtain ⟨m0, y0, _, d0⟩ := row_fieldN hs h 0 f0 rfl
      obtain ⟨m1, y1, _, d1⟩ := row_fieldN hs h 1 f1 rfl
      obtain ⟨m2, y2, _, d2⟩ := row_fieldN hs h 2 f2 rfl
      obtain ⟨m3, y3, hm3, d3⟩ := row_fieldN hs h 3 f3 rfl
      rw [e1, e2, hci] at d0
      rw [e3, e4, hci] at d1
      rw [e5, e6, hcs] at d2
      rw [e7, e8, hck] at d3
      obtain ⟨z0, z0e, l0, u0⟩ := int_range hi d0
      obtain ⟨z1, z1e, l1, u1⟩ := int_range hi d1
      obtain ⟨s, se, _, hsl⟩ := DataW.trod_string hst d2
      obtain ⟨ao, cap, rows, re, r1, r2, r3, r4⟩ := open_rowsN hk hc4 (by decide) d3
      have hkids : ∀ rs : List (List Value), (∀ r ∈ rs, r ∈ rows) → ∃ ks : List PV, All2 (fun r x => VIn w (fun _ => True) n r x) rs ks := by
        intro rs
        induction rs with
        | nil => exact fun _ => ⟨[], All2.nil⟩
        | cons r rs ihr =>
          intro hrs
          obtain ⟨ks, hks⟩ := ihr fun r' hr' => hrs r' (by simp [hr'])
          obtain ⟨_, m, y, hm, hd⟩ := r4 r (hrs r (by simp))
          obtain ⟨pv, hpv⟩ := ih m (by omega) r y hd
          refine ⟨pv :: ks, by simp [hks.1], fun i a b ha hb => ?_⟩
          cases i with
          | zero =>
            simp at ha hb
            rw [← ha, ← hb]
            exact hpv.deep (by omega)
          | succ i => exact hks.2 i a b (by simpa using ha) (by simpa using hb)
      obtain ⟨ks, hks⟩ := hkids rows fun _ h => h
      have hkl := hks.1
      refine ⟨.mk z0 z1 s.data.toList ks, ao, cap, rows, ?_, by omega, ⟨r2, ⟨l0, u0⟩, ⟨l1, u1⟩, ?_⟩, r3, fun _ _ _ => trivial, hks⟩
      · simp at z0e z1e se re
        rw [z0e, z1e, se, re, hkl]
      · have : s.data.toList.length = s.size := by rw [Array.length_toList]; rfl
        unfold maxLen at hsl
        omega
end
end Go.Proofs.Ytnhdefaagicejaa
