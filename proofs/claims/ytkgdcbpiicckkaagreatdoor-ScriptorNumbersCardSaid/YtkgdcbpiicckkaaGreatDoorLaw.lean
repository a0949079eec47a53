/- What closes a law's row: a call that answers true and turns nothing of what was there meets the row's condition, whatever its arguments. No program in sight. -/
import Derived.Test.YtkgdcbpiicckkaaGreatDoorBase
import Derived.WalkKit
import Derived.ProofKit
import Derived.OpenShut
import Derived.JoinedCond
import Derived.Deep.Slices
import Derived.ChangeMaps5
namespace Go.Proofs.YtkgdcbpiicckkaaGreatDoor
set_option linter.unusedSimpArgs false
set_option linter.unusedVariables false
open Go.ChangeShapes Go.WideShapes Go.ChangeAt Go.RowKit

section
variable {H : Type} {enc : TypeId × Value → H} {P : Program}

/-- The arguments read behind the call as before. -/
theorem trodAll_stays (hl : laidOutB P = true) {W W' : World} (hb : Below W.heap.size W W') : ∀ (ts : List TypeId) (vs : List Value) (ds : List (DataW H)) (ps : List MemPlace),
    (∀ t ∈ ts, P.readableRec t = true ∧ t < P.types.size) → DataW.TrodAll enc P W 0 (fun _ => true) true ts vs ds ps → (∀ p ∈ ps, p.block < W.heap.size) →
    DataW.TrodAll enc P W' 0 (fun b => decide (b < W.heap.size)) true ts vs ds ps
  | [], [], [], _, _, h, _ => h
  | [], _ :: _, _, _, _, h, _ => h.elim
  | [], [], _ :: _, _, _, h, _ => h.elim
  | _ :: _, [], _, _, _, h, _ => h.elim
  | _ :: _, _ :: _, [], _, _, h, _ => h.elim
  | t :: ts, v :: vs, d :: ds, ps, hr, h, hlt => by
    obtain ⟨p, q, h1, h2, rfl⟩ := h
    exact ⟨p, q, Below.trod hl (hr t (by simp)).1 (hr t (by simp)).2 h1 hb (fun x hx => hlt x (by simp [hx])), trodAll_stays hl hb ts vs ds q (fun t ht => hr t (by simp [ht])) h2 (fun x hx => hlt x (by simp [hx])), rfl⟩

/-- THE ROW's CLOSING CONDITION. -/
theorem post_law {f : Func} {s : ChangeSpec} {W W' : World} {args : Array Value} {ds gs : List (DataW H)} {before : List MemPlace} {tb : TypeId} (hl : laidOutB P = true) (hvars : s.vars = []) (hrt : f.resultTypes = #[tb]) (htb : P.underlying tb = some .bool)
    (hr : ∀ t ∈ f.params.toList, P.readableRec t = true ∧ t < P.types.size) (hres : (s.fn H (ds ++ gs)).results = [.lit (.bool true)]) (hargs : (s.fn H (ds ++ gs)).args = ds) (hvs : (s.fn H (ds ++ gs)).vars = [])
    (hW : DataW.Whole enc P f.params.toList s.vars false W args.toList ds gs before) (hb : Below W.heap.size W W') :
    s.post enc P f false true false false W args (.bool true) W' := by
  have hlt := hW.lt
  have hW' := hW
  obtain ⟨p, q, hA, hV, rfl, _, _⟩ := hW
  refine ⟨ds, gs, p ++ q, [], p, [], hW', ?_, ?_, ?_, hb.frame _, fun h => by cases h⟩
  · rw [hres, hrt]
    exact trodAll_cons_mk (shut_bool htb true) trodAll_mk0
  · rw [hargs]
    exact trodAll_stays hl hb _ _ _ _ hr hA (fun x hx => hlt x (by simp [hx]))
  · rw [hvs, hvars]
    exact rfl

/-- A SLICE OF ELEMENTS OF ONE CELL, OPENED. -/
theorem open_at {w : World} {r : Reach} {b0 : Nat} {t e : TypeId} {v : Value} {d : DataW H} {ps : List MemPlace} (ht : P.underlying t = some (.slice e)) (hc : P.cellsOf e = 1) (hval : Value.okWide P w r b0 t v) (h : DataW.Trod enc P w 0 (fun _ => true) true t v d ps) :
    ∃ (ao : Option Addr) (cap : Nat) (vs : List Value), v = .slice ao vs.length cap ∧ vs.length ≤ cap ∧ cap ≤ 9223372036854775807 ∧ At w ao vs ∧
      ∀ u ∈ vs, ∃ n d' p', DataW.trod enc P w 0 (fun _ => true) true n e [u] = some (d', p') := by
  obtain ⟨ao, len, cap, rfl⟩ := okWide_slice ht hval
  obtain ⟨fuel, hf⟩ := h
  rcases Deep.open_slice1 ht hc hf with ⟨hcs, _⟩ | ⟨a, len', cap', m, n, V, D, Pl, hcs, _, hl, hm, hmm, _, hV⟩
  · simp [Value.cells] at hcs
    obtain ⟨rfl, rfl, rfl⟩ := hcs
    exact ⟨none, 0, [], rfl, Nat.le_refl _, by decide, At.nil _ _, fun u hu => by cases hu⟩
  · simp [Value.cells] at hcs
    obtain ⟨rfl, rfl, rfl⟩ := hcs
    simp only [if_true] at hmm
    subst hmm
    refine ⟨some a, m, (List.range len).map V, by simp, by simpa using hl, by unfold maxLen at hm; omega, ?_, ?_⟩
    · rcases Nat.eq_zero_or_pos len with h0 | h0
      · subst h0; exact .inl (by simp)
      · obtain ⟨b, o, spot⟩ := a
        have hs : spot = none := by
          have := (hV 0 (by omega)).1
          simp only [Addr.add, if_true, World.cell?] at this
          split at this
          · cases spot with
            | none => rfl
            | some k => simp at this
          · cases this
        subst hs
        refine .inr ⟨b, o, rfl, fun j u hj => ?_⟩
        have hjl : j < len := by
          rcases Nat.lt_or_ge j len with h | h
          · exact h
          · rw [List.getElem?_eq_none (by simpa using h)] at hj; cases hj
        have := (hV j (by omega)).1
        rw [Addr.add_lit] at this
        rw [this]
        simpa [hjl] using hj
    · intro u hu
      obtain ⟨i, hi, rfl⟩ := List.mem_map.1 hu
      exact ⟨n, D i, Pl i, (hV i (by have := List.mem_range.1 hi; omega)).2⟩

/-- A SLICE OF BYTES, OPENED. -/
theorem open_bytes {w : World} {r : Reach} {b0 : Nat} {t e : TypeId} {v : Value} {d : DataW H} {ps : List MemPlace} (ht : P.underlying t = some (.slice e)) (he : P.underlying e = some (.int .u8)) (hc : P.cellsOf e = 1) (hval : Value.okWide P w r b0 t v) (h : DataW.Trod enc P w 0 (fun _ => true) true t v d ps) :
    ∃ (ao : Option Addr) (cap : Nat) (l : List UInt8), v = .slice ao l.length cap ∧ l.length ≤ cap ∧ cap ≤ 9223372036854775807 ∧ At w ao (bytesV l) := by
  obtain ⟨ao, cap, vs, rfl, h1, h2, h3, h4⟩ := open_at ht hc hval h
  have : ∀ vs : List Value, (∀ u ∈ vs, ∃ n d' p', DataW.trod enc P w 0 (fun _ => true) true n e [u] = some (d', p')) → ∃ l, vs = bytesV l := by
    intro vs
    induction vs with
    | nil => exact fun _ => ⟨[], rfl⟩
    | cons u vs ih =>
      intro hu
      obtain ⟨n, d', p', hd⟩ := hu u (by simp)
      obtain ⟨z, e1, _, hw⟩ := DataW.trod_int he hd
      obtain ⟨l, rfl⟩ := ih fun u' hu' => hu u' (by simp [hu'])
      have hz : 0 ≤ z ∧ z ≤ 255 := by simpa [Lit.wf, IntKind.min, IntKind.max, IntKind.signed, IntKind.bits] using hw
      refine ⟨UInt8.ofNat z.toNat :: l, ?_⟩
      have e2 : u = .int .u8 z := by simpa using e1
      rw [e2]
      show _ = u8v (UInt8.ofNat z.toNat) :: bytesV l
      congr 1
      simp only [u8v, UInt8.toNat_ofNat']
      congr 1
      omega
  obtain ⟨l, rfl⟩ := this vs h4
  rw [bytesV_length] at *
  exact ⟨ao, cap, l, rfl, h1, h2, h3⟩

/-- A SLICE OF INTS, OPENED. -/
theorem open_intsl {w : World} {r : Reach} {b0 : Nat} {t e : TypeId} {v : Value} {d : DataW H} {ps : List MemPlace} (ht : P.underlying t = some (.slice e)) (he : P.underlying e = some (.int .i64)) (hc : P.cellsOf e = 1) (hval : Value.okWide P w r b0 t v) (h : DataW.Trod enc P w 0 (fun _ => true) true t v d ps) :
    ∃ (ao : Option Addr) (cap : Nat) (l : List Int), v = .slice ao l.length cap ∧ l.length ≤ cap ∧ cap ≤ 9223372036854775807 ∧ At w ao (l.map (Value.int .i64)) ∧ ∀ z ∈ l, -9223372036854775808 ≤ z ∧ z ≤ 9223372036854775807 := by
  obtain ⟨ao, cap, vs, rfl, h1, h2, h3, h4⟩ := open_at ht hc hval h
  have : ∀ vs : List Value, (∀ u ∈ vs, ∃ n d' p', DataW.trod enc P w 0 (fun _ => true) true n e [u] = some (d', p')) → ∃ l : List Int, vs = l.map (Value.int .i64) ∧ ∀ z ∈ l, -9223372036854775808 ≤ z ∧ z ≤ 9223372036854775807 := by
    intro vs
    induction vs with
    | nil => exact fun _ => ⟨[], rfl, by simp⟩
    | cons u vs ih =>
      intro hu
      obtain ⟨n, d', p', hd⟩ := hu u (by simp)
      obtain ⟨z, e1, _, hw⟩ := DataW.trod_int he hd
      obtain ⟨l, rfl, hl⟩ := ih fun u' hu' => hu u' (by simp [hu'])
      have hz : -9223372036854775808 ≤ z ∧ z ≤ 9223372036854775807 := by simpa [Lit.wf, IntKind.min, IntKind.max, IntKind.signed, IntKind.bits] using hw
      refine ⟨z :: l, ?_, ?_⟩
      · have e2 : u = .int .i64 z := by simpa using e1
        rw [e2]; rfl
      · intro y hy
        rcases List.mem_cons.1 hy with rfl | hy
        · exact hz
        · exact hl y hy
  obtain ⟨l, rfl, hl⟩ := this vs h4
  rw [List.length_map] at *
  exact ⟨ao, cap, l, rfl, h1, h2, h3, hl⟩

/-- A SLICE OF TEXTS, OPENED. -/
theorem open_strsl {w : World} {r : Reach} {b0 : Nat} {t e : TypeId} {v : Value} {d : DataW H} {ps : List MemPlace} (ht : P.underlying t = some (.slice e)) (he : P.underlying e = some .string) (hc : P.cellsOf e = 1) (hval : Value.okWide P w r b0 t v) (h : DataW.Trod enc P w 0 (fun _ => true) true t v d ps) :
    ∃ (ao : Option Addr) (cap : Nat) (l : List (List UInt8)), v = .slice ao l.length cap ∧ l.length ≤ cap ∧ cap ≤ 9223372036854775807 ∧ At w ao (l.map fun s => Value.string ⟨s.toArray⟩) ∧ ∀ s ∈ l, s.length ≤ 9223372036854775807 := by
  obtain ⟨ao, cap, vs, rfl, h1, h2, h3, h4⟩ := open_at ht hc hval h
  have : ∀ vs : List Value, (∀ u ∈ vs, ∃ n d' p', DataW.trod enc P w 0 (fun _ => true) true n e [u] = some (d', p')) → ∃ l : List (List UInt8), vs = l.map (fun s => Value.string ⟨s.toArray⟩) ∧ ∀ s ∈ l, s.length ≤ 9223372036854775807 := by
    intro vs
    induction vs with
    | nil => exact fun _ => ⟨[], rfl, by simp⟩
    | cons u vs ih =>
      intro hu
      obtain ⟨n, d', p', hd⟩ := hu u (by simp)
      obtain ⟨s, e1, _, hs⟩ := DataW.trod_string he hd
      obtain ⟨l, rfl, hl⟩ := ih fun u' hu' => hu u' (by simp [hu'])
      refine ⟨s.data.toList :: l, ?_, ?_⟩
      · have e2 : u = .string s := by simpa using e1
        rw [e2]
        simp
      · intro y hy
        rcases List.mem_cons.1 hy with rfl | hy
        · rw [Array.length_toList]; unfold maxLen at hs; exact Nat.le_trans hs (by decide)
        · exact hl y hy
  obtain ⟨l, rfl, hl⟩ := this vs h4
  rw [List.length_map] at *
  exact ⟨ao, cap, l, rfl, h1, h2, h3, hl⟩

/-- A SLICE OF ELEMENTS OF k CELLS EACH, OPENED: the rows lie one behind the other. -/
theorem open_rows0 {w : World} {t e : TypeId} {k fuel : Nat} {cs : List Value} {x : DataW H × List MemPlace} (ht : P.underlying t = some (.slice e)) (hc : P.cellsOf e = k) (hk : 0 < k) (h : DataW.trod enc P w 0 (fun _ => true) true fuel t cs = some x) :
    ∃ (ao : Option Addr) (cap : Nat) (rows : List (List Value)), cs = [.slice ao rows.length cap] ∧ rows.length ≤ cap ∧ cap ≤ 9223372036854775807 ∧ RowsAt w ao k rows ∧
      ∀ r ∈ rows, r.length = k ∧ ∃ n y, DataW.trod enc P w 0 (fun _ => true) true n e r = some y := by
  rcases Deep.open_slice ht h with ⟨hcs, _⟩ | ⟨a, len, cap, m, n, D, Pl, hcs, _, hl, hm, hmm, _, hV⟩
  · exact ⟨none, 0, [], by simp [hcs], Nat.le_refl _, by decide, .inl rfl, fun r hr => by cases hr⟩
  · simp only [if_true] at hmm
    subst hmm
    rw [hc] at hV
    have hrow : ∀ i, i < len → ∃ r : List Value, r.length = k ∧ (∀ j, j < k → w.cell? (a.add (i * k + j)) = r[j]?) ∧ ∃ n y, DataW.trod enc P w 0 (fun _ => true) true n e r = some y := by
      intro i hi
      obtain ⟨r, h1, h2⟩ := hV i (by omega)
      obtain ⟨_, hcl, hat⟩ := World.cells?_some h1
      exact ⟨r, hcl, fun j hj => by rw [← Deep.add_add]; exact hat j hj, n, _, h2⟩
    obtain ⟨R, hR⟩ := Deep.choose_lt hrow
    refine ⟨some a, m, (List.range len).map R, by simp [hcs], by simpa using hl, by unfold maxLen at hm; omega, ?_, ?_⟩
    · rcases Nat.eq_zero_or_pos len with h0 | h0
      · subst h0; exact .inl (by simp)
      · obtain ⟨b, o, spot⟩ := a
        have hs : spot = none := by
          obtain ⟨hl0, hc0, _⟩ := hR 0 h0
          have := hc0 0 hk
          rw [List.getElem?_eq_getElem (by omega)] at this
          simp only [Addr.add, World.cell?] at this
          cases spot with
          | none => rfl
          | some k => simp at this; split at this <;> simp at this
        subst hs
        refine .inr ⟨b, o, rfl, fun i r hi j v hj => ?_⟩
        have hil : i < len := by
          rcases Nat.lt_or_ge i len with h | h
          · exact h
          · rw [List.getElem?_eq_none (by simpa using h)] at hi; cases hi
        have hri : R i = r := by simpa [hil] using hi
        obtain ⟨h1, h2, _⟩ := hR i hil
        have hjk : j < k := by
          rcases Nat.lt_or_ge j k with h | h
          · exact h
          · rw [List.getElem?_eq_none (by rw [← hri]; omega)] at hj; cases hj
        have := h2 j hjk
        rw [Addr.add_lit, hri, hj] at this
        exact this
    · intro r hr
      obtain ⟨i, hi, rfl⟩ := List.mem_map.1 hr
      obtain ⟨h1, _, h3⟩ := hR i (by simpa using hi)
      exact ⟨h1, h3⟩
theorem open_rows {w : World} {r : Reach} {b0 : Nat} {t e : TypeId} {k : Nat} {v : Value} {d : DataW H} {ps : List MemPlace} (ht : P.underlying t = some (.slice e)) (hc : P.cellsOf e = k) (hk : 0 < k) (hval : Value.okWide P w r b0 t v) (h : DataW.Trod enc P w 0 (fun _ => true) true t v d ps) :
    ∃ (ao : Option Addr) (cap : Nat) (rows : List (List Value)), v = .slice ao rows.length cap ∧ rows.length ≤ cap ∧ cap ≤ 9223372036854775807 ∧ RowsAt w ao k rows ∧
      ∀ r ∈ rows, r.length = k ∧ ∃ n y, DataW.trod enc P w 0 (fun _ => true) true n e r = some y := by
  obtain ⟨ao, len, cap, rfl⟩ := okWide_slice ht hval
  obtain ⟨fuel, hf⟩ := h
  obtain ⟨ao', cap', rows, hcs, h1, h2, h3, h4⟩ := open_rows0 ht hc hk hf
  simp [Value.cells] at hcs
  obtain ⟨rfl, rfl, rfl⟩ := hcs
  exact ⟨ao, cap, rows, rfl, h1, h2, h3, h4⟩
/-- A field of a struct that was read. -/
theorem row_field {w : World} {e : TypeId} {n : Nat} {fs : Array Field} {cs : List Value} {x : DataW H × List MemPlace} (he : P.underlying e = some (.struct fs)) (h : DataW.trod enc P w 0 (fun _ => true) true n e cs = some x) (i : Nat) (f : Field) (hf : fs[i]? = some f) :
    ∃ m y, DataW.trod enc P w 0 (fun _ => true) true m f.type ((cs.drop f.offset).take (P.cellsOf f.type)) = some y := by
  obtain ⟨xs, m, _, _, _, hl, hg⟩ := DataW.trod_struct he h
  have hi : i < fs.size := (Array.getElem?_eq_some_iff.1 hf).1
  exact ⟨m, _, (hg i f hf).trans (List.getElem?_eq_getElem (by omega))⟩
theorem int_range {w : World} {e : TypeId} {n : Nat} {cs : List Value} {x : DataW H × List MemPlace} (he : P.underlying e = some (.int .i64)) (h : DataW.trod enc P w 0 (fun _ => true) true n e cs = some x) : ∃ z : Int, cs = [.int .i64 z] ∧ -9223372036854775808 ≤ z ∧ z ≤ 9223372036854775807 := by
  obtain ⟨z, e1, _, hw⟩ := DataW.trod_int he h
  have hz : -9223372036854775808 ≤ z ∧ z ≤ 9223372036854775807 := by simpa [Lit.wf, IntKind.min, IntKind.max, IntKind.signed, IntKind.bits] using hw
  exact ⟨z, e1, hz⟩
theorem rows_map {α : Type} {rows : List (List Value)} {p : α → Prop} {f : α → List Value} (h : ∀ r ∈ rows, ∃ a, r = f a ∧ p a) : ∃ l : List α, rows = l.map f ∧ ∀ a ∈ l, p a := by
  induction rows with
  | nil => exact ⟨[], rfl, by simp⟩
  | cons r rows ih =>
    obtain ⟨a, ha, hp⟩ := h r (by simp)
    obtain ⟨l, hl, hlp⟩ := ih fun r' hr => h r' (by simp [hr])
    refine ⟨a :: l, by simp [ha, hl], fun b hb => ?_⟩
    rcases List.mem_cons.1 hb with rfl | hb
    · exact hp
    · exact hlp b hb

end
end Go.Proofs.YtkgdcbpiicckkaaGreatDoor
