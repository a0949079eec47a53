/- How many values functions have closed in, counted step by step: in plain Lean. -/
import Derived.Test.YtnhdefaagicejaaDoorCodeQ
namespace Go.Proofs.YtnhdefaagicejaaDoor
set_option linter.unusedSimpArgs false
set_option linter.unusedVariables false

/-- Among the first i steps. -/
structure FreesTo (c : CodeP) (i : Nat) (L : List Int) (T : List Bool) : Prop where
  len : L.length = c.funs.length
  tlen : T.length = c.funs.length
  clo : ∀ k : Nat, k < c.funs.length → 1 ≤ k → ∀ j x, j < i → c.ins[j]? = some x → x.op = 12 → x.a = (k : Int) → T[k]? = some true ∧ L[k]? = some x.b
  non : ∀ k : Nat, k < c.funs.length → (∀ j x, j < i → c.ins[j]? = some x → x.op = 12 → x.a = (k : Int) → k = 0) → T[k]? = some false ∧ L[k]? = some 0
theorem FreesTo.zero (c : CodeP) : FreesTo c 0 (List.replicate c.funs.length 0) (List.replicate c.funs.length false) :=
  ⟨by simp, by simp, fun _ _ _ _ _ h => by omega, fun k hk _ => ⟨by rw [List.getElem?_replicate, if_pos hk], by rw [List.getElem?_replicate, if_pos hk]⟩⟩
theorem FreesTo.skip {c : CodeP} {i : Nat} {L : List Int} {T : List Bool} {x : InsP} (h : FreesTo c i L T) (hx : c.ins[i]? = some x) (hn : x.op = 12 → ¬ (1 ≤ x.a ∧ x.a < c.funs.length)) : FreesTo c (i + 1) L T := by
  refine ⟨h.len, h.tlen, fun k hk h1 j y hj hy ho ha => ?_, fun k hk hno => h.non k hk (fun j y hj => hno j y (by omega))⟩
  rcases Nat.lt_or_ge j i with hji | hji
  · exact h.clo k hk h1 j y hji hy ho ha
  · obtain rfl : j = i := by omega
    rw [hx] at hy
    cases hy
    exact absurd ⟨by omega, by omega⟩ (hn ho)
theorem FreesTo.was {c : CodeP} {i : Nat} {L : List Int} {T : List Bool} {k : Nat} (h : FreesTo c i L T) (hk : k < c.funs.length) (ht : T[k]? = some true) : ∃ j x, j < i ∧ c.ins[j]? = some x ∧ x.op = 12 ∧ x.a = (k : Int) ∧ 1 ≤ k := by
  apply Classical.byContradiction
  intro hno
  have := (h.non k hk (fun j x hj hx ho ha => by
    rcases Nat.eq_zero_or_pos k with h0 | h0
    · exact h0
    · exact absurd ⟨j, x, hj, hx, ho, ha, h0⟩ hno)).1
  rw [ht] at this
  cases this
theorem FreesTo.put {c : CodeP} {i : Nat} {L : List Int} {T : List Bool} {x : InsP} {k : Nat} (h : FreesTo c i L T) (hx : c.ins[i]? = some x) (ho : x.op = 12) (hk : k < c.funs.length) (h1 : 1 ≤ k) (ha : x.a = (k : Int)) (hok : T[k]? = some false ∨ L[k]? = some x.b) : FreesTo c (i + 1) (L.set k x.b) (T.set k true) := by
  have hl := h.len
  have htl := h.tlen
  refine ⟨by simp [hl], by simp [htl], fun k' hk' h1' j y hj hy hyo hya => ?_, fun k' hk' hno => ?_⟩
  · by_cases he : k = k'
    · subst he
      refine ⟨by rw [List.getElem?_set_self (by omega)], ?_⟩
      rw [List.getElem?_set_self (by omega)]
      rcases Nat.lt_or_ge j i with hji | hji
      · obtain ⟨t1, t2⟩ := h.clo k hk' h1' j y hji hy hyo hya
        rcases hok with hf | hb
        · rw [t1] at hf; cases hf
        · rw [t2] at hb; exact hb.symm
      · obtain rfl : j = i := by omega
        rw [hx] at hy
        cases hy
        rfl
    · rw [List.getElem?_set_ne he, List.getElem?_set_ne he]
      rcases Nat.lt_or_ge j i with hji | hji
      · exact h.clo k' hk' h1' j y hji hy hyo hya
      · obtain rfl : j = i := by omega
        rw [hx] at hy
        cases hy
        omega
  · have he : k ≠ k' := by
      rintro rfl
      have := hno i x (by omega) hx ho ha
      omega
    rw [List.getElem?_set_ne he, List.getElem?_set_ne he]
    exact h.non k' hk' (fun j y hj => hno j y (by omega))
theorem FreesTo.fail {c : CodeP} {i : Nat} {L : List Int} {T : List Bool} {x : InsP} {k : Nat} (h : FreesTo c i L T) (hx : c.ins[i]? = some x) (ho : x.op = 12) (hk : k < c.funs.length) (ha : x.a = (k : Int)) (ht : T[k]? = some true) (hb : L[k]? ≠ some x.b) (fl : List UInt8 → Bool) : ¬ Ord fl c := by
  rintro ⟨_, L', F, hfr, _⟩
  obtain ⟨j, y, hj, hy, hyo, hya, h1⟩ := h.was hk ht
  have e1 := (hfr.2 k hk).1 y (List.mem_of_getElem? hy) hyo hya h1
  have e2 := (hfr.2 k hk).1 x (List.mem_of_getElem? hx) ho ha h1
  have e3 := (h.clo k hk h1 j y hj hy hyo hya).2
  rw [e1] at e2
  rw [e3] at hb
  exact hb e2
theorem FreesTo.frees {c : CodeP} {L : List Int} {T : List Bool} (h : FreesTo c c.ins.length L T) : Frees c L := by
  refine ⟨h.len, fun k hk => ⟨fun x hx ho ha h1 => ?_, fun hno => (h.non k hk (fun j x _ hx => hno x (List.mem_of_getElem? hx))).2⟩⟩
  obtain ⟨j, hj, rfl⟩ := List.getElem_of_mem hx
  exact (h.clo k hk h1 j _ hj (List.getElem?_eq_getElem hj) ho ha).2
end Go.Proofs.YtnhdefaagicejaaDoor
