/- Rows of things in memory: those that lie there, and those of one's own that grow. No program in sight. -/
import Derived.Test.YtnhdefaagicejaaPV
import Derived.Test.YtnhdefaagicejaaOps2
namespace Go.Proofs.Ytnhdefaagicejaa
set_option linter.unusedSimpArgs false
set_option linter.unusedVariables false
open Go.RowKit

/-- A kind of element: k cells, and what it reaches lies in the blocks D. -/
structure Elem {α : Type} (k : Nat) (P : World → (Nat → Prop) → List Value → α → Prop) : Prop where
  len : ∀ {w : World} {D : Nat → Prop} {cs : List Value} {x : α}, P w D cs x → cs.length = k
  one : ∀ {w : World} {D : Nat → Prop} {cs : List Value} {x : α}, P w D cs x → ∀ v ∈ cs, v.oneCell' = true
  keeps : ∀ {X : Nat → Prop} {w w' : World} {D : Nat → Prop} {cs : List Value} {x : α}, P w D cs x → Keeps X w w' → (∀ b, D b → ¬ X b) → P w' D cs x
  mono : ∀ {w : World} {D E : Nat → Prop} {cs : List Value} {x : α}, P w D cs x → (∀ b, D b → E b) → P w E cs x
  there : ∀ {w : World} {D : Nat → Prop} {cs : List Value} {x : α}, P w D cs x → P w (fun b => D b ∧ b < w.heap.size) cs x
section
variable {α : Type} {k : Nat} {P : World → (Nat → Prop) → List Value → α → Prop}
theorem Elem.below (E : Elem k P) {w w' : World} {D : Nat → Prop} {cs : List Value} {x : α} (h : P w D cs x) (hb : Below w.heap.size w w') : P w' D cs x := E.keeps h (Keeps.of_below (X := fun _ => False) hb) fun _ _ h => h
/-- Elements that lie one behind the other. -/
def InL (k : Nat) (P : World → (Nat → Prop) → List Value → α → Prop) (w : World) (D : Nat → Prop) (ao : Option Addr) (xs : List α) : Prop :=
  ∃ rows, RowsAt w ao k rows ∧ (xs ≠ [] → ∀ b, blk ao = some b → D b) ∧ All2 (P w D) rows xs
theorem InL.nil (w : World) (D : Nat → Prop) (ao : Option Addr) : InL k P w D ao [] := ⟨[], .inl rfl, fun h => absurd rfl h, All2.nil⟩
theorem InL.keeps (E : Elem k P) {X : Nat → Prop} {w w' : World} {D : Nat → Prop} {ao : Option Addr} {xs : List α} (h : InL k P w D ao xs) (hk : Keeps X w w') (hX : ∀ b, D b → ¬ X b) : InL k P w' D ao xs := by
  obtain ⟨rows, h3, h4, h5⟩ := h
  refine ⟨rows, h3.keeps hk fun b hb hne => hX b (h4 ?_ b hb), h4, h5.mono fun _ _ _ h => E.keeps h hk hX⟩
  rintro rfl
  exact hne (List.eq_nil_of_length_eq_zero (by rw [h5.1]; rfl))
theorem InL.below (E : Elem k P) {w w' : World} {D : Nat → Prop} {ao : Option Addr} {xs : List α} (h : InL k P w D ao xs) (hb : Below w.heap.size w w') : InL k P w' D ao xs := h.keeps E (Keeps.of_below (X := fun _ => False) hb) fun _ _ h => h
theorem InL.mono (E : Elem k P) {w : World} {D F : Nat → Prop} {ao : Option Addr} {xs : List α} (h : InL k P w D ao xs) (hDF : ∀ b, D b → F b) : InL k P w F ao xs := by
  obtain ⟨rows, h3, h4, h5⟩ := h
  exact ⟨rows, h3, fun hne b hb => hDF b (h4 hne b hb), h5.mono fun _ _ _ h => E.mono h hDF⟩
theorem InL.get (E : Elem k P) (hk : 0 < k) {w : World} {D : Nat → Prop} {ao : Option Addr} {xs : List α} (h : InL k P w D ao xs) (i : Nat) (hi : i < xs.length) :
    ∃ b o cs, ao = some ⟨b, o, none⟩ ∧ P w D cs xs[i] ∧ (∀ j v, cs[j]? = some v → w.cell? ⟨b, o + (i * k + j), none⟩ = some v) ∧ D b ∧ b < w.heap.size := by
  obtain ⟨rows, h3, h4, h5⟩ := h
  have hi' : i < rows.length := by rw [h5.1]; exact hi
  obtain ⟨b, o, rfl, hc⟩ := h3.cell i hi'
  have hv := h5.2 i rows[i] xs[i] (List.getElem?_eq_getElem hi') (List.getElem?_eq_getElem hi)
  refine ⟨b, o, rows[i], rfl, hv, hc, h4 (by rintro rfl; simp at hi) b rfl, ?_⟩
  have hl := E.len hv
  exact World.block_lt_of_cell? (a := ⟨b, o + (i * k + 0), none⟩) w (hc 0 rows[i][0] (List.getElem?_eq_getElem (by omega)))
theorem InL.there (E : Elem k P) (hk : 0 < k) {w : World} {D : Nat → Prop} {ao : Option Addr} {xs : List α} (h : InL k P w D ao xs) : InL k P w (fun b => D b ∧ b < w.heap.size) ao xs := by
  have hg := h.get E hk 0
  obtain ⟨rows, h3, h4, h5⟩ := h
  refine ⟨rows, h3, fun hne b hb => ⟨h4 hne b hb, ?_⟩, h5.mono fun _ _ _ h => E.there h⟩
  obtain ⟨b', o, cs, rfl, _, _, _, hlt⟩ := hg (List.length_pos_iff.2 hne)
  cases hb
  exact hlt
theorem flat_getk (k : Nat) : ∀ (rows : List (List Value)), (∀ r ∈ rows, r.length = k) → ∀ i r, rows[i]? = some r → ∀ j v, r[j]? = some v → rows.flatten[i * k + j]? = some v
  | [], _, i, r, hi, _, _, _ => by simp at hi
  | x :: xs, h, i, r, hi, j, v, hj => by
    have hx : x.length = k := h x (by simp)
    rw [List.flatten_cons]
    cases i with
    | zero =>
      simp at hi
      subst hi
      have hjl : j < x.length := by
        rcases Nat.lt_or_ge j x.length with h | h
        · exact h
        · rw [List.getElem?_eq_none h] at hj; cases hj
      rw [Nat.zero_mul, Nat.zero_add, List.getElem?_append_left hjl, hj]
    | succ i =>
      have := flat_getk k xs (fun r hr => h r (by simp [hr])) i r (by simpa using hi) j v hj
      have he : (i + 1) * k = i * k + k := Nat.succ_mul i k
      rw [List.getElem?_append_right (by omega), show (i + 1) * k + j - x.length = i * k + j by omega]
      exact this
theorem rowsAt_of_flatk {w : World} {ao : Option Addr} {k : Nat} (hk : 0 < k) {rows : List (List Value)} (h : At w ao rows.flatten) (h4 : ∀ r ∈ rows, r.length = k) : RowsAt w ao k rows := by
  rcases Classical.em (rows = []) with rfl | hne
  · exact .inl rfl
  rcases h with h | ⟨b, o, rfl, hc⟩
  · exfalso
    cases rows with
    | nil => exact hne rfl
    | cons r rs =>
      have := h4 r (by simp)
      rw [List.flatten_cons] at h
      have h2 := congrArg List.length h
      rw [List.length_append, List.length_nil] at h2
      omega
  · exact .inr ⟨b, o, rfl, fun i r hi j v hj => hc _ v (flat_getk k rows h4 i r hi j v hj)⟩
theorem All2.lenk (E : Elem k P) {w : World} {D : Nat → Prop} {rows : List (List Value)} {xs : List α} (h : All2 (P w D) rows xs) : ∀ r ∈ rows, r.length = k := by
  intro r hr
  obtain ⟨i, hi, e⟩ := List.getElem_of_mem hr
  have hx : i < xs.length := by rw [← h.1]; exact hi
  rw [← e]
  exact E.len (h.2 i rows[i] xs[i] (List.getElem?_eq_getElem hi) (List.getElem?_eq_getElem hx))
theorem All2.onek (E : Elem k P) {w : World} {D : Nat → Prop} {rows : List (List Value)} {xs : List α} (h : All2 (P w D) rows xs) : ∀ v ∈ rows.flatten, v.oneCell' = true := by
  intro v hv
  obtain ⟨r, hr, hvr⟩ := List.mem_flatten.1 hv
  obtain ⟨i, hi, e⟩ := List.getElem_of_mem hr
  have hx : i < xs.length := by rw [← h.1]; exact hi
  have hp := h.2 i rows[i] xs[i] (List.getElem?_eq_getElem hi) (List.getElem?_eq_getElem hx)
  rw [e] at hp
  exact E.one hp v hvr
/-- Elements of one's own row. -/
def OwnL (e : TypeId) (k : Nat) (P : World → (Nat → Prop) → List Value → α → Prop) (w : World) (base : Nat) (D : Nat → Prop) (ao : Option Addr) (cap : Nat) (xs : List α) : Prop :=
  (∃ rows : List (List Value), w.ownsRow base e k (.slice ao xs.length cap) xs.length rows.flatten ∧ All2 (P w D) rows xs) ∧ ∀ j, blk ao = some j → ¬ D j
variable {e : TypeId}
theorem OwnL.nil (w : World) (base : Nat) (D : Nat → Prop) : OwnL e k P w base D none 0 [] := ⟨⟨[], World.ownsRow_nil _ _ _ _, All2.nil⟩, fun j hj => by cases hj⟩
theorem OwnL.inl (E : Elem k P) (hk : 0 < k) {w : World} {base : Nat} {D : Nat → Prop} {ao : Option Addr} {cap : Nat} {xs : List α} (h : OwnL e k P w base D ao cap xs) : InL k P w (fun b => D b ∨ blk ao = some b) ao xs := by
  obtain ⟨⟨rows, h1, h2⟩, _⟩ := h
  exact ⟨rows, rowsAt_of_flatk hk (At.own h1) (h2.lenk E), fun _ b hb => .inr hb, h2.mono fun _ _ _ h => E.mono h fun _ h => .inl h⟩
theorem OwnL.lt {w : World} {base : Nat} {D : Nat → Prop} {ao : Option Addr} {cap : Nat} {xs : List α} (h : OwnL e k P w base D ao cap xs) (j : Nat) (hj : blk ao = some j) : base ≤ j ∧ j < w.heap.size := by
  obtain ⟨⟨rows, h1, _⟩, _⟩ := h
  exact h1.lt j (by rw [own_slice]; exact hj)
theorem OwnL.cap_le {w : World} {base : Nat} {D : Nat → Prop} {ao : Option Addr} {cap : Nat} {xs : List α} (h : OwnL e k P w base D ao cap xs) : xs.length ≤ cap ∧ cap ≤ 9223372036854775807 := by
  obtain ⟨⟨rows, h1, _⟩, _⟩ := h
  rcases h1.2 with ⟨e, _⟩ | ⟨g, cap', cur, hv, _, _, hnc, hcm, _⟩
  · obtain ⟨_, h0, hc⟩ := Value.slice.inj e
    omega
  · cases hv
    unfold maxLen at hcm
    exact ⟨hnc, by omega⟩
theorem OwnL.keeps (E : Elem k P) {X : Nat → Prop} {w w' : World} {base : Nat} {D : Nat → Prop} {ao : Option Addr} {cap : Nat} {xs : List α} (h : OwnL e k P w base D ao cap xs) (hk : Keeps X w w') (hD : ∀ b, D b → ¬ X b) (ha : ∀ j, blk ao = some j → ¬ X j) : OwnL e k P w' base D ao cap xs := by
  obtain ⟨⟨rows, h1, h2⟩, h3⟩ := h
  exact ⟨⟨rows, owns_keeps h1 hk (fun b hb => ha b (by rw [own_slice] at hb; exact hb)), h2.mono fun _ _ _ h => E.keeps h hk hD⟩, h3⟩
theorem OwnL.below (E : Elem k P) {w w' : World} {base : Nat} {D : Nat → Prop} {ao : Option Addr} {cap : Nat} {xs : List α} (h : OwnL e k P w base D ao cap xs) (hb : Below w.heap.size w w') : OwnL e k P w' base D ao cap xs := h.keeps E (Keeps.of_below (X := fun _ => False) hb) (fun _ _ h => h) (fun _ _ h => h)
theorem OwnL.grow (E : Elem k P) {w : World} {base base' : Nat} {D F : Nat → Prop} {ao : Option Addr} {cap : Nat} {xs : List α} (h : OwnL e k P w base D ao cap xs) (hbase : base' ≤ base) (hDF : ∀ b, D b → F b) (hF : ∀ j, blk ao = some j → ¬ F j) : OwnL e k P w base' F ao cap xs := by
  obtain ⟨⟨rows, h1, h2⟩, h3⟩ := h
  exact ⟨⟨rows, owns_mono h1 hbase, h2.mono fun _ _ _ h => E.mono h hDF⟩, hF⟩
/-- One element more. -/
theorem wp_own (E : Elem k P) (hk : 0 < k) {Pr : Program} {w : World} {o : Oper} {a : Act} {K : Act → World → Prop} {Q : Exit → Act → World → Prop} (s x : Operand) (t : TypeId)
    (ho : o.op = .call { callee := .builtin .append, args := #[s, x], argTypes := #[t, t] })
    (i : TypeInfo) (z : Value) (bytes : Nat) (ht : Pr.underlying t = some (.slice e)) (hi : Pr.info? e = some i) (hz : i.zero = some z) (hsize : i.size = k) (hby : i.bytes = bytes) (hzs : z.cells.size = k) (hbs : bytes ≤ 1000)
    (base : Nat) (D : Nat → Prop) (ao : Option Addr) (cap n : Nat) (xs : List α) (hn : n = xs.length) (hs : a.eval s = .slice ao n cap) (hown : OwnL e k P w base D ao cap xs)
    (cs : List Value) (y : α) (hy : P w D cs y) (g : Nat) (hx : a.eval x = .slice (some ⟨g, 0, none⟩) 1 1) (hat : At w (some ⟨g, 0, none⟩) cs)
    (hD : ∀ j, D j → j < w.heap.size) (hb : n ≤ 1000000000) (hbase : base ≤ w.heap.size)
    (h : ∀ ao' cap' w', OwnL e k P w' base D ao' cap' (xs ++ [y]) → Keeps (fun i => blk ao = some i) w w' → (∀ j, blk ao' = some j → blk ao = some j ∨ j = w.heap.size) → K (a.put o.dst (.slice ao' (n + 1) cap')) w') :
    o.wp Pr a w K Q := by
  subst hn
  obtain ⟨⟨rows, h1, h2⟩, h3⟩ := hown
  refine wp_append s x t t ho base e i z k bytes ht hi hz hsize hby hzs _ xs.length rows.flatten hs h1 _ 1 cs hx
    (hat.src ht (by rw [E.len hy, Nat.one_mul]) (E.one hy) hk) (by unfold maxLen; omega) (Nat.le_trans (Nat.mul_le_mul (show xs.length + 1 ≤ 1000000001 by omega) hbs) (by decide)) hbase ?_
  intro ao' cap' w' g1 g2 g3
  rw [own_slice] at g2 g3
  have hk' : Keeps (fun i => blk ao = some i) w w' := Keeps.of_grown' g2 fun _ h => h
  have hao : ∀ j, blk ao' = some j → blk ao = some j ∨ j = w.heap.size := fun j hj => by
    rcases g3 with h | h
    · exact .inl (by rw [← h]; exact hj)
    · rw [h] at hj
      simp at hj
      exact .inr hj.symm
  have hDX : ∀ b, D b → ¬ (blk ao = some b) := fun b hb hx => h3 b hx hb
  refine h ao' cap' w' ⟨⟨rows ++ [cs], ?_, ?_⟩, ?_⟩ hk' hao
  · rw [List.flatten_append, List.length_append]
    simpa using g1
  · exact (h2.mono fun _ _ _ h => E.keeps h hk' hDX).snoc (E.keeps hy hk' hDX)
  · intro j hj hd
    rcases hao j hj with h | h
    · exact h3 j h hd
    · have := hD j hd; omega
theorem app_own (E : Elem k P) (hk : 0 < k) {Pr : Program} {w : World} {ops : Array Oper} {rest : List Oper} {o : Oper} {a : Act} {Q : Exit → Act → World → Prop} (hgd : Region.wanted o (yielded ops a.tmps) = true) (s x : Operand) (t : TypeId)
    (ho : o.op = .call { callee := .builtin .append, args := #[s, x], argTypes := #[t, t] })
    (i : TypeInfo) (z : Value) (bytes : Nat) (ht : Pr.underlying t = some (.slice e)) (hi : Pr.info? e = some i) (hz : i.zero = some z) (hsize : i.size = k) (hby : i.bytes = bytes) (hzs : z.cells.size = k) (hbs : bytes ≤ 1000)
    (base : Nat) (D : Nat → Prop) (ao : Option Addr) (cap n : Nat) (xs : List α) (hn : n = xs.length) (hs : a.eval s = .slice ao n cap) (hown : OwnL e k P w base D ao cap xs)
    (cs : List Value) (y : α) (hy : P w D cs y) (g : Nat) (hx : a.eval x = .slice (some ⟨g, 0, none⟩) 1 1) (hat : At w (some ⟨g, 0, none⟩) cs)
    (hD : ∀ j, D j → j < w.heap.size) (hb : n ≤ 1000000000) (hbase : base ≤ w.heap.size)
    (h : ∀ ao' cap' w', OwnL e k P w' base D ao' cap' (xs ++ [y]) → Keeps (fun i => blk ao = some i) w w' → (∀ j, blk ao' = some j → blk ao = some j ∨ j = w.heap.size) → wpList Pr ops Q rest (a.put o.dst (.slice ao' (n + 1) cap')) w') :
    wpList Pr ops Q (o :: rest) a w :=
  wpList_go hgd fun _ hK => wp_own E hk s x t ho i z bytes ht hi hz hsize hby hzs hbs base D ao cap n xs hn hs hown cs y hy g hx hat hD hb hbase fun ao' cap' w' h1 h2 h3 => hK _ _ (h ao' cap' w' h1 h2 h3)
end
end Go.Proofs.Ytnhdefaagicejaa
