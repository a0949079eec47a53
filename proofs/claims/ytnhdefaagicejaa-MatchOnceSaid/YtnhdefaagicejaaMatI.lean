/- Rows appended to rows of one's own; a law's rows of patterns and values. -/
import Derived.Test.YtnhdefaagicejaaMatH
import Derived.Test.YtnhdefaagicejaaLaw
namespace Go.Proofs.Ytnhdefaagicejaa
set_option linter.unusedSimpArgs false
set_option linter.unusedVariables false
open Go.ChangeShapes Go.WideShapes Go.ChangeAt Go.RowKit

theorem All2.app {α β : Type} {R : α → β → Prop} {l l2 : List α} {m m2 : List β} (h : All2 R l m) (h2 : All2 R l2 m2) : All2 R (l ++ l2) (m ++ m2) := by
  have hl := h.1
  refine ⟨by rw [List.length_append, List.length_append, h.1, h2.1], fun i a b ha hb => ?_⟩
  rcases Nat.lt_or_ge i l.length with hi | hi
  · rw [List.getElem?_append_left hi] at ha
    rw [List.getElem?_append_left (by omega)] at hb
    exact h.2 i a b ha hb
  · rw [List.getElem?_append_right hi] at ha
    rw [List.getElem?_append_right (by omega)] at hb
    rw [hl] at ha
    exact h2.2 _ a b ha hb
section
variable {α : Type} {k : Nat} {P : World → (Nat → Prop) → List Value → α → Prop} {e : TypeId}
/-- Many elements more. -/
theorem app_ownm (E : Elem k P) (hk : 0 < k) {Pr : Program} {w : World} {ops : Array Oper} {rest : List Oper} {o : Oper} {a : Act} {Q : Exit → Act → World → Prop} (hgd : Region.wanted o (yielded ops a.tmps) = true) (s x : Operand) (t : TypeId)
    (ho : o.op = .call { callee := .builtin .append, args := #[s, x], argTypes := #[t, t] })
    (i : TypeInfo) (z : Value) (bytes : Nat) (ht : Pr.underlying t = some (.slice e)) (hi : Pr.info? e = some i) (hz : i.zero = some z) (hsize : i.size = k) (hby : i.bytes = bytes) (hzs : z.cells.size = k) (hbs : bytes ≤ 1000)
    (base : Nat) (D : Nat → Prop) (ao : Option Addr) (cap n : Nat) (xs : List α) (hn : n = xs.length) (hs : a.eval s = .slice ao n cap) (hown : OwnL e k P w base D ao cap xs)
    (bo : Option Addr) (bcap m : Nat) (ys : List α) (hm : m = ys.length) (hx : a.eval x = .slice bo m bcap) (hys : InL k P w D bo ys)
    (hD : ∀ j, D j → j < w.heap.size) (hb : n + m ≤ 1000000000) (hbase : base ≤ w.heap.size)
    (h : ∀ ao' cap' w', OwnL e k P w' base D ao' cap' (xs ++ ys) → Keeps (fun i => blk ao = some i) w w' → (∀ j, blk ao' = some j → blk ao = some j ∨ j = w.heap.size) → wpList Pr ops Q rest (a.put o.dst (.slice ao' (n + m) cap')) w') :
    wpList Pr ops Q (o :: rest) a w := by
  subst hn hm
  obtain ⟨⟨rows, h1, h2⟩, h3⟩ := hown
  obtain ⟨rows2, g1, g2, g3⟩ := hys
  refine wpl_append hgd s x t t ho base e i z k bytes ht hi hz hsize hby hzs _ xs.length rows.flatten hs h1 _ ys.length rows2.flatten hx
    ((at_of_rowsk g1 (g3.lenk E)).src ht (by rw [flat_lenk k rows2 (g3.lenk E), g3.1]) (g3.onek E) hk) (by unfold maxLen; omega) (Nat.le_trans (Nat.mul_le_mul hb hbs) (by decide)) hbase ?_
  intro ao' cap' w' q1 q2 q3
  rw [own_slice] at q2 q3
  have hk' : Keeps (fun i => blk ao = some i) w w' := Keeps.of_grown' q2 fun _ h => h
  have hao : ∀ j, blk ao' = some j → blk ao = some j ∨ j = w.heap.size := fun j hj => by
    rcases q3 with h | h
    · exact .inl (by rw [← h]; exact hj)
    · rw [h] at hj
      simp at hj
      exact .inr hj.symm
  have hDX : ∀ b, D b → ¬ (blk ao = some b) := fun b hb hx => h3 b hx hb
  refine h ao' cap' w' ⟨⟨rows ++ rows2, ?_, ?_⟩, ?_⟩ hk' hao
  · rw [List.flatten_append, List.length_append]
    exact q1
  · exact (h2.mono fun _ _ _ h => E.keeps h hk' hDX).app (g3.mono fun _ _ _ h => E.keeps h hk' hDX)
  · intro j hj hd
    rcases hao j hj with h | h
    · exact h3 j h hd
    · have := hD j hd; omega
end
theorem vs_of_rows {W : World} {D : Nat → Prop} : ∀ rs : List (List Value), (∀ r ∈ rs, ∃ n pv, VIn W D n r pv) → ∃ N ks, All2 (fun r x => VIn W D N r x) rs ks := by
  intro rs
  induction rs with
  | nil => exact fun _ => ⟨0, [], All2.nil⟩
  | cons r rs ih =>
    intro h
    obtain ⟨N, ks, hk⟩ := ih fun r' hr' => h r' (by simp [hr'])
    obtain ⟨n, pv, hp⟩ := h r (by simp)
    refine ⟨max n N, pv :: ks, by simp [hk.1], fun i a b ha hb => ?_⟩
    cases i with
    | zero =>
      simp at ha hb
      rw [← ha, ← hb]
      exact hp.deep (Nat.le_max_left _ _)
    | succ i => exact (hk.2 i a b (by simpa using ha) (by simpa using hb)).deep (Nat.le_max_right _ _)
/-- An empty row of one's own that is there. -/
theorem OwnL.lit {α : Type} {e : TypeId} {k : Nat} {P : World → (Nat → Prop) → List Value → α → Prop} (w : World) (D : Nat → Prop) (hD : ∀ j, D j → j < w.heap.size) : OwnL e k P (w.alloc (.cells #[] e)) w.heap.size D (some ⟨w.heap.size, 0, none⟩) 0 [] :=
  ⟨⟨[], World.ownsRow_lit w #[] 0 (Nat.le_refl _) (by decide) (by simp), All2.nil⟩, fun j hj hd => by
    have h1 : w.heap.size = j := by simpa [blk] using hj
    have := hD j hd
    omega⟩
section
variable {H : Type} {enc : TypeId × Value → H} {P : Program}
/-- A law's row of values with depth, opened. -/
theorem open_vs {w : World} {r : Reach} {b0 : Nat} {t tv ti ts tk : TypeId} {f0 f1 f2 f3 : Field} {v : Value} {d : DataW H} {ps : List MemPlace} (ht : P.underlying t = some (.slice tv)) (hs : P.underlying tv = some (.struct #[f0, f1, f2, f3])) (hf : (f0.type, f0.offset, f1.type, f1.offset, f2.type, f2.offset, f3.type, f3.offset) = (ti, 0, ti, 1, ts, 2, tk, 3))
    (hi : P.underlying ti = some (.int .i64)) (hst : P.underlying ts = some .string) (hk : P.underlying tk = some (.slice tv)) (hc4 : P.cellsOf tv = 4) (hci : P.cellsOf ti = 1) (hcs : P.cellsOf ts = 1) (hck : P.cellsOf tk = 1) (hval : Value.okWide P w r b0 t v) (h : DataW.Trod enc P w 0 (fun _ => true) true t v d ps) :
    ∃ (ao : Option Addr) (cap N : Nat) (xs : List PV), v = .slice ao xs.length cap ∧ xs.length ≤ 9223372036854775807 ∧ VsIn w (fun b => b < w.heap.size) N ao xs := by
  obtain ⟨ao, cap, rows, rfl, hc, hm, hrows, hel⟩ := open_rows ht hc4 (by decide) hval h
  obtain ⟨N, ls, hls⟩ := vs_of_rows (D := fun _ => True) rows fun r hr => by
    obtain ⟨_, n, y, hy⟩ := hel r hr
    obtain ⟨pv, hpv⟩ := open_pv hs hf hi hst hk hc4 hci hcs hck n r y hy
    exact ⟨n, pv, hpv⟩
  have hrl : rows.length = ls.length := hls.1
  have hv : InL 4 (VP N) w (fun _ => True) ao ls := ⟨rows, hrows, fun _ _ _ => trivial, hls⟩
  exact ⟨ao, cap, N, ls, by rw [hrl], by omega, (hv.there (elemV N) (by decide)).mono (elemV N) (fun b hb => hb.2)⟩
end
end Go.Proofs.Ytnhdefaagicejaa
