/- A drawn region in which the blocks of a set are written, and whose last operations write what they like: all that is taken is taken before these. No program in sight. -/
import Derived.Test.YtnhdefaagicejaaDoorKeeps
namespace Go.Proofs.YtnhdefaagicejaaDoor
set_option linter.unusedSimpArgs false
set_option linter.unusedVariables false
open Go.RowKit

section
variable {P : Program} {ops : Array Oper} {Q : Exit → Act → World → Prop}
def SeqK (P : Program) (ops : Array Oper) (Q : Exit → Act → World → Prop) (X : Nat → Prop) (lates : List Nat) (k : Nat) (listed : Array Bool) (a : Act) (w : World) : Prop :=
  wpAnyL P ops Q lates (fun w' => Keeps X w w') k listed a w
theorem seqk_start (X : Nat → Prop) (lates : List Nat) {id : Nat} {a : Act} {w : World} (hm : P.follows .mixedOrders = true) (h : SeqK P ops Q X lates ops.size (Array.replicate ops.size false) a w.drew) : (Code.region id ops true).wp P Q a w :=
  wp_region_any hm (wpAny_of_late _ _ _ _ h)
theorem seqk_take (i : Nat) {X : Nat → Prop} {lates : List Nat} {o : Oper} {v : Value} {k : Nat} {listed : Array Bool} {a : Act} {w : World} (hi : ops[i]? = some o) (hok : (takeOk ops listed i && waits ops lates i && !anyL lates listed && closedB ops listed) = true)
    (hQ : ∀ c a w, Q (.panic c) (a.put o.dst v) w → Q (.panic c) a w) (hw : Region.wanted o (yielded ops a.tmps) = true)
    (hy : ∀ w', Kept X w w' → (execOp a.eval o).run P w' = .ok (.value v) w')
    (h : SeqK P ops Q X lates k (listed.setIfInBounds i true) (a.put o.dst v) w) : SeqK P ops Q X lates (k + 1) listed a w := by
  simp only [takeOk, Bool.and_eq_true, Bool.not_eq_true'] at hok
  exact wpAnyL_first hi (Region.noSelect_spec hok.1.1.1.1.1) hok.1.1.2 hQ _ _ _ _ (Region.free_spec hi hok.1.1.1.1.2) (by simpa using hok.1.1.1.2) (closed_of hok.2) hok.1.2 (.inl ⟨hw, fun w' hw' => hy w' hw'⟩) (Keeps.refl _ _) h
theorem seqk_run (i : Nat) {X : Nat → Prop} {lates : List Nat} {o : Oper} {k : Nat} {listed : Array Bool} {a : Act} {w : World} (hi : ops[i]? = some o) (hr : Region.ready .any ops listed = [i]) (hw : Region.wanted o (yielded ops a.tmps) = true)
    (h : ∀ K : Act → World → Prop, (∀ a' w', (Keeps X w w' ∧ SeqK P ops Q X lates k (listed.setIfInBounds i true) a' w') → K a' w') → o.wp P a w K Q) : SeqK P ops Q X lates (k + 1) listed a w := by
  refine ⟨fun h0 => (by rw [hr] at h0; cases h0), fun j hj => ?_⟩
  obtain rfl : j = i := by rw [hr] at hj; simpa using hj
  unfold wpOp
  simp only [hi, hw, if_true]
  refine .inl (h _ fun a' w' ⟨hb, hs⟩ => ⟨.inr hb, wpAnyL_stronger (fun w'' h'' => hb.trans' h'') _ _ _ _ hs⟩)
theorem seqk_two (i j : Nat) {X : Nat → Prop} {lates : List Nat} {o p : Oper} {k : Nat} {listed : Array Bool} {a : Act} {w : World} (hi : ops[i]? = some o) (hj : ops[j]? = some p) (hr : Region.ready .any ops listed = [i, j]) (hwi : Region.wanted o (yielded ops a.tmps) = true) (hwj : Region.wanted p (yielded ops a.tmps) = true)
    (h : ∀ K : Act → World → Prop, (∀ a' w', (Keeps X w w' ∧ SeqK P ops Q X lates k (listed.setIfInBounds i true) a' w') → K a' w') → o.wp P a w K Q)
    (h' : ∀ K : Act → World → Prop, (∀ a' w', (Keeps X w w' ∧ SeqK P ops Q X lates k (listed.setIfInBounds j true) a' w') → K a' w') → p.wp P a w K Q) : SeqK P ops Q X lates (k + 1) listed a w := by
  refine ⟨fun h0 => (by rw [hr] at h0; cases h0), fun n hn => ?_⟩
  have hn' : n = i ∨ n = j := by rw [hr] at hn; simpa using hn
  rcases hn' with rfl | rfl
  · unfold wpOp
    simp only [hi, hwi, if_true]
    exact .inl (h _ fun a' w' ⟨hb, hs⟩ => ⟨.inr hb, wpAnyL_stronger (fun w'' h'' => hb.trans' h'') _ _ _ _ hs⟩)
  · unfold wpOp
    simp only [hj, hwj, if_true]
    exact .inl (h' _ fun a' w' ⟨hb, hs⟩ => ⟨.inr hb, wpAnyL_stronger (fun w'' h'' => hb.trans' h'') _ _ _ _ hs⟩)
theorem seqk_last (i : Nat) {X : Nat → Prop} {lates : List Nat} {o : Oper} {k : Nat} {listed : Array Bool} {a : Act} {w : World} (hi : ops[i]? = some o) (hr : Region.ready .any ops listed = [i]) (hl : anyL lates (listed.setIfInBounds i true) = true) (hw : Region.wanted o (yielded ops a.tmps) = true)
    (h : ∀ K : Act → World → Prop, (∀ a' w', wpAnyL P ops Q lates (fun _ => False) k (listed.setIfInBounds i true) a' w' → K a' w') → o.wp P a w K Q) : SeqK P ops Q X lates (k + 1) listed a w := by
  refine ⟨fun h0 => (by rw [hr] at h0; cases h0), fun j hj => ?_⟩
  obtain rfl : j = i := by rw [hr] at hj; simpa using hj
  unfold wpOp
  simp only [hi, hw, if_true]
  exact .inl (h _ fun a' w' hs => ⟨.inl hl, wpAnyL_stronger (fun _ h => h.elim) _ _ _ _ hs⟩)
end
end Go.Proofs.YtnhdefaagicejaaDoor
