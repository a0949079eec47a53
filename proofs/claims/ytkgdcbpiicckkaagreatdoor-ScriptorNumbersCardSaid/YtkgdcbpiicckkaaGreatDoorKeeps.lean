/- What stays of a world: all blocks but those of a set; and regions that draw their order in which such blocks are written. No program in sight. -/
import Derived.Test.YtkgdcbpiicckkaaGreatDoorReg
namespace Go.Proofs.YtkgdcbpiicckkaaGreatDoor
set_option linter.unusedSimpArgs false
set_option linter.unusedVariables false
open Go.RowKit

/-- All that was there is as it was, but for the blocks of X. -/
structure Keeps (X : Nat → Prop) (w w' : World) : Prop where
  os : w'.os = w.os
  tape : w'.tape = w.tape
  output : w'.output = w.output
  size : w.heap.size ≤ w'.heap.size
  block : ∀ k, k < w.heap.size → ¬ X k → w'.heap[k]? = w.heap[k]?

theorem Keeps.refl (X : Nat → Prop) (w : World) : Keeps X w w := ⟨rfl, rfl, rfl, Nat.le_refl _, fun _ _ _ => rfl⟩
theorem Keeps.trans {X Y : Nat → Prop} {a b c : World} (h : Keeps X a b) (k : Keeps Y b c) (hY : ∀ i, i < a.heap.size → Y i → X i) : Keeps X a c :=
  ⟨k.os.trans h.os, k.tape.trans h.tape, k.output.trans h.output, Nat.le_trans h.size k.size, fun i hi hx => (k.block i (Nat.lt_of_lt_of_le hi h.size) fun hy => hx (hY i hi hy)).trans (h.block i hi hx)⟩
theorem Keeps.trans' {X : Nat → Prop} {a b c : World} (h : Keeps X a b) (k : Keeps X b c) : Keeps X a c := h.trans k fun _ _ h => h
theorem Keeps.mono {X Y : Nat → Prop} {a b : World} (h : Keeps X a b) (hY : ∀ i, i < a.heap.size → X i → Y i) : Keeps Y a b := ⟨h.os, h.tape, h.output, h.size, fun i hi hx => h.block i hi fun hy => hx (hY i hi hy)⟩
theorem Keeps.of_below {X : Nat → Prop} {w w' : World} (h : Below w.heap.size w w') : Keeps X w w' := ⟨h.os, h.tape, h.output, h.size, fun i hi _ => h.block i hi⟩
theorem Keeps.of_grown {X : Nat → Prop} {w w' : World} {g : Nat} (h : w.grownBy w' (some g)) (hg : X g) : Keeps X w w' := ⟨h.os, h.tape, h.output, h.size, fun i hi hx => h.block i hi (by rintro ⟨⟩; exact hx hg)⟩
theorem Keeps.of_grown' {X : Nat → Prop} {w w' : World} {o : Option Nat} (h : w.grownBy w' o) (hg : ∀ g, o = some g → X g) : Keeps X w w' := ⟨h.os, h.tape, h.output, h.size, fun i hi hx => h.block i hi (by rintro rfl; exact hx (hg i rfl))⟩
theorem Keeps.below {X : Nat → Prop} {w w' : World} {B : Nat} (h : Keeps X w w') (hX : ∀ i, i < B → ¬ X i) (hB : B ≤ w.heap.size) : Below B w w' := ⟨h.os, h.tape, h.output, h.size, fun i hi => h.block i (by omega) (hX i hi)⟩
theorem Keeps.toBelow {w w' : World} (h : Keeps (fun _ => False) w w') : Below w.heap.size w w' := h.below (fun _ _ h => h) (Nat.le_refl _)
/-- What was kept since a block did not yet exist. -/
theorem Keeps.old {X : Nat → Prop} {a b : World} (h : Keeps X a b) (hX : ∀ i, X i → a.heap.size ≤ i) : Below a.heap.size a b := h.below (fun i hi hx => by have := hX i hx; omega) (Nat.le_refl _)
theorem Keeps.drew (X : Nat → Prop) (w : World) : Keeps X w w.drew := Keeps.of_below ((Below.refl _ w).drew)
theorem Keeps.alloc (X : Nat → Prop) (w : World) (o : Obj) : Keeps X w (w.alloc o) := Keeps.of_below ((Below.refl _ w).alloc (Nat.le_refl _) o)

theorem At.keeps {X : Nat → Prop} {w w' : World} {ao : Option Addr} {xs : List Value} (h : At w ao xs) (hk : Keeps X w w') (hX : ∀ b, blk ao = some b → xs ≠ [] → ¬ X b) : At w' ao xs := by
  by_cases hx : xs = []
  · rw [hx]; exact At.nil _ _
  · exact h.keep fun b hb hlt => hk.block b hlt (hX b hb hx)
theorem RowsAt.keeps {X : Nat → Prop} {w w' : World} {ao : Option Addr} {k : Nat} {rows : List (List Value)} (h : RowsAt w ao k rows) (hk : Keeps X w w') (hX : ∀ b, blk ao = some b → rows ≠ [] → ¬ X b) : RowsAt w' ao k rows := by
  by_cases hx : rows = []
  · exact .inl hx
  · exact h.keep fun b hb hlt => hk.block b hlt (hX b hb hx)
theorem keeps_cell {X : Nat → Prop} {w w' : World} {a : Addr} {v : Value} (hk : Keeps X w w') (hX : ¬ X a.block) (h : w.cell? a = some v) : w'.cell? a = some v :=
  (World.cell?_of_block (hk.block a.block (World.block_lt_of_cell? (a := a) w h) hX)).trans h
theorem owns_keeps {X : Nat → Prop} {w w' : World} {base : Nat} {e : TypeId} {size : Nat} {v : Value} {n : Nat} {xs : List Value} (h : w.ownsRow base e size v n xs) (hk : Keeps X w w') (hX : ∀ b, v.ownBlock = some b → ¬ X b) : w'.ownsRow base e size v n xs :=
  owns_keep h fun b hb hlt => hk.block b hlt (hX b hb)

theorem setCell_row0 {w : World} {g : Nat} {cs : Array Value} {t : TypeId} {fr : Nat × Nat} (j : Nat) (v : Value) (h : w.heap[g]? = some (.cells cs t fr)) : (w.setCell ⟨g, j, none⟩ v).heap[g]? = some (.cells (cs.setIfInBounds j v) t fr) := by
  simp [World.setCell, Array.getElem?_modify, h]
theorem setCell_else0 (w : World) (g j : Nat) (v : Value) (k : Nat) (hk : k ≠ g) : (w.setCell ⟨g, j, none⟩ v).heap[k]? = w.heap[k]? := by
  simp [World.setCell, Array.getElem?_modify, Ne.symm hk]
theorem setCell_grown0 (w : World) (g j : Nat) (v : Value) : w.grownBy (w.setCell ⟨g, j, none⟩ v) (some g) :=
  ⟨by simp [World.setCell], by simp [World.setCell], by simp [World.setCell], by simp [World.setCell], fun k _ hne => setCell_else0 w g j v k (fun e => hne (by rw [e]))⟩

section
variable {P : Program} {ops : Array Oper} {Q : Exit → Act → World → Prop}
/-- A name that the walk does not look behind. -/
def Kept (X : Nat → Prop) (w w' : World) : Prop := Keeps X w w'
def SeqX (P : Program) (ops : Array Oper) (Q : Exit → Act → World → Prop) (X : Nat → Prop) (k : Nat) (listed : Array Bool) (a : Act) (w : World) : Prop :=
  wpAnyH P .any ops Q (fun w' => Keeps X w w') k listed a w
theorem seqx_start (X : Nat → Prop) {id : Nat} {a : Act} {w : World} (hm : P.follows .mixedOrders = true) (h : SeqX P ops Q X ops.size (Array.replicate ops.size false) a w.drew) : (Code.region id ops true).wp P Q a w :=
  wp_region_held hm h
theorem seqx_take (i : Nat) {X : Nat → Prop} {o : Oper} {v : Value} {k : Nat} {listed : Array Bool} {a : Act} {w : World} (hi : ops[i]? = some o) (hok : takeOk ops listed i = true)
    (hQ : ∀ c a w, Q (.panic c) (a.put o.dst v) w → Q (.panic c) a w) (hw : Region.wanted o (yielded ops a.tmps) = true)
    (hy : ∀ w', Kept X w w' → (execOp a.eval o).run P w' = .ok (.value v) w')
    (h : SeqX P ops Q X k (listed.setIfInBounds i true) (a.put o.dst v) w) : SeqX P ops Q X (k + 1) listed a w := by
  simp only [takeOk, Bool.and_eq_true] at hok
  exact wpAnyH_take hi hok.1.1 hok.1.2 hok.2 hQ (.inl ⟨hw, fun w' hw' => hy w' hw'⟩) (Keeps.refl _ _) h
theorem seqx_skip (i : Nat) {X : Nat → Prop} {o : Oper} {k : Nat} {listed : Array Bool} {a : Act} {w : World} (hi : ops[i]? = some o) (hok : takeOk ops listed i = true)
    (hQ : ∀ c a w, Q (.panic c) (a.put o.dst undef) w → Q (.panic c) a w) (hw : Region.wanted o (yielded ops a.tmps) = false)
    (h : SeqX P ops Q X k (listed.setIfInBounds i true) (a.put o.dst undef) w) : SeqX P ops Q X (k + 1) listed a w := by
  simp only [takeOk, Bool.and_eq_true] at hok
  exact wpAnyH_take hi hok.1.1 hok.1.2 hok.2 hQ (.inr ⟨hw, rfl⟩) (Keeps.refl _ _) h
/-- The one operation that may come up is carried out: all but X's blocks stays. -/
theorem seqx_run (i : Nat) {X : Nat → Prop} {o : Oper} {k : Nat} {listed : Array Bool} {a : Act} {w : World} (hi : ops[i]? = some o) (hr : Region.ready .any ops listed = [i]) (hw : Region.wanted o (yielded ops a.tmps) = true)
    (h : ∀ K : Act → World → Prop, (∀ a' w', (Keeps X w w' ∧ SeqX P ops Q X k (listed.setIfInBounds i true) a' w') → K a' w') → o.wp P a w K Q) : SeqX P ops Q X (k + 1) listed a w := by
  refine wpAnyH_all hr (by simp) fun j hj => ?_
  obtain rfl : j = i := by simpa using hj
  unfold wpOp
  simp only [hi, hw, if_true]
  refine .inl (h _ fun a' w' ⟨hb, hs⟩ => ⟨hb, wpAnyH_stronger (fun w'' h'' => hb.trans' h'') _ _ _ _ hs⟩)
/-- From here on fewer blocks are written. -/
theorem seqx_narrow (Y : Nat → Prop) {X : Nat → Prop} {listed : Array Bool} {a : Act} {w : World} {k : Nat} (hY : ∀ i, Y i → X i) (h : SeqX P ops Q Y k listed a w) : SeqX P ops Q X k listed a w :=
  wpAnyH_stronger (fun _ h => h.mono fun i _ hi => hY i hi) _ _ _ _ h
theorem seqx_done {X : Nat → Prop} {listed : Array Bool} {a : Act} {w : World} {k : Nat} (hr : Region.ready .any ops listed = []) (h : Q .normal a w) : SeqX P ops Q X k listed a w :=
  wpAnyH_done hr h k
end
end Go.Proofs.YtkgdcbpiicckkaaGreatDoor
