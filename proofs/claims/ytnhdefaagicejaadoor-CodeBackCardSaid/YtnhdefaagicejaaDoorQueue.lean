/- A queue of ints of the call's own: appended to behind, taken from in front. -/
import Derived.Test.YtnhdefaagicejaaDoorKeeps
import Derived.Test.YtnhdefaagicejaaDoorOps2
import Derived.Deep.AppendSrc
import Derived.Handy
namespace Go.Proofs.YtnhdefaagicejaaDoor
set_option linter.unusedSimpArgs false
set_option linter.unusedVariables false
open Go.RowKit

theorem infoInt : (Tryd.prog.info? 3).map (fun i => (i.zero, i.size, i.bytes)) = some (some (.int .i64 0), 1, 8) := by kernel_rfl
/-- The ints xs, in a row of the call's own; where they begin in it does not matter. -/
def QueueAt (w : World) (B : Nat) (ao : Option Addr) (cap : Nat) (xs : List Int) : Prop :=
  xs.length ≤ cap ∧ cap ≤ maxLen ∧ (∀ b, blk ao = some b → B ≤ b ∧ b < w.heap.size) ∧ (cap = 0 ∨ ∃ b o, ao = some ⟨b, o, none⟩ ∧ (∀ j, j < cap → (w.cell? ⟨b, o + j, none⟩).isSome = true ∧ w.frozen? ⟨b, o + j, none⟩ = false) ∧ ∀ j x, xs[j]? = some x → w.cell? ⟨b, o + j, none⟩ = some (.int .i64 x))
theorem QueueAt.nil (w : World) (B : Nat) : QueueAt w B none 0 [] := ⟨Nat.le_refl _, by decide, fun b hb => by (cases hb), .inl rfl⟩
theorem QueueAt.keeps {X : Nat → Prop} {w w' : World} {B : Nat} {ao : Option Addr} {cap : Nat} {xs : List Int} (h : QueueAt w B ao cap xs) (hk : Keeps X w w') (hX : ∀ b, blk ao = some b → ¬ X b) : QueueAt w' B ao cap xs := by
  obtain ⟨h1, h2, h3, h4⟩ := h
  refine ⟨h1, h2, fun b hb => ⟨(h3 b hb).1, Nat.lt_of_lt_of_le (h3 b hb).2 hk.size⟩, ?_⟩
  rcases h4 with h4 | ⟨b, o, rfl, h5, h6⟩
  · exact .inl h4
  · have e := hk.block b (h3 b rfl).2 (hX b rfl)
    exact .inr ⟨b, o, rfl, fun j hj => ⟨by rw [World.cell?_of_block (a := ⟨b, o + j, none⟩) e]; exact (h5 j hj).1, (World.frozen?_of_block (a := ⟨b, o + j, none⟩) e).trans (h5 j hj).2⟩, fun j x hx => (World.cell?_of_block (a := ⟨b, o + j, none⟩) e).trans (h6 j x hx)⟩
theorem QueueAt.below {w w' : World} {B : Nat} {ao : Option Addr} {cap : Nat} {xs : List Int} (h : QueueAt w B ao cap xs) (hb : Below w.heap.size w w') : QueueAt w' B ao cap xs := h.keeps (X := fun _ => False) (Keeps.of_below hb) (fun _ _ h => h)
theorem QueueAt.head {w : World} {B : Nat} {ao : Option Addr} {cap : Nat} {x : Int} {r : List Int} (h : QueueAt w B ao cap (x :: r)) : ∃ b o, ao = some ⟨b, o, none⟩ ∧ w.cell? ⟨b, o, none⟩ = some (.int .i64 x) := by
  obtain ⟨h1, _, _, h4⟩ := h
  rw [List.length_cons] at h1
  rcases h4 with h4 | ⟨b, o, rfl, _, h6⟩
  · omega
  · exact ⟨b, o, rfl, h6 0 x rfl⟩
theorem blk_tail (ao : Option Addr) (cap k : Nat) : blk (tailOf ao cap k) = blk ao := by
  unfold tailOf
  split
  · rfl
  · cases ao with
    | none => rfl
    | some a =>
      obtain ⟨b, o, s⟩ := a
      simp [blk, Addr.add]
      split <;> rfl
theorem QueueAt.tail {w : World} {B : Nat} {ao : Option Addr} {cap : Nat} {x : Int} {r : List Int} (h : QueueAt w B ao cap (x :: r)) : QueueAt w B (tailOf ao cap 1) (cap - 1) r := by
  obtain ⟨h1, h2, h3, h4⟩ := h
  rw [List.length_cons] at h1
  refine ⟨by omega, by omega, by rw [blk_tail]; exact h3, ?_⟩
  rcases h4 with h4 | ⟨b, o, rfl, h5, h6⟩
  · omega
  · by_cases hc : cap = 1
    · exact .inl (by omega)
    · refine .inr ⟨b, o + 1, by unfold tailOf; rw [if_neg hc]; rfl, fun j hj => ?_, fun j y hy => ?_⟩
      · rw [show o + 1 + j = o + (j + 1) by omega]
        exact h5 (j + 1) (by omega)
      · rw [show o + 1 + j = o + (j + 1) by omega]
        exact h6 (j + 1) y (by simpa using hy)
/-- An int more. -/
theorem wp_queue {w : World} {o : Oper} {a : Act} {K : Act → World → Prop} {Q : Exit → Act → World → Prop} (s x : Operand)
    (ho : o.op = .call { callee := .builtin .append, args := #[s, x], argTypes := #[22, 22] })
    (B : Nat) (ao : Option Addr) (cap n : Nat) (xs : List Int) (hn : n = xs.length) (hs : a.eval s = .slice ao n cap) (hq : QueueAt w B ao cap xs) (y : Int) (g : Nat) (hx : a.eval x = .slice (some ⟨g, 0, none⟩) 1 1) (hg : w.cell? ⟨g, 0, none⟩ = some (.int .i64 y))
    (hb : n ≤ 1000000000) (hB : B ≤ w.heap.size)
    (h : ∀ ao' cap' w', QueueAt w' B ao' cap' (xs ++ [y]) → Keeps (fun i => blk ao = some i) w w' → (∀ j, blk ao' = some j → blk ao = some j ∨ w.heap.size ≤ j) → K (a.put o.dst (.slice ao' (n + 1) cap')) w') :
    o.wp Tryd.prog a w K Q := by
  subst hn
  obtain ⟨i0, hi, hz0, hz1, hz2⟩ := info_parts infoInt
  obtain ⟨h1, h2, h3, h4⟩ := hq
  have hsrc : Src Tryd.prog i0.size 22 (.slice (some ⟨g, 0, none⟩) 1 1) 1 [.int .i64 y] w := by
    rw [hz1]
    refine Src.ofSlice w Tryd.underlying22 ⟨g, 0, none⟩ 1 1 [.int .i64 y] rfl (fun j u hj => ?_) (fun u hu => ?_)
    · cases j with
      | zero => cases hj; exact hg
      | succ j => simp at hj
    · obtain rfl : u = _ := List.mem_singleton.1 hu
      rfl
  rcases Nat.lt_or_ge xs.length cap with hlt | hge
  · rcases h4 with h4 | ⟨b, f, rfl, h5, h6⟩
    · omega
    · have hr := run_append_room_src w 22 22 o.type 3 i0 Tryd.underlying22 hi b f xs.length cap _ 1 [.int .i64 y] hsrc (by omega) (fun j hj => by
        obtain rfl : j = 0 := by simpa using hj
        rw [hz1]
        simpa using (h5 xs.length hlt).1) (fun j hj => by
        obtain rfl : j = 0 := by simpa using hj
        rw [hz1]
        simpa using (h5 xs.length hlt).2)
      rw [hz1, Nat.mul_one] at hr
      have e1 : w.setCells b (f + xs.length) [.int .i64 y] = w.setCell ⟨b, f + xs.length, none⟩ (.int .i64 y) := rfl
      rw [e1] at hr
      unfold Oper.wp execOp
      simp only [ho, resolve, invoke, builtin, Sem.run_bind, Sem.run_pure, Result.andThen_ok, List.map_toArray, List.map_cons, List.map_nil, hs, hx, hr]
      have hgr : w.grownBy (w.setCell ⟨b, f + xs.length, none⟩ (.int .i64 y)) (some b) := setCell_grown0 _ _ _ _
      have hk : Keeps (fun i => blk (some ⟨b, f, none⟩) = some i) w (w.setCell ⟨b, f + xs.length, none⟩ (.int .i64 y)) := Keeps.of_grown hgr rfl
      refine h _ _ _ ⟨by rw [List.length_append, List.length_singleton]; omega, h2, fun j hj => ⟨(h3 j hj).1, Nat.lt_of_lt_of_le (h3 j hj).2 hk.size⟩, .inr ⟨b, f, rfl, fun j hj => ?_, fun j z hz => ?_⟩⟩ hk (fun j hj => .inl hj)
      · by_cases he : j = xs.length
        · subst he
          refine ⟨?_, ?_⟩
          · obtain ⟨v0, hv0⟩ := Option.isSome_iff_exists.1 (h5 xs.length hlt).1
            rw [World.cell?_setCell_same _ _ _ hv0]
            rfl
          · rw [World.frozen?_setCell]
            exact (h5 xs.length hlt).2
        · rw [World.cell?_setCell_other _ _ _ _ (by intro hh; simp at hh; try omega), World.frozen?_setCell]
          exact h5 j hj
      · rcases Nat.lt_or_ge j xs.length with hj | hj
        · rw [List.getElem?_append_left hj] at hz
          rw [World.cell?_setCell_other _ _ _ _ (by intro hh; simp at hh; try omega)]
          exact h6 j z hz
        · rw [List.getElem?_append_right hj] at hz
          have hj0 : j - xs.length = 0 := by
            rcases Nat.eq_zero_or_pos (j - xs.length) with h | h
            · exact h
            · rw [List.getElem?_eq_none (by rw [List.length_singleton]; omega)] at hz; cases hz
          rw [hj0] at hz
          cases hz
          obtain rfl : j = xs.length := by omega
          obtain ⟨v0, hv0⟩ := Option.isSome_iff_exists.1 (h5 xs.length hlt).1
          rw [World.cell?_setCell_same _ _ _ hv0]
  · have hold : (Builtin.firstCells i0.size xs.length (.slice ao xs.length cap)).run Tryd.prog w.drew = .ok (xs.map (Value.int .i64)).toArray w.drew := by
      rw [hz1]
      rcases h4 with h4 | ⟨b, f, rfl, h5, h6⟩
      · have : xs = [] := List.eq_nil_of_length_eq_zero (by omega)
        subst this
        cases ao with
        | none => exact run_firstCells_none w.drew 1 0 0 cap
        | some ad => exact run_firstCells_some w.drew 1 0 ad 0 cap [] (by simp) (fun j u hj => by simp at hj)
      · refine run_firstCells_some w.drew 1 xs.length ⟨b, f, none⟩ xs.length cap _ (by simp) (fun j u hj => ?_)
        rw [List.getElem?_map] at hj
        obtain ⟨z, hz, rfl⟩ := Option.map_eq_some_iff.1 hj
        rw [Addr.add_lit]
        exact h6 j z hz
    have hnc : Builtin.nextslicecap (xs.length + 1) cap * i0.bytes ≤ 281474976710656 := growslice_fits (by omega) (by rw [hz2]; omega)
    have hr := run_append_grow_src w 22 22 o.type 3 i0 (.int .i64 0) Tryd.underlying22 hi hz0 ao xs.length cap (xs.map (Value.int .i64)) hold _ 1 [.int .i64 y] hsrc (by omega) (by omega) hnc
    unfold Oper.wp execOp
    simp only [ho, resolve, invoke, builtin, Sem.run_bind, Sem.run_pure, Result.andThen_ok, List.map_toArray, List.map_cons, List.map_nil, hs, hx, hr]
    have hge := grownCap_ge w (xs.length + 1) cap 3
    have hcm := grownCap_le_maxLen w (xs.length + 1) cap 3 (by unfold maxLen; omega)
    generalize grownCap w (xs.length + 1) cap 3 = gc at *
    generalize hcs : ((List.map (Value.int .i64) xs ++ [Value.int .i64 y]).toArray ++ Builtin.zeroCells (Value.int .i64 0).cells (gc - (xs.length + 1))) = cs
    have hsz : cs.size = gc := by
      rw [← hcs, Array.size_append, List.size_toArray, size_zeroCells, List.length_append, List.length_map]
      simp [Value.cells]
      omega
    have hrow : (w.drew.alloc (.cells cs 3)).heap[w.heap.size]? = some (.cells cs 3 (0, 0)) := heap_alloc_new w.drew _
    have hk : Keeps (fun i => blk ao = some i) w (w.drew.alloc (.cells cs 3)) := (Keeps.drew _ w).trans' (Keeps.alloc _ _ _)
    refine h (some ⟨w.heap.size, 0, none⟩) gc _ ⟨by rw [List.length_append, List.length_singleton]; exact hge, hcm, fun b hb => ?_, .inr ⟨w.heap.size, 0, rfl, fun j hj => ?_, fun j z hz => ?_⟩⟩ hk (fun j hj => by cases hj; exact .inr (Nat.le_refl _))
    · cases hb
      exact ⟨hB, by simp⟩
    · rw [Nat.zero_add]
      refine ⟨?_, frozen_of_row _ _ j _ _ hrow⟩
      rw [cell_of_row _ _ j _ _ (0, 0) hrow, Array.getElem?_eq_getElem (by omega)]
      rfl
    · rw [Nat.zero_add, cell_of_row _ _ j _ _ (0, 0) hrow, ← hcs]
      have hjl : j < (xs ++ [y]).length := (List.getElem?_eq_some_iff.1 hz).1
      rw [List.length_append, List.length_singleton] at hjl
      rw [Array.getElem?_append_left (by simp; omega), List.getElem?_toArray, show List.map (Value.int .i64) xs ++ [Value.int .i64 y] = (xs ++ [y]).map (Value.int .i64) by simp, List.getElem?_map, hz]
      rfl
end Go.Proofs.YtnhdefaagicejaaDoor
