/- An append onto an empty slice literal only grows the world. No program in sight. -/
import Derived.Test.YtnhdefaagicejaaDoorKeeps
import Derived.Test.YtnhdefaagicejaaDoorOps2
import Derived.Deep.AppendSrc
namespace Go.Proofs.YtnhdefaagicejaaDoor
set_option linter.unusedSimpArgs false
set_option linter.unusedVariables false
open Go.RowKit

/-- What an append onto an empty literal leaves. -/
def App0 (w : World) (n : Nat) (news : List Value) (v : Value) (w' : World) : Prop :=
  ∃ b cap, v = .slice (some ⟨b, 0, none⟩) n cap ∧ n ≤ cap ∧ cap ≤ maxLen ∧ At w' (some ⟨b, 0, none⟩) news ∧ Below w.heap.size w w' ∧ (news ≠ [] → w.heap.size ≤ b)
theorem wp_app0 {P : Program} {w : World} {o : Oper} {a : Act} {K : Act → World → Prop} {Q : Exit → Act → World → Prop} (s x : Operand) (t tx : TypeId)
    (ho : o.op = .call { callee := .builtin .append, args := #[s, x], argTypes := #[t, tx] })
    (e : TypeId) (i : TypeInfo) (z : Value) (bytes : Nat) (ht : P.underlying t = some (.slice e)) (hi : P.info? e = some i) (hz : i.zero = some z)
    (hsize : i.size = 1) (hby : i.bytes = bytes) (hzs : z.cells.size = 1)
    (g : Nat) (hs : a.eval s = .slice (some ⟨g, 0, none⟩) 0 0)
    (xv : Value) (m : Nat) (news : List Value) (hx : a.eval x = xv) (hsrc : Src P 1 tx xv m news w)
    (h63 : m ≤ maxLen) (hbytes : m * bytes ≤ 140737488355328)
    (h : ∀ v w', App0 w m news v w' → K (a.put o.dst v) w') : o.wp P a w K Q := by
  have hnl := hsrc.newsLen
  rw [Nat.mul_one] at hnl
  have hsrc' : Src P i.size tx xv m news w := by rw [hsize]; exact hsrc
  have hg0 : (⟨g, 0, none⟩ : Addr) = ⟨g, 0, none⟩ := rfl
  rcases Nat.eq_zero_or_pos m with rfl | hm
  · obtain rfl : news = [] := List.eq_nil_of_length_eq_zero hnl
    have hr := run_append_room_src w t tx o.type e i ht hi g 0 0 0 xv 0 [] hsrc' (by omega) (fun j hj => by simp at hj) (fun j hj => by simp at hj)
    unfold Oper.wp execOp
    simp only [ho, resolve, invoke, builtin, Sem.run_bind, Sem.run_pure, Result.andThen_ok, List.map_toArray, List.map_cons, List.map_nil, hs, hx, hr]
    exact h _ _ ⟨g, 0, rfl, Nat.le_refl _, by decide, At.nil _ _, Below.refl _ _, fun hne => absurd rfl hne⟩
  · have hold : (Builtin.firstCells i.size 0 (.slice (some ⟨g, 0, none⟩) 0 0)).run P w.drew = .ok (#[] : Array Value) w.drew := by
      rw [hsize]
      exact run_firstCells_some w.drew 1 0 ⟨g, 0, none⟩ 0 0 [] (by simp) (fun j u hj => by simp at hj)
    have hnc : Builtin.nextslicecap (0 + m) 0 * i.bytes ≤ 281474976710656 := growslice_fits (by omega) (by rw [hby, Nat.zero_add]; exact hbytes)
    have hr := run_append_grow_src w t tx o.type e i z ht hi hz (some ⟨g, 0, none⟩) 0 0 [] hold xv m news hsrc' (by omega) (by unfold maxLen at h63; omega) hnc
    unfold Oper.wp execOp
    simp only [ho, resolve, invoke, builtin, Sem.run_bind, Sem.run_pure, Result.andThen_ok, List.map_toArray, List.map_cons, List.map_nil, hs, hx, hr]
    have hge := grownCap_ge w (0 + m) 0 e
    have hcm := grownCap_le_maxLen w (0 + m) 0 e (by omega)
    generalize grownCap w (0 + m) 0 e = gc at *
    refine h _ _ ⟨w.heap.size, gc, by rw [Nat.zero_add], by omega, hcm, .inr ⟨w.heap.size, 0, rfl, fun j v hj => ?_⟩, ((Below.refl _ w).drew).alloc (by simp) _, fun _ => Nat.le_refl _⟩
    have hjl : j < news.length := (List.getElem?_eq_some_iff.1 hj).1
    have hrow : (w.drew.alloc (.cells (([] ++ news).toArray ++ Builtin.zeroCells z.cells (gc - (0 + m))) e)).heap[w.heap.size]? = _ := heap_alloc_new w.drew _
    simp only [Nat.zero_add] at hrow ⊢
    rw [cell_of_row _ _ j _ _ (0, 0) hrow, Array.getElem?_append_left (by simpa using hjl), List.getElem?_toArray, List.nil_append]
    exact hj
end Go.Proofs.YtnhdefaagicejaaDoor
