/- A row of bytes made with room to spare, and an append that fits into it. -/
import Derived.Test.YtmnaomdnjaiggaaDoorOps
namespace Go.Proofs.YtmnaomdnjaiggaaDoor
open Go.RowKit

/-- A whole row of bytes in a block. -/
def Row8 (w : World) (g : Nat) (M : List UInt8) : Prop := w.heap[g]? = some (.cells (bytesV M).toArray 5 (0, 0))

theorem Row8.at {w : World} {g : Nat} {M : List UInt8} (h : Row8 w g M) : At w (some ⟨g, 0, none⟩) (bytesV M) := by
  refine .inr ⟨g, 0, rfl, fun j v hj => ?_⟩
  rw [Nat.zero_add, cell_of_row _ g j _ _ (0, 0) h]
  simpa using hj
theorem Row8.lt {w : World} {g : Nat} {M : List UInt8} (h : Row8 w g M) : g < w.heap.size := (Array.getElem?_eq_some_iff.1 h).1
theorem Row8.below {w w' : World} {g : Nat} {M : List UInt8} (h : Row8 w g M) (hb : Below w.heap.size w w') : Row8 w' g M := (hb.block g h.lt).trans h

/-- 'make([]byte, 0, n)'. -/
theorem op_make0 {w : World} {ops : Array Oper} {rest : List Oper} {o : Oper} {a : Act} {Q : Exit → Act → World → Prop} (hgd : Region.wanted o (yielded ops a.tmps) = true) (x y : Operand) (ho : o.op = .makeSlice 22 x y) (n : Nat) (hx : a.eval x = .int .i64 0) (hy : a.eval y = .int .i64 (n : Int)) (hn : n ≤ 70368744177664)
    (h : ∀ w', Row8 w' w.heap.size (List.replicate n 0) → Below w.heap.size w w' → w'.heap.size = w.heap.size + 1 → wpList Tryd.prog ops Q rest (a.put o.dst (.slice (some ⟨w.heap.size, 0, none⟩) 0 n)) w') : wpList Tryd.prog ops Q (o :: rest) a w := by
  obtain ⟨i0, hi, hz0, hz1, hz2⟩ := info_parts infoU8
  refine wpList_go hgd fun K hK => ?_
  have hr := run_make (P := Tryd.prog) w 22 5 i0 (.int .u8 0) Tryd.underlying22 hi hz0 .i64 .i64 0 n (by omega) (by omega) (by rw [hz2]; omega) (by omega)
  have e : (madeCells (Value.int .u8 0).cells (n * 1)) = (bytesV (List.replicate n 0)).toArray := by
    apply Array.ext'
    rw [Nat.mul_one, show (Value.int .u8 0).cells = #[Value.int .u8 0] from rfl, toList_madeCells_one]
    simp [bytesV, u8v]
  simp only [Int.toNat_natCast, hz1, e] at hr
  unfold Oper.wp execOp
  simp only [ho, hx, hy, hr, Sem.run_bind, Sem.run_pure, Result.andThen_ok]
  exact hK _ _ (h _ (heap_alloc_new w _) ((Below.refl _ w).alloc (Nat.le_refl _) _) (by simp))

/-- An append that fits. -/
theorem app_room {w : World} {ops : Array Oper} {rest : List Oper} {o : Oper} {a : Act} {Q : Exit → Act → World → Prop} (hgd : Region.wanted o (yielded ops a.tmps) = true) (s x : Operand)
    (ho : o.op = .call { callee := .builtin .append, args := #[s, x], argTypes := #[22, 22] })
    (g n cap : Nat) (M : List UInt8) (hs : a.eval s = .slice (some ⟨g, 0, none⟩) n cap) (hrow : Row8 w g M) (hc : M.length = cap)
    (bo : Option Addr) (m c : Nat) (l' : List UInt8) (hx : a.eval x = .slice bo m c) (hat : At w bo (bytesV l')) (hm : m = l'.length) (hfit : n + m ≤ cap)
    (h : ∀ w', Row8 w' g (M.take n ++ l' ++ M.drop (n + m)) → w.grownBy w' (some g) → w'.heap.size = w.heap.size → wpList Tryd.prog ops Q rest (a.put o.dst (.slice (some ⟨g, 0, none⟩) (n + m) cap)) w') : wpList Tryd.prog ops Q (o :: rest) a w := by
  obtain ⟨i0, hi, hz0, hz1, hz2⟩ := info_parts infoU8
  refine wpList_go hgd fun K hK => ?_
  have hsrc := src_bytes (cap := c) hat hm
  have hnl : (bytesV l').length = m := by rw [bytesV_length, hm]
  have hst := run_storeCells_at Tryd.prog g n 5 (bytesV l') 0 (bytesV M).toArray w hrow (by simp; omega) hsrc.one
  simp only [Nat.add_zero, hnl] at hst
  have hr : (Builtin.append_ #[22, 22] o.type #[.slice (some ⟨g, 0, none⟩) n cap, .slice bo m c]).run Tryd.prog w = .ok (.slice (some ⟨g, 0, none⟩) (n + m) cap) (w.setRow g ((bytesV M).take n ++ bytesV l' ++ (bytesV M).drop (n + m)).toArray) := by
    have hk := Tryd.underlying22
    simp [Builtin.append_, run_underlying hk, sizeOf, typeInfo, hi, hz1, hsrc.len, hfit, hsrc.cells, Addr.add_lit, hst]
  unfold Oper.wp execOp
  simp only [ho, resolve, invoke, builtin, Sem.run_bind, Sem.run_pure, Result.andThen_ok, List.map_toArray, List.map_cons, List.map_nil, hs, hx, hr]
  refine hK _ _ (h _ ?_ ⟨rfl, rfl, rfl, by simp, fun k _ hk => setRow_other w g k _ (fun e => hk (by rw [e]))⟩ (by simp))
  have := setRow_heap w g _ ((bytesV M).take n ++ bytesV l' ++ (bytesV M).drop (n + m)).toArray _ _ hrow
  rw [Row8, this]
  simp [bytesV, List.map_take, List.map_drop]

end Go.Proofs.YtmnaomdnjaiggaaDoor
