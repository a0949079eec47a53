/- 'append(b, make([]byte, n)...)' onto a row of bytes of the call's own. -/
import Derived.Test.YtpeehagaiofobaaDoorOps
import Derived.Lib.AppendZerosOnto
namespace Go.Proofs.YtpeehagaiofobaaDoor
open Go.RowKit

theorem zeroCells_u8 (n : Nat) : (Builtin.zeroCells (Value.int .u8 0).cells n).toList = bytesV (List.replicate n 0) := by
  rw [show (Value.int .u8 0).cells = #[Value.int .u8 0] from rfl]
  apply List.ext_getElem?
  intro i
  simp only [Builtin.zeroCells, bytesV, u8v, List.map_replicate, Array.toList_map, Array.toList_range, List.getElem?_map, List.getElem?_replicate, List.size_toArray, List.length_cons, List.length_nil, Nat.zero_add, Nat.mul_one, Nat.mod_one]
  by_cases h : i < n
  · rw [if_pos h, List.getElem?_range h]; rfl
  · rw [if_neg h, List.getElem?_eq_none (by simp; omega)]; rfl

theorem wp_zeros {w : World} {o : Oper} {a : Act} {K : Act → World → Prop} {Q : Exit → Act → World → Prop} (s x : Operand)
    (ho : o.op = .call { callee := .builtin .append, args := #[s, x], argTypes := #[40, 3] })
    (base : Nat) (ao : Option Addr) (cap : Nat) (l : List UInt8) (k n : Nat) (hs : a.eval s = .slice ao k cap) (hown : w.ownsRow base 5 1 (.slice ao k cap) k (bytesV l))
    (hx : a.eval x = .int .i64 (n : Int)) (hb : k + n ≤ 70368744177664) (hbase : base ≤ w.heap.size)
    (h : ∀ ao' cap' w', Appended w base (blk ao) (l ++ List.replicate n 0) ao' cap' w' → K (a.put o.dst (.slice ao' (k + n) cap')) w') : o.wp Tryd.prog a w K Q := by
  obtain ⟨i0, hi, hz0, hz1, hz2⟩ := info_parts infoU8
  have hk : k = l.length := by simpa using hown.1.symm
  have hlen : k + n = (l ++ List.replicate n 0).length := by simp [hk]
  have hw : IntKind.i64.wrap (n : Int) = n := by rw [IntKind.wrap_i64]; omega
  have hw0 : IntKind.i64.wrap 0 = 0 := by rw [IntKind.wrap_i64]; decide
  have ht := Tryd.underlying40
  have hti := Tryd.underlying3
  have hneg : ¬ ((n : Int) < 0) := by omega
  have hsz : (Value.int IntKind.u8 0).cells.size = 1 := rfl
  by_cases hn0 : n = 0
  · subst hn0
    have hkc : k ≤ cap := by
      obtain ⟨_, _, e, h⟩ := owns_form hown
      cases e; exact h
    have hr : (Builtin.append_ #[40, 3] o.type #[.slice ao k cap, .int .i64 ((0 : Nat) : Int)]).run Tryd.prog w = .ok (.slice ao k cap) w := by
      cases ao <;> simp [Builtin.append_, run_underlying ht, run_underlying hti, sizeOf, typeInfo, hi, hz2, asInt, asIntOf, hw0, hkc, storeCells]
    unfold Oper.wp execOp
    simp only [ho, resolve, invoke, builtin, Sem.run_bind, Sem.run_pure, Result.andThen_ok, List.map_toArray, List.map_cons, List.map_nil, hs, hx, hr]
    refine h ao cap w ⟨?_, ⟨rfl, rfl, rfl, Nat.le_refl _, fun _ _ _ => rfl⟩, .inl rfl⟩
    rw [List.replicate_zero, List.append_nil, ← hk]
    exact hown
  have hnp : 0 < n := by omega
  by_cases hroom : k + n ≤ cap
  · -- there is room
    rcases hown.2 with ⟨hv, hx0⟩ | ⟨g, cap', cur, hv, hbg, hg, hnc, hcm, hcs, htake⟩
    · cases hv
      omega
    · cases hv
      have hone : ∀ u ∈ bytesV (List.replicate n 0), u.oneCell' = true := bytesV_one _
      have hfit : k + (bytesV (List.replicate n 0)).length ≤ cur.size := by simp; omega
      have hst := run_storeCells_at Tryd.prog g k 5 (bytesV (List.replicate n 0)) 0 cur w hg (by simpa using hfit) hone
      simp only [Nat.add_zero] at hst
      have h48i : ¬ (281474976710656 < (n : Int)) := by omega
      have hzc := zeroCells_u8 n
      have hr : (Builtin.append_ #[40, 3] o.type #[.slice (some ⟨g, 0, none⟩) k cap, .int .i64 (n : Int)]).run Tryd.prog w = .ok (.slice (some ⟨g, 0, none⟩) (k + n) cap) (w.setRow g (cur.toList.take k ++ bytesV (List.replicate n 0) ++ cur.toList.drop (k + (bytesV (List.replicate n 0)).length)).toArray) := by
        simp [Builtin.append_, run_underlying ht, run_underlying hti, sizeOf, typeInfo, zeroValue, hi, hz0, hz1, hz2, asInt, asIntOf, hw, hneg, h48i, hroom, hn0, Addr.add_lit, hzc, hst]
      unfold Oper.wp execOp
      simp only [ho, resolve, invoke, builtin, Sem.run_bind, Sem.run_pure, Result.andThen_ok, List.map_toArray, List.map_cons, List.map_nil, hs, hx, hr]
      have hg2 := setRow_heap w g cur (cur.toList.take k ++ bytesV (List.replicate n 0) ++ cur.toList.drop (k + (bytesV (List.replicate n 0)).length)).toArray 5 _ hg
      refine h _ cap _ ⟨⟨by simp, .inr ⟨g, cap, _, rfl, hbg, hg2, by rw [← hlen]; exact hroom, hcm, ?_, ?_⟩⟩, ⟨rfl, rfl, rfl, by simp, fun j _ hj => setRow_other w g j _ (fun e => hj (by simp [blk, e]))⟩, .inl rfl⟩
      · simp only [List.size_toArray, List.length_append, List.length_take, List.length_drop, Array.length_toList, bytesV_length, List.length_replicate]
        omega
      · rw [Nat.mul_one] at htake
        rw [htake, ← bytesV_append, Nat.mul_one]
        exact List.take_left' (by simp)
  · -- a new row
    have hold : (Builtin.firstCells i0.size k (.slice ao k cap)).run Tryd.prog w.drew = .ok (bytesV l).toArray w.drew := by
      rw [hz1]
      rcases hown.2 with ⟨hv, hx0⟩ | ⟨g, cap', cur, hv, hbg, hg, hnc, hcm, hcs, htake⟩
      · cases hv
        obtain rfl : l = [] := List.eq_nil_of_length_eq_zero hk.symm
        simp [Builtin.firstCells]
      · cases hv
        refine run_firstCells_some w.drew 1 k ⟨g, 0, none⟩ k cap (bytesV l) (by simp [hk]) (fun j u hj => ?_)
        have := hown.cells (g := g) rfl j u hj
        simpa using this
    have hr := Lib.run_append_grow_zeros (P := Tryd.prog) w 40 3 o.type 5 i0 (.int .u8 0) .i64 .i64 ht hti hi hz0 ao k cap (bytesV l) hold n hnp (by omega) (by omega) (by omega) (by rw [hz2]; omega) (growslice_fits (by omega) (by rw [hz2]; omega))
    have hge := grownCap_ge w (k + n) cap 5
    have hcm := grownCap_le_maxLen w (k + n) cap 5 (by unfold maxLen; omega)
    unfold Oper.wp execOp
    simp only [ho, resolve, invoke, builtin, Sem.run_bind, Sem.run_pure, Result.andThen_ok, List.map_toArray, List.map_cons, List.map_nil, hs, hx, hr]
    refine h _ _ _ ⟨⟨by simp, .inr ⟨w.heap.size, _, _, rfl, hbase, heap_alloc_new w.drew _, by rw [← hlen]; exact hge, hcm, ?_, ?_⟩⟩, ⟨rfl, rfl, rfl, by simp, fun k hk _ => Below.heap_alloc w.drew _ k hk⟩, .inr fun g hg => by cases hg; exact Nat.le_refl _⟩
    · rw [Array.size_append, Array.size_append, List.size_toArray, size_zeroCells, size_zeroCells, hsz, bytesV_length]
      omega
    · rw [Array.toList_append, Array.toList_append, zeroCells_u8, ← hlen, Nat.mul_one]
      have e : bytesV l ++ bytesV (List.replicate n 0) = bytesV (l ++ List.replicate n 0) := by rw [bytesV_append]
      rw [e]
      exact List.take_left' (by simp [hk])

theorem app_zerosO {w : World} {ops : Array Oper} {rest : List Oper} {o : Oper} {a : Act} {Q : Exit → Act → World → Prop} (hgd : Region.wanted o (yielded ops a.tmps) = true) (s x : Operand)
    (ho : o.op = .call { callee := .builtin .append, args := #[s, x], argTypes := #[40, 3] })
    (base : Nat) (ao : Option Addr) (cap : Nat) (l : List UInt8) (k n : Nat) (hs : a.eval s = .slice ao k cap) (hown : w.ownsRow base 5 1 (.slice ao k cap) k (bytesV l))
    (hx : a.eval x = .int .i64 (n : Int)) (hb : k + n ≤ 70368744177664) (hbase : base ≤ w.heap.size)
    (h : ∀ ao' cap' w', Appended w base (blk ao) (l ++ List.replicate n 0) ao' cap' w' → wpList Tryd.prog ops Q rest (a.put o.dst (.slice ao' (k + n) cap')) w') : wpList Tryd.prog ops Q (o :: rest) a w :=
  wpList_go hgd fun _ hK => wp_zeros s x ho base ao cap l k n hs hown hx hb hbase fun ao' cap' w' h' => hK _ _ (h ao' cap' w' h')

end Go.Proofs.YtpeehagaiofobaaDoor
