/- A text to bytes: a row of the call's own. -/
import Derived.Test.YtkgdcbpiicckkaaGreatDoorOps
import Derived.Lib.ConvBytes
namespace Go.Proofs.YtkgdcbpiicckkaaGreatDoor
set_option linter.unusedSimpArgs false
set_option linter.unusedVariables false
open Go.RowKit

theorem bytesWorld_below (w : World) (e : TypeId) (s : ByteArray) : Below w.heap.size w (Lib.bytesWorld w e s) := by
  refine ⟨?_, ?_, ?_, ?_, fun k hk => Lib.bytesWorld_at_old w e s k hk⟩
  · simp [Lib.bytesWorld, World.freeze, World.alloc, World.drew, -World.alloc_eq, -World.drew_eq]
  · simp [Lib.bytesWorld, World.freeze, World.alloc, World.drew, -World.alloc_eq, -World.drew_eq]
  · simp [Lib.bytesWorld, World.freeze, World.alloc, World.drew, -World.alloc_eq, -World.drew_eq]
  · rw [Lib.bytesWorld_size]; omega
theorem bytesWorld_at (w : World) (e : TypeId) (l : List UInt8) : At (Lib.bytesWorld w e ⟨l.toArray⟩) (some ⟨w.heap.size, 0, none⟩) (bytesV l) := by
  refine .inr ⟨w.heap.size, 0, rfl, fun j v hj => ?_⟩
  have hjl : j < l.length := by
    rcases Nat.lt_or_ge j l.length with h | h
    · exact h
    · rw [List.getElem?_eq_none (by simpa using h)] at hj; cases hj
  rw [Nat.zero_add, Lib.bytesWorld_cell w e _ j (by simpa [ByteArray.size] using hjl)]
  rw [bytesV_get l j hjl] at hj
  cases hj
  simp [u8v, List.getD, hjl]
theorem run_conv_bytes (w : World) (l : List UInt8) : ∃ w' cap, (convert 9 24 (.string ⟨l.toArray⟩)).run Tryz.prog w = .ok (.slice (some ⟨w.heap.size, 0, none⟩) l.length cap) w' ∧ At w' (some ⟨w.heap.size, 0, none⟩) (bytesV l) ∧ Below w.heap.size w w' ∧ w.heap.size < w'.heap.size ∧ l.length ≤ cap := by
  refine ⟨Lib.bytesWorld w 5 ⟨l.toArray⟩, grownCap w l.length 0 5, ?_, bytesWorld_at w 5 l, bytesWorld_below w _ _, by rw [Lib.bytesWorld_size]; omega, ?_⟩
  · rw [Lib.run_convert_string_bytes w 9 24 5 ⟨l.toArray⟩ Tryz.underlying9 Tryz.underlying24 Tryz.underlying5]
    have : (⟨l.toArray⟩ : ByteArray).size = l.length := by simp [ByteArray.size]
    rw [this]
  · have := grownCap_ge w l.length 0 5
    omega
theorem conv_bytes {w : World} {ops : Array Oper} {rest : List Oper} {o : Oper} {a : Act} {Q : Exit → Act → World → Prop} (hgd : Region.wanted o (yielded ops a.tmps) = true) (x : Operand) (ho : o.op = .convert 9 24 x)
    (l : List UInt8) (n : Nat) (hn : n = l.length) (hx : a.eval x = .string ⟨l.toArray⟩)
    (h : ∀ w' cap, At w' (some ⟨w.heap.size, 0, none⟩) (bytesV l) → Below w.heap.size w w' → w.heap.size < w'.heap.size → l.length ≤ cap → wpList Tryz.prog ops Q rest (a.put o.dst (.slice (some ⟨w.heap.size, 0, none⟩) n cap)) w') : wpList Tryz.prog ops Q (o :: rest) a w := by
  subst hn
  refine wpList_go hgd fun K hK => ?_
  obtain ⟨w', cap, hr, h1, h2, h3, h4⟩ := run_conv_bytes w l
  unfold Oper.wp execOp
  simp only [ho, hx, hr, Sem.run_bind, Sem.run_pure, Result.andThen_ok]
  exact hK _ _ (h w' cap h1 h2 h3 h4)
end Go.Proofs.YtkgdcbpiicckkaaGreatDoor
