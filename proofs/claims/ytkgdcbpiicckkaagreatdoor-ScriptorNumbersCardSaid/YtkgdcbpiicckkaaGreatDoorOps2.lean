/- More of what is taken in a drawn region: loads of strings and ints, min, slices of slices of one-cell elements and of strings. -/
import Derived.Test.YtkgdcbpiicckkaaGreatDoorOps
namespace Go.Proofs.YtkgdcbpiicckkaaGreatDoor
set_option linter.unusedSimpArgs false
set_option linter.unusedVariables false
open Go.RowKit

section
variable {P : Program}
theorem yields_min2 {o : Oper} {x y : Operand} {ts : Array TypeId} {a : Act} {w : World} (ho : o.op = .call { callee := .builtin .min, args := #[x, y], argTypes := ts }) {k : IntKind} {p q n : Int} (hx : a.eval x = .int k p) (hy : a.eval y = .int k q) (hn : min p q = n) :
    ∀ w', Below w.heap.size w w' → (execOp a.eval o).run P w' = .ok (.value (.int k n)) w' := by
  intro w' _
  have hr := run_min_int2 (P := P) (w := w') ts o.type k k p q
  have e : (if q < p then q else p) = n := by rw [← hn, Int.min_def]; split <;> split <;> omega
  rw [e] at hr
  unfold execOp
  simp only [ho, resolve, invoke, builtin, Sem.run_bind, Sem.run_pure, Result.andThen_ok, List.map_toArray, List.map_cons, List.map_nil, hx, hy, hr]

theorem yields_eqi {t t2 : TypeId} {o : Oper} {x y : Operand} {a : Act} {w : World} {k : IntKind} {p q : Int} (hu : P.underlying t = some (.int k)) (ho : o.op = .binOp .eql t x y t2) (hx : a.eval x = .int k p) (hy : a.eval y = .int k q) {c : Bool} (hc : (p == q) = c) :
    ∀ w', Below w.heap.size w w' → (execOp a.eval o).run P w' = .ok (.value (.bool c)) w' := by
  intro w' _
  subst hc
  unfold execOp
  simp only [ho, hx, hy]
  go_simp

theorem yields_str_hi {t : TypeId} {o : Oper} {x hi : Operand} {a : Act} {w : World} (ht : P.underlying t = some .string) (ho : o.op = .slice t x none (some hi) none) {l : List UInt8} {k : Nat} (hx : a.eval x = .string ⟨l.toArray⟩) (hl : a.eval hi = .int .i64 (k : Int)) (hk : k ≤ l.length) :
    ∀ w', Below w.heap.size w w' → (execOp a.eval o).run P w' = .ok (.value (.string ⟨(l.take k).toArray⟩)) w' := by
  intro w' _
  have hsz : (ByteArray.mk l.toArray).size = l.length := by rw [ByteArray.size]; simp
  have hr : (Instr.sliceAt t (.string ⟨l.toArray⟩) none (some (.int .i64 (k : Int))) none).run P w' = .ok (.string ⟨(l.take k).toArray⟩) w' := by
    rw [run_sliceAt_string _ t _ _ _ _ ht, run_slice_string_h _ _ _ ht _ _ (by omega) (by omega)]
    congr 2
    apply ByteArray.ext
    rw [ByteArray.data_extract]
    simp
  unfold execOp
  simp only [ho, hx, hl, Option.map_some, Option.map_none, hr, Sem.run_bind, Sem.run_pure, Result.andThen_ok]

theorem yields_str_lo {t : TypeId} {o : Oper} {x lo : Operand} {a : Act} {w : World} (ht : P.underlying t = some .string) (ho : o.op = .slice t x (some lo) none none) {l : List UInt8} {k : Nat} (hx : a.eval x = .string ⟨l.toArray⟩) (hl : a.eval lo = .int .i64 (k : Int)) (hk : k ≤ l.length) :
    ∀ w', Below w.heap.size w w' → (execOp a.eval o).run P w' = .ok (.value (.string ⟨(l.drop k).toArray⟩)) w' := by
  intro w' _
  have hsz : (ByteArray.mk l.toArray).size = l.length := by rw [ByteArray.size]; simp
  have hr : (Instr.sliceAt t (.string ⟨l.toArray⟩) (some (.int .i64 (k : Int))) none none).run P w' = .ok (.string ⟨(l.drop k).toArray⟩) w' := by
    rw [run_sliceAt_string _ t _ _ _ _ ht, run_slice_string_l _ _ _ ht _ _ (by omega) (by omega)]
    congr 2
    apply ByteArray.ext
    rw [ByteArray.data_extract, hsz]
    simp
    exact List.take_of_length_le (by simp)
  unfold execOp
  simp only [ho, hx, hl, Option.map_some, Option.map_none, hr, Sem.run_bind, Sem.run_pure, Result.andThen_ok]
end

theorem seq_lds {o : Oper} {x : Operand} {a : Act} {w : World} (ho : o.op = .load 9 x) {ad : Addr} {v : Value} (hx : a.eval x = .pointer (some ad)) (hc : w.cell? ad = some v) :
    ∀ w', Below w.heap.size w w' → (execOp a.eval o).run Tryz.prog w' = .ok (.value v) w' := by
  intro w' hb
  have hc' : w'.cell? ad = some v := (World.cell?_of_block (hb.block ad.block (World.block_lt_of_cell? (a := ad) w hc))).trans hc
  have hu := Tryz.underlying9
  unfold execOp
  simp only [ho, hx]
  go_simp
theorem seq_ldi {o : Oper} {x : Operand} {a : Act} {w : World} (ho : o.op = .load 3 x) {ad : Addr} {v : Value} (hx : a.eval x = .pointer (some ad)) (hc : w.cell? ad = some v) :
    ∀ w', Below w.heap.size w w' → (execOp a.eval o).run Tryz.prog w' = .ok (.value v) w' := by
  intro w' hb
  have hc' : w'.cell? ad = some v := (World.cell?_of_block (hb.block ad.block (World.block_lt_of_cell? (a := ad) w hc))).trans hc
  have hu := Tryz.underlying3
  unfold execOp
  simp only [ho, hx]
  go_simp

theorem seq_lde {o : Oper} {x : Operand} {a : Act} {w : World} (ho : o.op = .load 39 x) {ad : Addr} {v : Value} (hx : a.eval x = .pointer (some ad)) (hc : w.cell? ad = some v) :
    ∀ w', Below w.heap.size w w' → (execOp a.eval o).run Tryz.prog w' = .ok (.value v) w' := by
  intro w' hb
  have hc' : w'.cell? ad = some v := (World.cell?_of_block (hb.block ad.block (World.block_lt_of_cell? (a := ad) w hc))).trans hc
  have hu := Tryz.underlying39
  unfold execOp
  simp only [ho, hx]
  go_simp

/-- 'int(uint64(c) % uint64(n))'. -/
theorem cutmod0 (c : Int) (n : Nat) (h0 : 0 < n) (hn : n ≤ 1000000000) : ∃ k : Nat, k < n ∧ wrap64 ((IntKind.u64.wrap c).tmod (n : Int)) = (k : Int) := by
  have h0 : 0 ≤ IntKind.u64.wrap c := by rw [IntKind.wrap_u64]; omega
  have h1 := Int.emod_nonneg (IntKind.u64.wrap c) (show (n : Int) ≠ 0 by omega)
  have h2 := Int.emod_lt_of_pos (IntKind.u64.wrap c) (show 0 < (n : Int) by omega)
  rw [Int.tmod_eq_emod_of_nonneg h0]
  refine ⟨(IntKind.u64.wrap c % (n : Int)).toNat, by omega, ?_⟩
  unfold wrap64
  omega

/-- A text as a value. -/
def strV (l : List UInt8) : Value := .string ⟨l.toArray⟩
theorem At.exv {w : World} {ao : Option Addr} {xs : List Value} (h : At w ao xs) (k : Nat) (hk : k < xs.length) : ∃ b o, ao = some ⟨b, o, none⟩ ∧ w.cell? ⟨b, o + k, none⟩ = some xs[k] := by
  rcases h with e | ⟨b, o, rfl, hc⟩
  · subst e; simp at hk
  · exact ⟨b, o, rfl, hc k _ (List.getElem?_eq_getElem hk)⟩

end Go.Proofs.YtkgdcbpiicckkaaGreatDoor
