/- The walk's arms over this translation: append on a row of bytes of the call's own, bytes to a string. -/
import Derived.Test.YtkgdcbpiicckkaaGreatDoorChecked
import Derived.Test.YtkgdcbpiicckkaaGreatDoorBase
import Derived.Test.YtkgdcbpiicckkaaGreatDoorReg
import Derived.Lib.SlBytesConst
namespace Go.Proofs.YtkgdcbpiicckkaaGreatDoor
set_option linter.unusedSimpArgs false
set_option linter.unusedVariables false
open Go.RowKit

theorem infoU8 : (Tryz.prog.info? 5).map (fun i => (i.zero, i.size, i.bytes)) = some (some (.int .u8 0), 1, 1) := by kernel_rfl

theorem cellsU8 : Tryz.prog.cellsOf 5 = 1 := by kernel_rfl

theorem At.newk (w : World) (cs : Array Value) (t : TypeId) (fr : Nat × Nat) {g : Nat} (hg : g = w.heap.size) : At (w.alloc (.cells cs t fr)) (some ⟨g, 0, none⟩) cs.toList := by
  subst hg
  refine .inr ⟨w.heap.size, 0, rfl, fun j v hj => ?_⟩
  rw [Nat.zero_add, cell_of_row _ w.heap.size j cs t fr (heap_alloc_new w _)]
  simpa using hj
theorem At.new (w : World) (cs : Array Value) (t : TypeId) (fr : Nat × Nat := (0, 0)) : At (w.alloc (.cells cs t fr)) (some ⟨w.heap.size, 0, none⟩) cs.toList := by
  refine .inr ⟨w.heap.size, 0, rfl, fun j v hj => ?_⟩
  rw [Nat.zero_add, cell_of_row _ w.heap.size j cs t fr (heap_alloc_new w _)]
  simpa using hj

theorem src_bytes {w : World} {ao : Option Addr} {n cap : Nat} {l : List UInt8} (h : At w ao (bytesV l)) (hn : n = l.length) : Src Tryz.prog 1 24 (.slice ao n cap) n (bytesV l) w :=
  h.src Tryz.underlying24 (by simp [hn]) (bytesV_one l) (by decide)

/-- '[]byte' of a constant string: the literal's row, marked. -/
theorem conv_const (w : World) (C : Array Value) (k n c : Nat) (hk : k = w.heap.size) :
    (convert 24 24 (.slice (some ⟨k, 0, none⟩) n c)).run Tryz.prog (w.alloc (.cells C 5)) = .ok (.slice (some ⟨k, 0, none⟩) n c) (w.alloc (.cells C 5 (C.size, C.size + 1))) := by
  subst hk
  exact Lib.run_convert_bytes_const (P := Tryz.prog) w 24 5 C n c Tryz.underlying24 Tryz.underlying5

/-- What an append to a row of bytes leaves. -/
def Appended (w : World) (base : Nat) (ob : Option Nat) (l : List UInt8) (ao : Option Addr) (cap : Nat) (w' : World) : Prop :=
  w'.ownsRow base 5 1 (.slice ao l.length cap) l.length (bytesV l) ∧ w.grownBy w' ob ∧ (blk ao = ob ∨ ∀ g, blk ao = some g → w.heap.size ≤ g)

theorem wp_bytes {w : World} {o : Oper} {a : Act} {K : Act → World → Prop} {Q : Exit → Act → World → Prop} (s x : Operand)
    (ho : o.op = .call { callee := .builtin .append, args := #[s, x], argTypes := #[24, 24] })
    (base : Nat) (ao : Option Addr) (cap : Nat) (l : List UInt8) (n : Nat) (hs : a.eval s = .slice ao n cap) (hown : w.ownsRow base 5 1 (.slice ao n cap) n (bytesV l))
    (bo : Option Addr) (m c : Nat) (l' : List UInt8) (hx : a.eval x = .slice bo m c) (hat : At w bo (bytesV l')) (hm : m = l'.length)
    (hb : n + m ≤ 70368744177664) (hbase : base ≤ w.heap.size)
    (h : ∀ ao' cap' w', Appended w base (blk ao) (l ++ l') ao' cap' w' → K (a.put o.dst (.slice ao' (n + m) cap')) w') : o.wp Tryz.prog a w K Q := by
  obtain ⟨i0, hi, hz0, hz1, hz2⟩ := info_parts infoU8
  refine wp_append s x 24 24 ho base 5 i0 (.int .u8 0) 1 1 Tryz.underlying24 hi hz0 hz1 hz2 rfl _ n (bytesV l) hs hown _ m (bytesV l') hx (src_bytes hat hm) (by unfold maxLen; omega) (by omega) hbase ?_
  intro ao' cap' w' h1 h2 h3
  have hn : n = l.length := by simpa using hown.1.symm
  have e : n + m = (l ++ l').length := by simp [hn, hm]
  have h4 : (Value.slice ao n cap).ownBlock = blk ao := by cases ao <;> rfl
  refine h ao' cap' w' ⟨?_, ?_, ?_⟩
  · rw [← bytesV_append, e] at h1; exact h1
  · rw [← h4]; exact h2
  · rw [← h4]; exact h3.imp id fun h g hg => by rw [h] at hg; cases hg; exact Nat.le_refl _

theorem app_bytes {w : World} {ops : Array Oper} {rest : List Oper} {o : Oper} {a : Act} {Q : Exit → Act → World → Prop} (hgd : Region.wanted o (yielded ops a.tmps) = true) (s x : Operand)
    (ho : o.op = .call { callee := .builtin .append, args := #[s, x], argTypes := #[24, 24] })
    (base : Nat) (ao : Option Addr) (cap : Nat) (l : List UInt8) (n : Nat) (hs : a.eval s = .slice ao n cap) (hown : w.ownsRow base 5 1 (.slice ao n cap) n (bytesV l))
    (bo : Option Addr) (m c : Nat) (l' : List UInt8) (hx : a.eval x = .slice bo m c) (hat : At w bo (bytesV l')) (hm : m = l'.length)
    (hb : n + m ≤ 70368744177664) (hbase : base ≤ w.heap.size)
    (h : ∀ ao' cap' w', Appended w base (blk ao) (l ++ l') ao' cap' w' → wpList Tryz.prog ops Q rest (a.put o.dst (.slice ao' (n + m) cap')) w') : wpList Tryz.prog ops Q (o :: rest) a w :=
  wpList_go hgd fun _ hK => wp_bytes s x ho base ao cap l n hs hown bo m c l' hx hat hm hb hbase fun ao' cap' w' h' => hK _ _ (h ao' cap' w' h')

/-- One byte more, laid into a new block of its own first. -/
theorem wp_byte {w : World} {o : Oper} {a : Act} {K : Act → World → Prop} {Q : Exit → Act → World → Prop} (s x : Operand)
    (ho : o.op = .call { callee := .builtin .append, args := #[s, x], argTypes := #[24, 24] })
    (base : Nat) (ao : Option Addr) (cap : Nat) (l : List UInt8) (n : Nat) (v : Int) (hs : a.eval s = .slice ao n cap) (hown : w.ownsRow base 5 1 (.slice ao n cap) n (bytesV l))
    (k : Nat) (g : Nat) (hx : a.eval x = .slice (some ⟨g, 0, none⟩) 1 1) (hg : g = w.heap.size) (hk : k < 256) (hv : v = (k : Int))
    (hb : n + 1 ≤ 70368744177664) (hbase : base ≤ w.heap.size)
    (h : ∀ ao' cap' w', Appended w base (blk ao) (l ++ [UInt8.ofNat k]) ao' cap' w' → Below base (w.alloc (.cells #[.int .u8 v] 5)) w' → K (a.put o.dst (.slice ao' (n + 1) cap')) w') :
    o.wp Tryz.prog a (w.alloc (.cells #[.int .u8 v] 5)) K Q := by
  subst hg
  refine wp_bytes s x ho base ao cap l n hs (hown.alloc _) _ 1 1 [UInt8.ofNat k] hx ?_ rfl hb (by simp; omega) ?_
  · have := At.new w #[.int .u8 v] 5
    rw [hv, ← show u8v (UInt8.ofNat k) = Value.int .u8 (k : Int) by simp [u8v, UInt8.toNat_ofNat', Nat.mod_eq_of_lt hk]] at *
    exact this
  · intro ao' cap' w' ⟨h1, h2, h3⟩
    refine h ao' cap' w' ⟨h1, ⟨h2.os, h2.tape, h2.output, ?_, ?_⟩, ?_⟩ (below_grown (hown.alloc _) (by simp; omega) h2)
    · have := h2.size; simp at this; omega
    · intro b hb hne; rw [h2.block b (by simp; omega) hne]; exact Below.heap_alloc w _ b hb
    · exact h3.imp id fun h g hg => by have := h g hg; simp at this; omega

theorem app_byte {w : World} {ops : Array Oper} {rest : List Oper} {o : Oper} {a : Act} {Q : Exit → Act → World → Prop} (hgd : Region.wanted o (yielded ops a.tmps) = true) (s x : Operand)
    (ho : o.op = .call { callee := .builtin .append, args := #[s, x], argTypes := #[24, 24] })
    (base : Nat) (ao : Option Addr) (cap : Nat) (l : List UInt8) (n : Nat) (v : Int) (hs : a.eval s = .slice ao n cap) (hown : w.ownsRow base 5 1 (.slice ao n cap) n (bytesV l))
    (k : Nat) (hx : a.eval x = .slice (some ⟨w.heap.size, 0, none⟩) 1 1) (hk : k < 256) (hv : v = (k : Int))
    (hb : n + 1 ≤ 70368744177664) (hbase : base ≤ w.heap.size)
    (h : ∀ ao' cap' w', Appended w base (blk ao) (l ++ [UInt8.ofNat k]) ao' cap' w' → wpList Tryz.prog ops Q rest (a.put o.dst (.slice ao' (n + 1) cap')) w') :
    wpList Tryz.prog ops Q (o :: rest) a (w.alloc (.cells #[.int .u8 v] 5)) :=
  wpList_go hgd fun _ hK => wp_byte s x ho base ao cap l n v hs hown k _ hx rfl hk hv hb hbase fun ao' cap' w' h' _ => hK _ _ (h ao' cap' w' h')

/-- A string's bytes onto a row of bytes of the call's own. -/
theorem wp_str {w : World} {o : Oper} {a : Act} {K : Act → World → Prop} {Q : Exit → Act → World → Prop} (s x : Operand)
    (ho : o.op = .call { callee := .builtin .append, args := #[s, x], argTypes := #[24, 9] })
    (base : Nat) (ao : Option Addr) (cap : Nat) (l : List UInt8) (n : Nat) (hs : a.eval s = .slice ao n cap) (hown : w.ownsRow base 5 1 (.slice ao n cap) n (bytesV l))
    (t : ByteArray) (hx : a.eval x = .string t) (hb : n + t.size ≤ 70368744177664) (hbase : base ≤ w.heap.size)
    (h : ∀ ao' cap' w', Appended w base (blk ao) (l ++ t.data.toList) ao' cap' w' → K (a.put o.dst (.slice ao' (n + t.size) cap')) w') : o.wp Tryz.prog a w K Q := by
  obtain ⟨i0, hi, hz0, hz1, hz2⟩ := info_parts infoU8
  refine wp_append s x 24 9 ho base 5 i0 (.int .u8 0) 1 1 Tryz.underlying24 hi hz0 hz1 hz2 rfl _ n (bytesV l) hs hown _ t.size (byteCells t) hx (Src.ofString w Tryz.underlying9 t) (by unfold maxLen; omega) (by omega) hbase ?_
  intro ao' cap' w' h1 h2 h3
  have hn : n = l.length := by simpa using hown.1.symm
  have e : n + t.size = (l ++ t.data.toList).length := by rw [hn, List.length_append, Array.length_toList]; rfl
  have e2 : bytesV l ++ byteCells t = bytesV (l ++ t.data.toList) := by rw [bytesV_append]; rfl
  have h4 := own_slice ao n cap
  refine h ao' cap' w' ⟨?_, ?_, ?_⟩
  · rw [e2, e] at h1; exact h1
  · rw [← h4]; exact h2
  · rw [← h4]; exact h3.imp id fun h g hg => by rw [h] at hg; cases hg; exact Nat.le_refl _
theorem app_str {w : World} {ops : Array Oper} {rest : List Oper} {o : Oper} {a : Act} {Q : Exit → Act → World → Prop} (hgd : Region.wanted o (yielded ops a.tmps) = true) (s x : Operand)
    (ho : o.op = .call { callee := .builtin .append, args := #[s, x], argTypes := #[24, 9] })
    (base : Nat) (ao : Option Addr) (cap : Nat) (l : List UInt8) (n : Nat) (hs : a.eval s = .slice ao n cap) (hown : w.ownsRow base 5 1 (.slice ao n cap) n (bytesV l))
    (t : ByteArray) (hx : a.eval x = .string t) (hb : n + t.size ≤ 70368744177664) (hbase : base ≤ w.heap.size)
    (h : ∀ ao' cap' w', Appended w base (blk ao) (l ++ t.data.toList) ao' cap' w' → wpList Tryz.prog ops Q rest (a.put o.dst (.slice ao' (n + t.size) cap')) w') : wpList Tryz.prog ops Q (o :: rest) a w :=
  wpList_go hgd fun _ hK => wp_str s x ho base ao cap l n hs hown t hx hb hbase fun ao' cap' w' h' => hK _ _ (h ao' cap' w' h')

/-- 'make([]byte, n)'. -/
theorem wp_make {w : World} {o : Oper} {a : Act} {K : Act → World → Prop} {Q : Exit → Act → World → Prop} (x y : Operand) (ho : o.op = .makeSlice 24 x y) (n : Nat) (hx : a.eval x = .int .i64 (n : Int)) (hy : a.eval y = .int .i64 (n : Int)) (hn : n ≤ 70368744177664)
    (h : ∀ w', w'.ownsRow w.heap.size 5 1 (.slice (some ⟨w.heap.size, 0, none⟩) n n) n (bytesV (List.replicate n 0)) → w.grownBy w' none → K (a.put o.dst (.slice (some ⟨w.heap.size, 0, none⟩) n n)) w') : o.wp Tryz.prog a w K Q := by
  obtain ⟨i0, hi, hz0, hz1, hz2⟩ := info_parts infoU8
  obtain ⟨w', hr, h2, h3⟩ := run_make_full (P := Tryz.prog) w w.heap.size 24 5 i0 (.int .u8 0) 1 Tryz.underlying24 hi hz0 hz1 .i64 .i64 n (by rw [hz2]; omega) (by unfold maxLen; omega) (Nat.le_refl _)
  have e : (madeCells (Value.int .u8 0).cells (n * 1)).toList = bytesV (List.replicate n 0) := by
    rw [Nat.mul_one, show (Value.int .u8 0).cells = #[Value.int .u8 0] from rfl, toList_madeCells_one]
    simp [bytesV, u8v]
  rw [e] at h2
  unfold Oper.wp execOp
  simp only [ho, hx, hy, hr, Sem.run_bind, Sem.run_pure, Result.andThen_ok]
  exact h w' h2 h3
theorem op_make {w : World} {ops : Array Oper} {rest : List Oper} {o : Oper} {a : Act} {Q : Exit → Act → World → Prop} (hgd : Region.wanted o (yielded ops a.tmps) = true) (x y : Operand) (ho : o.op = .makeSlice 24 x y) (n : Nat) (hx : a.eval x = .int .i64 (n : Int)) (hy : a.eval y = .int .i64 (n : Int)) (hn : n ≤ 70368744177664)
    (h : ∀ w', w'.ownsRow w.heap.size 5 1 (.slice (some ⟨w.heap.size, 0, none⟩) n n) n (bytesV (List.replicate n 0)) → w.grownBy w' none → wpList Tryz.prog ops Q rest (a.put o.dst (.slice (some ⟨w.heap.size, 0, none⟩) n n)) w') : wpList Tryz.prog ops Q (o :: rest) a w :=
  wpList_go hgd fun _ hK => wp_make x y ho n hx hy hn fun w' h2 h3 => hK _ _ (h w' h2 h3)

/-- Bytes to a string. -/
theorem conv_str {w : World} {ops : Array Oper} {rest : List Oper} {o : Oper} {a : Act} {Q : Exit → Act → World → Prop} (hgd : Region.wanted o (yielded ops a.tmps) = true) (x : Operand) (ho : o.op = .convert 24 9 x)
    (ao : Option Addr) (n cap : Nat) (hx : a.eval x = .slice ao n cap) (l : List UInt8) (h : At w ao (bytesV l)) (hn : n = l.length)
    (hk : wpList Tryz.prog ops Q rest (a.put o.dst (.string ⟨l.toArray⟩)) w) : wpList Tryz.prog ops Q (o :: rest) a w :=
  arm_conv_str hgd 24 9 x ho 5 Tryz.underlying24 Tryz.underlying5 Tryz.underlying9 ao n cap hx l h hn hk

/-- The same, in a region that draws. -/
theorem seq_conv {o : Oper} {x : Operand} {a : Act} {w : World} (ho : o.op = .convert 24 9 x) {ao : Option Addr} {n cap : Nat} (hx : a.eval x = .slice ao n cap) {l : List UInt8} (h : At w ao (bytesV l)) (hn : n = l.length) :
    ∀ w', Below w.heap.size w w' → (execOp a.eval o).run Tryz.prog w' = .ok (.value (.string ⟨l.toArray⟩)) w' :=
  yields_conv ho Tryz.underlying24 Tryz.underlying5 Tryz.underlying9 hx h hn

/-- 'b[k:]' of bytes, in a region that draws; and elsewhere. -/
theorem elemB : Tryz.prog.underlying 24 = some (.slice (Tryz.prog.elem 24)) := by kernel_rfl
theorem sizeB : (Tryz.prog.info? (Tryz.prog.elem 24)).map (·.size) = some 1 := by kernel_rfl
theorem seq_lo {o : Oper} {x lo : Operand} {a : Act} {w : World} (ho : o.op = .slice 24 x (some lo) none none) {ao : Option Addr} {n cap k : Nat} (hx : a.eval x = .slice ao n cap) (hl : a.eval lo = .int .i64 (k : Int)) (hk : k ≤ n) :
    ∀ w', Below w.heap.size w w' → (execOp a.eval o).run Tryz.prog w' = .ok (.value (.slice (tailOf ao cap k) (n - k) (cap - k))) w' :=
  yields_slice_lo ho elemB sizeB hx hl hk
theorem seq_hi {o : Oper} {x hi : Operand} {a : Act} {w : World} (ho : o.op = .slice 24 x none (some hi) none) {ao : Option Addr} {n cap k : Nat} (hx : a.eval x = .slice ao n cap) (hl : a.eval hi = .int .i64 (k : Int)) (hk : k ≤ cap) :
    ∀ w', Below w.heap.size w w' → (execOp a.eval o).run Tryz.prog w' = .ok (.value (.slice ao k cap)) w' :=
  yields_slice_hi ho elemB sizeB hx hl hk
theorem slice_lo {w : World} {ops : Array Oper} {rest : List Oper} {o : Oper} {a : Act} {Q : Exit → Act → World → Prop} (hgd : Region.wanted o (yielded ops a.tmps) = true) (x lo : Operand) (ho : o.op = .slice 24 x (some lo) none none)
    (ao : Option Addr) (n cap k : Nat) (hx : a.eval x = .slice ao n cap) (hl : a.eval lo = .int .i64 (k : Int)) (hk : k ≤ n)
    (h : wpList Tryz.prog ops Q rest (a.put o.dst (.slice (tailOf ao cap k) (n - k) (cap - k))) w) : wpList Tryz.prog ops Q (o :: rest) a w := by
  refine wpList_go hgd fun K hK => ?_
  have hr := seq_lo (w := w) ho hx hl hk w (Below.refl _ _)
  unfold Oper.wp
  rw [hr]
  exact hK _ _ h

/-- The load of a byte, in a region that draws. -/
theorem seq_ld8 {o : Oper} {x : Operand} {a : Act} {w : World} (ho : o.op = .load 5 x) {ad : Addr} {v : Value} (hx : a.eval x = .pointer (some ad)) (hc : w.cell? ad = some v) :
    ∀ w', Below w.heap.size w w' → (execOp a.eval o).run Tryz.prog w' = .ok (.value v) w' := by
  intro w' hb
  have hc' : w'.cell? ad = some v := (World.cell?_of_block (hb.block ad.block (World.block_lt_of_cell? (a := ad) w hc))).trans hc
  have hu := Tryz.underlying5
  unfold execOp
  simp only [ho, hx]
  go_simp

theorem At.new1 (w : World) (v : Int) (k : Nat) (hk : k < 256) (hv : v = (k : Int)) (t : TypeId) : At (w.alloc (.cells #[.int .u8 v] t)) (some ⟨w.heap.size, 0, none⟩) (bytesV [UInt8.ofNat k]) := by
  have := At.new w #[.int .u8 v] t
  rw [hv, ← show u8v (UInt8.ofNat k) = Value.int .u8 (k : Int) by simp [u8v, UInt8.toNat_ofNat', Nat.mod_eq_of_lt hk]] at *
  exact this

/-- A call that leaves a new row of bytes, and of all that was there nothing has turned. -/
def NewBytes (w : World) (l : List UInt8) (e : Ending) (w' : World) : Prop :=
  ∃ ao cap, e = .returned (.slice ao l.length cap) ∧ w'.ownsRow w.heap.size 5 1 (.slice ao l.length cap) l.length (bytesV l) ∧ Below w.heap.size w w'
/-- A call that answers one value, and of all that was there nothing has turned. -/
def Says (w : World) (v : Value) (e : Ending) (w' : World) : Prop := e = .returned v ∧ Below w.heap.size w w'

end Go.Proofs.YtkgdcbpiicckkaaGreatDoor
