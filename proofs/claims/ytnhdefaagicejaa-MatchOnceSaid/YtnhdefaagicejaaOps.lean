/- The walk's arms over this translation: append on a row of bytes of the call's own, bytes to a string. -/
import Derived.Test.YtnhdefaagicejaaChecked
import Derived.Test.YtnhdefaagicejaaBase
import Derived.Test.YtnhdefaagicejaaReg
import Derived.Lib.SlBytesConst
namespace Go.Proofs.Ytnhdefaagicejaa
set_option linter.unusedSimpArgs false
set_option linter.unusedVariables false
open Go.RowKit

theorem infoU8 : (Try.prog.info? 5).map (fun i => (i.zero, i.size, i.bytes)) = some (some (.int .u8 0), 1, 1) := by kernel_rfl

theorem cellsU8 : Try.prog.cellsOf 5 = 1 := by kernel_rfl

theorem At.newk (w : World) (cs : Array Value) (t : TypeId) (fr : Nat × Nat) {g : Nat} (hg : g = w.heap.size) : At (w.alloc (.cells cs t fr)) (some ⟨g, 0, none⟩) cs.toList := by
  subst hg
  refine .inr ⟨w.heap.size, 0, rfl, fun j v hj => ?_⟩
  rw [Nat.zero_add, cell_of_row _ w.heap.size j cs t fr (heap_alloc_new w _)]
  simpa using hj
theorem At.new (w : World) (cs : Array Value) (t : TypeId) (fr : Nat × Nat := (0, 0)) : At (w.alloc (.cells cs t fr)) (some ⟨w.heap.size, 0, none⟩) cs.toList := by
  refine .inr ⟨w.heap.size, 0, rfl, fun j v hj => ?_⟩
  rw [Nat.zero_add, cell_of_row _ w.heap.size j cs t fr (heap_alloc_new w _)]
  simpa using hj

/-- What an append to a row of bytes leaves. -/
def Appended (w : World) (base : Nat) (ob : Option Nat) (l : List UInt8) (ao : Option Addr) (cap : Nat) (w' : World) : Prop :=
  w'.ownsRow base 5 1 (.slice ao l.length cap) l.length (bytesV l) ∧ w.grownBy w' ob ∧ (blk ao = ob ∨ ∀ g, blk ao = some g → w.heap.size ≤ g)

/-- The load of a byte, in a region that draws. -/
theorem seq_ld8 {o : Oper} {x : Operand} {a : Act} {w : World} (ho : o.op = .load 5 x) {ad : Addr} {v : Value} (hx : a.eval x = .pointer (some ad)) (hc : w.cell? ad = some v) :
    ∀ w', Below w.heap.size w w' → (execOp a.eval o).run Try.prog w' = .ok (.value v) w' := by
  intro w' hb
  have hc' : w'.cell? ad = some v := (World.cell?_of_block (hb.block ad.block (World.block_lt_of_cell? (a := ad) w hc))).trans hc
  have hu := Try.underlying5
  unfold execOp
  simp only [ho, hx]
  go_simp

theorem At.new1 (w : World) (v : Int) (k : Nat) (hk : k < 256) (hv : v = (k : Int)) (t : TypeId) : At (w.alloc (.cells #[.int .u8 v] t)) (some ⟨w.heap.size, 0, none⟩) (bytesV [UInt8.ofNat k]) := by
  have := At.new w #[.int .u8 v] t
  rw [hv, ← show u8v (UInt8.ofNat k) = Value.int .u8 (k : Int) by simp [u8v, UInt8.toNat_ofNat', Nat.mod_eq_of_lt hk]] at *
  exact this

/-- A call that leaves a new row of bytes, and of all that was there nothing has turned. -/
def NewBytes (w : World) (l : List UInt8) (e : Ending) (w' : World) : Prop :=
  ∃ ao cap, e = .returned (.slice ao l.length cap) ∧ w'.ownsRow w.heap.size 5 1 (.slice ao l.length cap) l.length (bytesV l) ∧ Below w.heap.size w w'
/-- A call that answers one value, and of all that was there nothing has turned. -/
def Says (w : World) (v : Value) (e : Ending) (w' : World) : Prop := e = .returned v ∧ Below w.heap.size w w'

end Go.Proofs.Ytnhdefaagicejaa
