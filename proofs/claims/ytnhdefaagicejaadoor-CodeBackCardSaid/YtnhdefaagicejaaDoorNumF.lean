/- Numbers of 63 bits, floats by their bits (shared with the texts of values). -/
import Derived.Test.YtnhdefaagicejaaDoorOps
import Derived.Test.YtnhdefaagicejaaDoorOps2
import Derived.WalkLawsBesides
namespace Go.Proofs.YtnhdefaagicejaaDoor
set_option linter.unusedSimpArgs false
set_option linter.unusedVariables false
open Go.RowKit

/-- A whole number as an integer of 63 bits. -/
def wrap63 (z : Int) : Int := (z + 4611686018427387904) % 9223372036854775808 - 4611686018427387904
theorem wrap63_eq (z : Int) : wrap64 (z * 2) / 2 = wrap63 z := by unfold wrap64 wrap63; omega
theorem wrap63_iff (z : Int) : wrap63 z = z ↔ -4611686018427387904 ≤ z ∧ z ≤ 4611686018427387903 := by unfold wrap63; omega
theorem wrap_any (z : Int) (w : World) : Calls Tryd.prog 52 #[.int .i64 z] w fun e w' => e = .returned (.int .i64 (wrap63 z)) ∧ w = w' := by
  go_enter Tryd.func52, Tryd.ntmps52
  go_wp2_with fail
  go_ret
  exact ⟨by rw [← wrap63_eq]; rfl, rfl⟩
theorem frombits_run (x : Int) (w : World) : (callFunc 59 #[.int .u64 x]).run Tryd.prog w = .ok (.value (.float .f64 x.toNat)) w := by
  rw [run_callFunc_extern (e := Extern.MathFloatBits.float64frombits) Tryd.func59 (by kernel_rfl) (by kernel_rfl) (by kernel_rfl) (by kernel_rfl)]
  rfl
theorem tobits_run (x : Nat) (w : World) : (callFunc 58 #[.float .f64 x]).run Tryd.prog w = .ok (.value (.int .u64 x)) w := by
  rw [run_callFunc_extern (e := Extern.MathFloatBits.float64bits) Tryd.func58 (by kernel_rfl) (by kernel_rfl) (by kernel_rfl) (by kernel_rfl)]
  rfl
theorem go_any (x : Int) (w : World) : Calls Tryd.prog 56 #[.int .u64 x] w (fun e w' => e = .returned (.float .f64 x.toNat) ∧ w = w') := by
  have hfr := frombits_run
  go_enter Tryd.func56, Tryd.ntmps56
  go_wp2_with fail
  go_ret
  exact ⟨rfl, rfl⟩
def isNaNB (x : Nat) : Bool := FloatKind.f64.format.order x x != some Ordering.eq
theorem isnan_any (x : Nat) (w : World) : Calls Tryd.prog 57 #[.float .f64 x] w (fun e w' => e = .returned (.bool (isNaNB x)) ∧ w = w') := by
  go_enter Tryd.func57, Tryd.ntmps57
  go_wp2_with fail
  go_ret
  exact ⟨rfl, rfl⟩
/-- A float's bits, none of which is another name of no number. -/
def ofM (x : Nat) : Int := if isNaNB x then 9221120237041090560 else (x : Int)
theorem of_any (x : Nat) (w : World) : Calls Tryd.prog 55 #[.float .f64 x] w (fun e w' => e = .returned (.int .u64 (ofM x)) ∧ w = w') := by
  have htb := tobits_run
  cases hn : isNaNB x
  · have HN := Lib.hid (show ofM x = (x : Int) by unfold ofM; rw [hn]; rfl)
    go_enter Tryd.func55, Tryd.ntmps55
    go_wp2_with fail
    refine (isnan_any x w).mono ?_
    rintro e w1 ⟨rfl, rfl⟩
    rw [hn]
    go_wp2_with fail
    go_ret
    exact ⟨by rw [HN.out]; rfl, rfl⟩
  · have HN := Lib.hid (show ofM x = 9221120237041090560 by unfold ofM; rw [hn]; rfl)
    go_enter Tryd.func55, Tryd.ntmps55
    go_wp2_with fail
    refine (isnan_any x w).mono ?_
    rintro e w1 ⟨rfl, rfl⟩
    rw [hn]
    go_wp2_with fail
    go_ret
    exact ⟨by rw [HN.out]; rfl, rfl⟩
def fstep (x : Int) (c : UInt8) : Int := bits .or .u64 (IntKind.u64.wrap (x * 256)) (IntKind.u64.wrap c.toNat)
def fbits (t : List UInt8) : Int := t.foldl fstep 0
/-- Are eight bytes a float's? -/
def floatOk (t : List UInt8) : Bool := ofM (fbits t).toNat == fbits t
end Go.Proofs.YtnhdefaagicejaaDoor
