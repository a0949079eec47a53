/- What ScriptorNumbers writes and reads, in plain Lean: texts of numbers and of floats; one bit turned. -/
import Derived.Test.YtkgdcbpiicckkaaGreatDoorBackP
import Derived.Test.YtkgdcbpiicckkaaGreatDoorNumX
import Derived.Test.YtkgdcbpiicckkaaGreatDoorBurstP
namespace Go.Proofs.YtkgdcbpiicckkaaGreatDoor
set_option linter.unusedSimpArgs false
set_option linter.unusedVariables false
open Go.RowKit

theorem strR_ok (hi : Int) (t rest : List UInt8) (h : (t.length : Int) ≤ hi) (h2 : t.length ≤ 1000000000) : strR hi (strB t ++ rest, 0) = (t, (rest, 0)) := by
  rw [strB, List.append_assoc, strR, numR_ok t.length 0 hi (t ++ rest) (by omega) (by omega) (by omega) h]
  simp
  omega
/-- The text of a number, and of a float. -/
def numT (n : Int) : List UInt8 := Lib.itoa (wrapP n)
def fltT (x : Int) : List UInt8 := bitsL (ofM x.toNat).toNat
theorem numT_len (n : Int) : (numT n).length ≤ 20 := by
  have := wrapP_in n
  exact itoa_len _ (by omega) (by omega)
theorem fltT_len (x : Int) (hx : 0 ≤ x ∧ x < 18446744073709551616) : (fltT x).length = 16 := by
  obtain ⟨n, hn, hlt⟩ := ofM_in x.toNat (by omega)
  rw [fltT, hn, Int.toNat_natCast]
  exact bitsL_len n hlt
/-- One bit of closed bytes turned: they open no more. -/
theorem turned (L : List UInt8) (k : Nat) (hk : k / 8 < (L ++ four (crc L)).length) : opens ((L ++ four (crc L)).set (k / 8) ((L ++ four (crc L))[k / 8] ^^^ UInt8.ofNat (2 ^ (k % 8)))) = none := by
  have h := opens_burst L ((L ++ four (crc L)).set (k / 8) ((L ++ four (crc L))[k / 8] ^^^ UInt8.ofNat (2 ^ (k % 8)))) k 1 1 (by decide) (by simp [four_len]) (by rw [flip_le _ k hk]; simp)
  simpa using h
end Go.Proofs.YtkgdcbpiicckkaaGreatDoor
