/- The numbers of the wire format, in plain Lean: zigzag, groups of seven bits. No program in sight. -/
import Derived.Test.YtkgdcbpiicckkaaGreatDoorBase
namespace Go.Proofs.YtkgdcbpiicckkaaGreatDoor
set_option linter.unusedSimpArgs false
set_option linter.unusedVariables false
open Go.RowKit

/-- Zigzag. -/
def zz (n : Int) : Nat := if 0 ≤ n then (2 * n).toNat else (-2 * n - 1).toNat
def unzz (u : Nat) : Int := if u % 2 = 0 then ((u / 2 : Nat) : Int) else -((u / 2 : Nat) : Int) - 1
/-- A group with others behind it. -/
def hiB (k : Nat) : UInt8 := UInt8.ofNat (k % 128 + 128)
/-- A number's bytes. -/
def numB (u : Nat) : List UInt8 := if h : u < 128 then [UInt8.ofNat u] else hiB u :: numB (u / 128)
termination_by u
decreasing_by omega
def enc (n : Int) : List UInt8 := numB (zz n)

theorem numB_lo (u : Nat) (h : u < 128) : numB u = [UInt8.ofNat u] := by rw [numB, dif_pos h]
theorem numB_hi (u : Nat) (h : ¬ u < 128) : numB u = hiB u :: numB (u / 128) := by rw [numB, dif_neg h]

theorem u8v_ofNat (k : Nat) (h : k < 256) : u8v (UInt8.ofNat k) = .int .u8 (k : Int) := by
  simp [u8v, UInt8.toNat_ofNat', Nat.mod_eq_of_lt h]

/-- How long: 'k' groups are enough for a number below 128^k. -/
theorem numB_len : ∀ (k u : Nat), 0 < k → u < 128 ^ k → (numB u).length ≤ k
  | 0, _, h, _ => absurd h (by decide)
  | k + 1, u, _, h => by
    by_cases hu : u < 128
    · rw [numB_lo u hu]; simp
    · rw [numB_hi u hu]
      have h2 : u / 128 < 128 ^ k := by rw [Nat.div_lt_iff_lt_mul (by decide)]; rw [Nat.pow_succ] at h; exact h
      rcases Nat.eq_zero_or_pos k with rfl | hk
      · simp at h; omega
      · have := numB_len k (u / 128) hk h2
        simp; omega

theorem numB_len64 (u : Nat) (h : u < 18446744073709551616) : (numB u).length ≤ 10 := numB_len 10 u (by decide) (by omega)
theorem numB_pos (u : Nat) : 0 < (numB u).length := by
  by_cases hu : u < 128
  · rw [numB_lo u hu]; simp
  · rw [numB_hi u hu]; simp

theorem zz_lt (n : Int) (h0 : -9223372036854775808 ≤ n) (h1 : n ≤ 9223372036854775807) : zz n < 18446744073709551616 := by
  unfold zz; split <;> omega
theorem enc_len (n : Int) (h0 : -9223372036854775808 ≤ n) (h1 : n ≤ 9223372036854775807) : (enc n).length ≤ 10 := numB_len64 _ (zz_lt n h0 h1)
theorem unzz_zz (n : Int) : unzz (zz n) = n := by
  unfold unzz zz; split <;> split <;> omega
theorem zz_unzz (u : Nat) : zz (unzz u) = u := by
  unfold unzz zz; split <;> split <;> omega

/-- A number and its opposite less one are of one length. -/
theorem numB_len_even (m : Nat) : (numB (2 * m + 1)).length = (numB (2 * m)).length := by
  by_cases h : 2 * m < 128
  · rw [numB_lo _ h, numB_lo _ (by omega)]; rfl
  · rw [numB_hi _ h, numB_hi _ (by omega), show (2 * m + 1) / 128 = 2 * m / 128 by omega]; rfl
theorem enc_len_opp (n : Int) : (enc (-1 - n)).length = (enc n).length := by
  unfold enc
  by_cases h : 0 ≤ n
  · have e1 : zz n = 2 * n.toNat := by unfold zz; rw [if_pos h]; omega
    have e2 : zz (-1 - n) = 2 * n.toNat + 1 := by unfold zz; rw [if_neg (by omega)]; omega
    rw [e1, e2, numB_len_even]
  · have e1 : zz n = 2 * (-1 - n).toNat + 1 := by unfold zz; rw [if_neg h]; omega
    have e2 : zz (-1 - n) = 2 * (-1 - n).toNat := by unfold zz; rw [if_pos (by omega)]; omega
    rw [e1, e2, numB_len_even]

theorem or128 (k : Nat) : bits .or .u8 ((k : Int) % 256) 128 = ((k % 128 + 128 : Nat) : Int) := by
  have hk : k % 256 < 256 := Nat.mod_lt _ (by decide)
  have e : ∀ a, a < 256 → (a ||| 128 : Nat) = a % 128 + 128 := by decide +kernel
  have h1 : (BitVec.ofInt 8 ((k : Int) % 256)).toNat = k % 256 := by
    rw [show ((k : Int) % 256) = ((k % 256 : Nat) : Int) by simp, BitVec.ofInt_natCast, BitVec.toNat_ofNat]
    omega
  show IntKind.u8.wrap ((BitVec.ofInt 8 ((k : Int) % 256) ||| BitVec.ofInt 8 128).toNat : Int) = _
  rw [BitVec.toNat_or, h1, show (BitVec.ofInt 8 128).toNat = 128 from rfl, e _ hk, IntKind.wrap_u8]
  omega

theorem xor_zz (n : Int) (h0 : -9223372036854775808 ≤ n) (h1 : n ≤ 9223372036854775807) :
    bits BinOp.xor IntKind.u64 (IntKind.u64.wrap (wrap64 (n * 2))) (IntKind.u64.wrap (n / 9223372036854775808)) = (zz n : Int) := by
  simp only [IntKind.wrap_u64, RowKit.wrap64]
  by_cases hn : 0 ≤ n
  · have ea : ((n * 2 + 9223372036854775808) % 18446744073709551616 - 9223372036854775808) % 18446744073709551616 = (((2 * n).toNat : Nat) : Int) := by omega
    have eb : n / 9223372036854775808 % 18446744073709551616 = ((0 : Nat) : Int) := by omega
    rw [ea, eb, bits_xor_u64_nat _ _ (by omega) (by omega), Nat.xor_zero]
    unfold zz
    rw [if_pos hn]
  · have ea : ((n * 2 + 9223372036854775808) % 18446744073709551616 - 9223372036854775808) % 18446744073709551616 = (((18446744073709551616 + 2 * n).toNat : Nat) : Int) := by omega
    have eb : n / 9223372036854775808 % 18446744073709551616 = ((18446744073709551615 : Nat) : Int) := by omega
    have hx : ∀ a, a < 18446744073709551616 → (a ^^^ 18446744073709551615 : Nat) = 18446744073709551615 - a := by
      intro a ha
      have := congrArg BitVec.toNat (BitVec.xor_allOnes (x := BitVec.ofNat 64 a))
      rw [BitVec.toNat_xor, BitVec.toNat_not, BitVec.toNat_ofNat, BitVec.toNat_allOnes, Nat.mod_eq_of_lt (show a < 2 ^ 64 from ha)] at this
      exact this
    rw [ea, eb, bits_xor_u64_nat _ _ (by omega) (by omega), hx _ (by omega)]
    unfold zz
    rw [if_neg hn]
    omega

theorem not_zz (n : Int) (h0 : -9223372036854775808 ≤ n) (h1 : n < 0) :
    bits BinOp.xor IntKind.u64 IntKind.u64.max (IntKind.u64.wrap (IntKind.u64.wrap n * 2)) = (zz n : Int) := by
  have hx : ∀ a, a < 18446744073709551616 → (18446744073709551615 ^^^ a : Nat) = 18446744073709551615 - a := by
    intro a ha
    have := congrArg BitVec.toNat (BitVec.allOnes_xor (x := BitVec.ofNat 64 a))
    rw [BitVec.toNat_xor, BitVec.toNat_not, BitVec.toNat_ofNat, BitVec.toNat_allOnes, Nat.mod_eq_of_lt (show a < 2 ^ 64 from ha)] at this
    exact this
  rw [show IntKind.u64.max = ((18446744073709551615 : Nat) : Int) by decide]
  simp only [IntKind.wrap_u64]
  have ea : n % 18446744073709551616 * 2 % 18446744073709551616 = (((18446744073709551616 + 2 * n).toNat : Nat) : Int) := by omega
  rw [ea, bits_xor_u64_nat _ _ (by omega) (by omega), hx _ (by omega)]
  unfold zz
  rw [if_neg (by omega)]
  omega

theorem dbl_zz (n : Int) (h0 : 0 ≤ n) (h1 : n ≤ 9223372036854775807) : IntKind.u64.wrap (IntKind.u64.wrap n * 2) = (zz n : Int) := by
  simp only [IntKind.wrap_u64]
  unfold zz
  rw [if_pos h0]
  omega

end Go.Proofs.YtkgdcbpiicckkaaGreatDoor
