/- Bits of a row of bytes that are turned, in plain Lean: of closed bytes it is opened just if none was. No program in sight. -/
import Derived.Test.YtkgdcbpiicckkaaGreatDoorCrcO
namespace Go.Proofs.YtkgdcbpiicckkaaGreatDoor
set_option linter.unusedSimpArgs false
set_option linter.unusedVariables false
open Go.RowKit

theorem le_lt : ∀ L : List UInt8, le L < 2 ^ (8 * L.length)
  | [] => by simp [le]
  | c :: l => by
    have := le_lt l
    have hc : c.toNat < 2 ^ 8 := c.toNat_lt
    rw [le, List.length_cons, show 8 * (l.length + 1) = 8 * l.length + 8 by omega, Nat.pow_add]
    omega
theorem le_inj : ∀ a b : List UInt8, a.length = b.length → le a = le b → a = b
  | [], [], _, _ => rfl
  | x :: a, y :: b, h, e => by
    have hx : x.toNat < 2 ^ 8 := x.toNat_lt
    have hy : y.toNat < 2 ^ 8 := y.toNat_lt
    simp only [le] at e
    have e1 : x.toNat = y.toNat := by omega
    have e2 : le a = le b := by omega
    rw [UInt8.toNat_inj.1 e1, le_inj a b (by simpa using h) e2]
  | [], _ :: _, h, _ => by simp at h
  | _ :: _, [], h, _ => by simp at h
theorem le_append : ∀ a b : List UInt8, le (a ++ b) = le a + 2 ^ (8 * a.length) * le b
  | [], b => by simp [le]
  | x :: a, b => by
    rw [List.cons_append, le, le, le_append a b, List.length_cons, show 8 * (a.length + 1) = 8 + 8 * a.length by omega, Nat.pow_add, Nat.mul_add, Nat.mul_assoc]
    omega
theorem le_four (n : Nat) (h : n < 4294967296) : le (four n) = n := by
  simp only [four, le, UInt8.toNat_ofNat']
  omega
theorem set_le (L : List UInt8) (j x : Nat) (hj : j < L.length) (hx : x < 256) : le (L.set j (L[j] ^^^ UInt8.ofNat x)) = le L ^^^ 2 ^ (8 * j) * x := by
  have h1 := patch_succ L j 0 x (by simpa using hj)
  have h2 := patch_le L j 1 x (by omega)
  rw [patch_zero] at h1
  simp only [Nat.add_zero, Nat.pow_zero, Nat.div_one, Nat.zero_add, Nat.mod_eq_of_lt hx] at h1
  rw [show 256 ^ 1 = 256 from rfl, Nat.mod_eq_of_lt hx, h1] at h2
  exact h2
theorem bit_step (k i b : Nat) (h : b / 2 ^ i % 2 = 1) : 2 ^ k * (b % 2 ^ (i + 1)) = 2 ^ k * (b % 2 ^ i) ^^^ 2 ^ (k + i) := by
  have e : b % 2 ^ (i + 1) = b % 2 ^ i + 2 ^ i * 1 := by rw [Nat.pow_succ, Nat.mod_mul, h]
  rw [e, xor_add_mul i 1 _ (Nat.mod_lt _ (Nat.two_pow_pos i)), Nat.pow_add]
  apply Nat.eq_of_testBit_eq
  intro j
  simp only [Nat.testBit_xor, Nat.testBit_two_pow_mul, Nat.mul_one]
  cases decide (k ≤ j) <;> simp [Bool.xor_comm]
theorem bit_none (i b : Nat) (h : b / 2 ^ i % 2 ≠ 1) : b % 2 ^ (i + 1) = b % 2 ^ i := by
  rw [Nat.pow_succ, Nat.mod_mul, show b / 2 ^ i % 2 = 0 by omega]
  omega
theorem flip_le (M : List UInt8) (n : Nat) (h : n / 8 < M.length) : le (M.set (n / 8) (M[n / 8] ^^^ UInt8.ofNat (2 ^ (n % 8)))) = le M ^^^ 2 ^ n := by
  have : 2 ^ (n % 8) < 256 := Nat.lt_of_lt_of_le (Nat.pow_lt_pow_right (a := 2) (by decide) (Nat.mod_lt n (show 8 > 0 by decide))) (by decide)
  rw [set_le M _ _ h this, ← Nat.pow_add, show 8 * (n / 8) + n % 8 = n by omega]

theorem xor_split (n a b c d : Nat) (ha : a < 2 ^ n) (hc : c < 2 ^ n) : (a + 2 ^ n * b) ^^^ (c + 2 ^ n * d) = (a ^^^ c) + 2 ^ n * (b ^^^ d) := by
  rw [xor_add_mul n b a ha, xor_add_mul n d c hc, xor_add_mul n _ _ (Nat.xor_lt_two_pow ha hc)]
  apply Nat.eq_of_testBit_eq
  intro j
  simp only [Nat.testBit_xor, Nat.testBit_two_pow_mul]
  generalize a.testBit j = x
  generalize c.testBit j = y
  generalize b.testBit (j - n) = z
  generalize d.testBit (j - n) = t
  cases decide (n ≤ j) <;> cases x <;> cases y <;> cases z <;> cases t <;> rfl

/-- What tells whether it is opened. -/
theorem opens_le (a b : List UInt8) (hb : b.length = 4) : (opens (a ++ b)).isSome = decide (crc a ^^^ le b = 0) := by
  have hl : (a ++ b).length - 4 = a.length := by rw [List.length_append, hb]; omega
  have hlb : le b < 4294967296 := by have := le_lt b; rw [hb] at this; exact this
  unfold opens
  rw [hl, List.take_left, List.drop_left]
  by_cases h : four (crc a) = b
  · rw [if_pos ⟨by rw [List.length_append, hb]; omega, h⟩, ← h, le_four _ (crc_lt a), Nat.xor_self]
    simp
  · rw [if_neg (fun h2 => h h2.2)]
    have : crc a ^^^ le b ≠ 0 := by
      intro e
      have e2 : crc a = le b := by
        have := congrArg (· ^^^ le b) e
        simpa [Nat.xor_assoc] using this
      exact h (le_inj _ _ (by rw [hb]; rfl) (by rw [le_four _ (crc_lt a), e2]))
    simp [this]

/-- BITS TURNED IN CLOSED BYTES. -/
theorem opens_turned (L M : List UInt8) (D : Nat) (hM : M.length = L.length + 4) (h : le M = le (L ++ four (crc L)) ^^^ D) : (opens M).isSome = decide (fn (8 * L.length) D = 0) := by
  obtain ⟨a, b, rfl, ha, hb⟩ : ∃ a b, M = a ++ b ∧ a.length = L.length ∧ b.length = 4 := ⟨M.take L.length, M.drop L.length, (List.take_append_drop _ _).symm, by rw [List.length_take]; omega, by rw [List.length_drop]; omega⟩
  rw [opens_le a b hb]
  have hD : D = le (a ++ b) ^^^ le (L ++ four (crc L)) := by rw [h, Nat.xor_comm (le (L ++ _)), Nat.xor_assoc, Nat.xor_self, Nat.xor_zero]
  rw [le_append, le_append, ha, le_four _ (crc_lt L)] at hD
  have h1 : le a < 2 ^ (8 * L.length) := by rw [← ha]; exact le_lt a
  rw [xor_split _ _ _ _ _ h1 (le_lt L), xor_add_mul _ _ _ (Nat.xor_lt_two_pow h1 (le_lt L))] at hD
  have hd := crc_diff a L ha
  rw [ha] at hd
  rw [hD, fn_xor, fn_double, ← hd]
  have : le b ^^^ crc L ^^^ (crc a ^^^ crc L) = crc a ^^^ le b := by
    rw [Nat.xor_comm (crc a) (crc L), Nat.xor_assoc, ← Nat.xor_assoc (crc L), Nat.xor_self, Nat.zero_xor, Nat.xor_comm]
  rw [this]

theorem fn_shift (n k b : Nat) (hb : b < 4294967296) : decide (fn n (2 ^ k * b) = 0) = decide (b = 0) := by
  by_cases h0 : b = 0
  · subst h0; simp [fn_zero]
  · rw [decide_eq_false h0]
    refine decide_eq_false ?_
    rcases Nat.lt_or_ge n k with h | h
    · rw [show k = n + (k - n) by omega, Nat.pow_add, Nat.mul_assoc, fn_double]
      exact Nat.mul_ne_zero (by have := Nat.two_pow_pos (k - n); omega) h0
    · rw [show n = k + (n - k) by omega, fn_add, fn_double]
      exact fn_ne _ _ hb h0
/-- THE LAW: of closed bytes in which a burst was turned, just those come open in which nothing was. -/
theorem opens_burst (L M : List UInt8) (k i b : Nat) (hb : b < 4294967296) (hM : M.length = L.length + 4) (h : le M = le (L ++ four (crc L)) ^^^ 2 ^ k * (b % 2 ^ i)) : (opens M).isSome = decide (b % 2 ^ i = 0) := by
  rw [opens_turned L M _ hM h, fn_shift _ _ _ (Nat.lt_of_le_of_lt (Nat.mod_le _ _) hb)]

end Go.Proofs.YtkgdcbpiicckkaaGreatDoor
