/- Numbers as digits, in plain Lean: what is written is read. -/
import Derived.Lib.ParseIntB
import Derived.Lib.ItoaNum
import Derived.Lib.SlTrimSet
namespace Go.Proofs.YtkgdcbpiicckkaaGreatDoor
set_option linter.unusedSimpArgs false
set_option linter.unusedVariables false
open Go.Lib

theorem parseUintM_append (M : Nat) : ∀ (l r : List UInt8) (acc : Nat), parseUintM M acc (l ++ r) = match parseUintM M acc l with | .ok a => parseUintM M a r | e => e
  | [], r, acc => by simp [parseUintM]
  | c :: l, r, acc => by
    simp only [List.cons_append, parseUintM]
    split
    · split
      · rfl
      · split
        · rfl
        · exact parseUintM_append M l r _
    · rfl
theorem digit_toNat {k : Nat} (h : k < 10) : (UInt8.ofNat (48 + k)).toNat = 48 + k := by
  simp
  omega
theorem parse_dec (M : Nat) (hM : M < 18446744073709551616) (u : Nat) (hu : u ≤ M) : parseUintM M 0 (decDigits u) = .ok u := by
  induction u using Nat.strongRecOn with
  | _ u ih =>
    rw [decDigits]
    by_cases h : u < 10
    · rw [dif_pos h]
      have hd := digit_toNat h
      simp only [parseUintM, hd]
      rw [if_pos (by omega), if_neg (by omega), if_neg (by omega)]
      congr 1
      omega
    · rw [dif_neg h, parseUintM_append, ih (u / 10) (by omega) (by omega)]
      have hd := digit_toNat (Nat.mod_lt u (by decide : 0 < 10))
      simp only [parseUintM, hd]
      rw [if_pos (by omega), if_neg (by omega), if_neg (by omega)]
      congr 1
      omega
theorem dec_digit (u : Nat) : ∀ b ∈ decDigits u, 48 ≤ b.toNat ∧ b.toNat ≤ 57 := by
  induction u using Nat.strongRecOn with
  | _ u ih =>
    rw [decDigits]
    by_cases h : u < 10
    · rw [dif_pos h]
      intro b hb
      obtain rfl : b = UInt8.ofNat (48 + u) := by simpa using hb
      rw [digit_toNat h]
      omega
    · rw [dif_neg h]
      intro b hb
      rcases List.mem_append.1 hb with hb | hb
      · exact ih (u / 10) (by omega) b hb
      · obtain rfl : b = UInt8.ofNat (48 + u % 10) := by simpa using hb
        rw [digit_toNat (Nat.mod_lt u (by decide))]
        omega
theorem dec_ne (u : Nat) : decDigits u ≠ [] := by
  rw [decDigits]
  split <;> simp
theorem itoa_ne (z : Int) : itoa z ≠ [] := by
  unfold itoa
  split
  · simp
  · exact dec_ne _
/-- The digits of a number of 63 bits are read as it. -/
theorem parse_itoa (z : Int) (h0 : -4611686018427387904 ≤ z) (h1 : z ≤ 4611686018427387903) : parseIntB 63 (itoa z) = .ok z := by
  unfold itoa
  by_cases hz : z < 0
  · rw [if_pos hz]
    have hu := parse_dec (2 ^ 63 - 1) (by decide) z.natAbs (by omega)
    unfold parseIntB parseUintB
    simp only [show (45 : UInt8).toNat = 45 by rfl, or_true, if_true, if_neg (dec_ne _), hu]
    rw [if_neg (by simp), if_neg (by omega)]
    congr 1
    omega
  · rw [if_neg hz]
    obtain ⟨c, r, hc⟩ : ∃ c r, decDigits z.toNat = c :: r := by
      cases h : decDigits z.toNat with
      | nil => exact absurd h (dec_ne _)
      | cons c r => exact ⟨c, r, rfl⟩
    have hcd := dec_digit z.toNat c (by rw [hc]; simp)
    have hu := parse_dec (2 ^ 63 - 1) (by decide) z.toNat (by omega)
    rw [hc] at hu ⊢
    unfold parseIntB parseUintB
    simp only [show ¬ (c.toNat = 43 ∨ c.toNat = 45) by omega, if_false, reduceCtorEq, hu]
    rw [if_neg (by omega), if_neg (by omega), if_neg (by omega)]
    congr 1
    omega
def digitSet : List UInt8 := [48, 49, 50, 51, 52, 53, 54, 55, 56, 57]
theorem trim_dec (l : List UInt8) (h : ∀ b ∈ l, 48 ≤ b.toNat ∧ b.toNat ≤ 57) : trimS l digitSet = [] := by
  have hall : ∀ b ∈ l, digitSet.contains b = true := by
    intro b hb
    obtain ⟨h1, h2⟩ := h b hb
    have : b.toNat = 48 ∨ b.toNat = 49 ∨ b.toNat = 50 ∨ b.toNat = 51 ∨ b.toNat = 52 ∨ b.toNat = 53 ∨ b.toNat = 54 ∨ b.toNat = 55 ∨ b.toNat = 56 ∨ b.toNat = 57 := by omega
    have hb' : b = UInt8.ofNat b.toNat := by simp
    rcases this with h | h | h | h | h | h | h | h | h | h <;> (rw [hb', h]; decide)
  have h1 : ∀ m : List UInt8, (∀ b ∈ m, digitSet.contains b = true) → m.dropWhile (digitSet.contains ·) = [] := by
    intro m
    induction m with
    | nil => intro _; rfl
    | cons b m ih =>
      intro hm
      rw [List.dropWhile_cons, if_pos (hm b (by simp))]
      exact ih fun c hc => hm c (by simp [hc])
  unfold trimS trimLeftS trimRightS
  rw [h1 l.reverse (fun b hb => hall b (by simpa using hb))]
  rfl
theorem nDigits_le (k : Nat) : ∀ u : Nat, u < 10 ^ (k + 1) → nDigits u ≤ k + 1 := by
  induction k with
  | zero => intro u hu; rw [nDigits_small (by simpa using hu)]; omega
  | succ k ih =>
    intro u hu
    by_cases h : u < 10
    · rw [nDigits_small h]; omega
    · rw [nDigits, dif_neg h]
      have := ih (u / 10) (by rw [Nat.pow_succ] at hu; omega)
      omega
theorem itoa_len (z : Int) (h0 : -4611686018427387904 ≤ z) (h1 : z ≤ 4611686018427387903) : (itoa z).length ≤ 20 := by
  unfold itoa
  split
  · rw [List.length_cons, decDigits_length]
    have := nDigits_le 18 z.natAbs (by omega)
    omega
  · rw [decDigits_length]
    have := nDigits_le 18 z.toNat (by omega)
    omega
end Go.Proofs.YtkgdcbpiicckkaaGreatDoor
