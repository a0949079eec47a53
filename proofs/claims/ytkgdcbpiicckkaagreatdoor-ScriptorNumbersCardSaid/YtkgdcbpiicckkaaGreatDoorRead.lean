/- Reading numbers of the wire format, in plain Lean. No program in sight. -/
import Derived.Test.YtkgdcbpiicckkaaGreatDoorWireP
namespace Go.Proofs.YtkgdcbpiicckkaaGreatDoor
set_option linter.unusedSimpArgs false
set_option linter.unusedVariables false
open Go.RowKit

/-- A number's bits, how many bytes they have, the error: 'f' bytes may still come, 'k' are read and made 'u'. -/
def rawF : Nat → Nat → Nat → List UInt8 → Nat × Nat × Nat
  | 0, _, _, _ => (0, 0, 2)
  | _ + 1, _, _, [] => (0, 0, 3)
  | f + 1, k, u, x :: l =>
    if k = 9 ∧ 1 < x.toNat then (0, 0, 2)
    else if x.toNat < 128 then (if x.toNat = 0 ∧ 0 < k then (0, 0, 2) else (u + x.toNat * 128 ^ k, k + 1, 0))
    else rawF f (k + 1) (u + (x.toNat - 128) * 128 ^ k) l
def raw (l : List UInt8) : Nat × Nat × Nat := rawF 10 0 0 l

/-- The state of a reading: what is left, the first error. -/
abbrev St := List UInt8 × Nat
def numR (lo hi : Int) (s : St) : Int × St :=
  if s.2 ≠ 0 then (0, s) else
  match raw s.1 with
  | (u, k, e) => if e ≠ 0 then (0, (s.1, e)) else if unzz u < lo ∨ unzz u > hi then (0, (s.1, 4)) else (unzz u, (s.1.drop k, 0))
def strR (hi : Int) (s : St) : List UInt8 × St :=
  match numR 0 hi s with
  | (n, s') => if s'.2 ≠ 0 then ([], s') else if n > s'.1.length then ([], (s'.1, 3)) else (s'.1.take n.toNat, (s'.1.drop n.toNat, 0))
def failR (e : Nat) (s : St) : St := if s.2 = 0 then (s.1, e) else s
def endR (s : St) : St := if s.1 = [] then s else failR 2 s

theorem pow_max (k : Nat) (h : k ≤ 9) : 128 ^ k ≤ 9223372036854775808 := by
  have := Nat.pow_le_pow_right (n := 128) (by decide) h
  exact Nat.le_trans this (by decide)

theorem pow_pos (k : Nat) : 0 < 128 ^ k := Nat.pow_pos (by decide)

/-- What it answers is small. -/
theorem rawF_ok : ∀ (f k u : Nat) (l : List UInt8) (n j : Nat), f + k = 10 → u < 128 ^ k → rawF f k u l = (n, j, 0) →
    ∃ v, n = u + 128 ^ k * v ∧ j = k + (numB v).length ∧ (numB v).length ≤ l.length ∧ l.take (numB v).length = numB v ∧ n < 18446744073709551616 ∧ (0 < k → v ≠ 0)
  | 0, _, _, _, _, _, _, _, h => by simp [rawF] at h
  | _ + 1, _, _, [], _, _, _, _, h => by simp [rawF] at h
  | f + 1, k, u, x :: l, n, j, hf, hu, h => by
    have hx := x.toNat_lt
    have hP := pow_max k (by omega)
    rw [rawF] at h
    by_cases h1 : k = 9 ∧ 1 < x.toNat
    · rw [if_pos h1] at h; simp at h
    rw [if_neg h1] at h
    by_cases h2 : x.toNat < 128
    · rw [if_pos h2] at h
      by_cases h3 : x.toNat = 0 ∧ 0 < k
      · rw [if_pos h3] at h; simp at h
      rw [if_neg h3] at h
      simp only [Prod.mk.injEq, and_true] at h
      obtain ⟨rfl, rfl⟩ := h
      have e1 : UInt8.ofNat x.toNat = x := UInt8.ofNat_toNat
      refine ⟨x.toNat, by rw [Nat.mul_comm], by rw [numB_lo _ h2]; rfl, by rw [numB_lo _ h2]; simp, by rw [numB_lo _ h2]; simp, ?_, by omega⟩
      rcases Nat.lt_or_ge k 9 with hk | hk
      · have h8 : 128 ^ k ≤ 128 ^ 8 := Nat.pow_le_pow_right (by decide) (by omega)
        have : x.toNat * 128 ^ k ≤ 127 * 128 ^ 8 := Nat.mul_le_mul (by omega) h8
        have e8 : 127 * 128 ^ 8 = 9151314442816847872 := by decide
        omega
      · have : k = 9 := by omega
        subst this
        have : x.toNat ≤ 1 := by omega
        have : x.toNat * 128 ^ 9 ≤ 1 * 128 ^ 9 := Nat.mul_le_mul this (Nat.le_refl _)
        have e9 : 128 ^ 9 = 9223372036854775808 := by decide
        omega
    · rw [if_neg h2] at h
      have hk : k ≠ 9 := by rintro rfl; omega
      have hstep : u + (x.toNat - 128) * 128 ^ k < 128 ^ (k + 1) := by
        have : (x.toNat - 128) * 128 ^ k ≤ 127 * 128 ^ k := Nat.mul_le_mul (by omega) (Nat.le_refl _)
        rw [Nat.pow_succ]; omega
      obtain ⟨v, rfl, rfl, hl, ht, hn, hv⟩ := rawF_ok f (k + 1) _ l n j (by omega) hstep h
      have hv0 := hv (by omega)
      have hd : (x.toNat - 128 + 128 * v) / 128 = v := by omega
      have e2 : numB (x.toNat - 128 + 128 * v) = x :: numB v := by
        rw [numB_hi _ (by omega), hd]
        congr 1
        rw [hiB, show (x.toNat - 128 + 128 * v) % 128 + 128 = x.toNat by omega]
        exact UInt8.ofNat_toNat
      refine ⟨x.toNat - 128 + 128 * v, ?_, by rw [e2]; simp; omega, by rw [e2]; simpa using hl, by rw [e2]; simpa using ht, hn, by omega⟩
      rw [Nat.pow_succ, Nat.mul_add, Nat.mul_comm (x.toNat - 128), Nat.mul_assoc]
      omega

/-- BYTES THAT ARE READ AS A NUMBER ARE ITS BYTES. -/
theorem raw_ok {l : List UInt8} {n j : Nat} (h : raw l = (n, j, 0)) : j = (numB n).length ∧ j ≤ l.length ∧ l.take j = numB n ∧ n < 18446744073709551616 := by
  obtain ⟨v, e1, e2, hl, ht, hn, _⟩ := rawF_ok 10 0 0 l n j rfl (by simp) h
  obtain rfl : n = v := by simpa using e1
  obtain rfl : j = (numB n).length := by simpa using e2
  exact ⟨rfl, hl, ht, hn⟩

/-- An answer without error has bytes; with one it has none. -/
theorem rawF_err : ∀ (f k u : Nat) (l : List UInt8) (n j e : Nat), rawF f k u l = (n, j, e) → e = 0 ∨ (n = 0 ∧ j = 0 ∧ (e = 2 ∨ e = 3))
  | 0, _, _, _, _, _, _, h => by simp [rawF] at h; omega
  | _ + 1, _, _, [], _, _, _, h => by simp [rawF] at h; omega
  | f + 1, k, u, x :: l, n, j, e, h => by
    rw [rawF] at h
    split at h
    · simp at h; omega
    · split at h
      · split at h <;> · simp at h; omega
      · exact rawF_err f _ _ l n j e h
theorem raw_err {l : List UInt8} {n j e : Nat} (h : raw l = (n, j, e)) : e = 0 ∨ (n = 0 ∧ j = 0 ∧ (e = 2 ∨ e = 3)) := rawF_err 10 0 0 l n j e h

/-- A NUMBER's BYTES ARE READ AS IT. -/
theorem rawF_numB : ∀ (f k u v : Nat) (l : List UInt8), f + k = 10 → u + 128 ^ k * v < 18446744073709551616 → k ≤ 9 → (0 < k → v ≠ 0) → rawF f k u (numB v ++ l) = (u + 128 ^ k * v, k + (numB v).length, 0)
  | 0, k, u, v, l, hf, h, hk, hv => by omega
  | f + 1, k, u, v, l, hf, h, hk, hv => by
    have h9 : k = 9 → v ≤ 1 := by
      rintro rfl
      have e9 : 128 ^ 9 = 9223372036854775808 := by decide
      rw [e9] at h
      omega
    by_cases h2 : v < 128
    · have e1 : (UInt8.ofNat v).toNat = v := by rw [UInt8.toNat_ofNat']; omega
      rw [numB_lo v h2, List.singleton_append, rawF, e1, if_neg (by omega), if_pos h2, if_neg (by omega), Nat.mul_comm]
      rfl
    · have e1 : (hiB v).toNat = v % 128 + 128 := by rw [hiB, UInt8.toNat_ofNat']; omega
      have hk9 : k ≠ 9 := by intro e; have := h9 e; omega
      have e3 : u + v % 128 * 128 ^ k + 128 ^ (k + 1) * (v / 128) = u + 128 ^ k * v := by
        have hdm := Nat.div_add_mod v 128
        generalize hq : v / 128 = q at *
        generalize v % 128 = r at *
        rw [← hdm, Nat.pow_succ, Nat.mul_add, Nat.mul_assoc, Nat.mul_comm r]
        omega
      rw [numB_hi v h2, List.cons_append, rawF, e1, if_neg (by omega), if_neg (by omega), show v % 128 + 128 - 128 = v % 128 by omega,
        rawF_numB f (k + 1) _ (v / 128) l (by omega) (by rw [e3]; exact h) (by omega) (by omega), e3]
      simp; omega
theorem raw_numB (u : Nat) (l : List UInt8) (h : u < 18446744073709551616) : raw (numB u ++ l) = (u, (numB u).length, 0) := by
  have := rawF_numB 10 0 0 u l rfl (by simpa using h) (by decide) (by omega)
  simpa [raw] using this

/-- A BEGINNING OF IT ENDS TOO SOON. -/
theorem rawF_cut : ∀ (f k u v m : Nat), f + k = 10 → u + 128 ^ k * v < 18446744073709551616 → k ≤ 9 → m < (numB v).length → rawF f k u ((numB v).take m) = (0, 0, 3)
  | 0, k, u, v, m, hf, h, hk, hm => by omega
  | f + 1, k, u, v, 0, hf, h, hk, hm => by simp [rawF]
  | f + 1, k, u, v, m + 1, hf, h, hk, hm => by
    have h9 : k = 9 → v ≤ 1 := by
      rintro rfl
      have e9 : 128 ^ 9 = 9223372036854775808 := by decide
      rw [e9] at h
      omega
    by_cases h2 : v < 128
    · rw [numB_lo v h2] at hm; simp at hm
    · have e1 : (hiB v).toNat = v % 128 + 128 := by rw [hiB, UInt8.toNat_ofNat']; omega
      have hk9 : k ≠ 9 := by intro e; have := h9 e; omega
      have e3 : u + v % 128 * 128 ^ k + 128 ^ (k + 1) * (v / 128) = u + 128 ^ k * v := by
        have hdm := Nat.div_add_mod v 128
        generalize hq : v / 128 = q at *
        generalize v % 128 = r at *
        rw [← hdm, Nat.pow_succ, Nat.mul_add, Nat.mul_assoc, Nat.mul_comm r]
        omega
      rw [numB_hi v h2, List.length_cons] at hm
      rw [numB_hi v h2, List.take_succ_cons, rawF, e1, if_neg (by omega), if_neg (by omega), show v % 128 + 128 - 128 = v % 128 by omega]
      exact rawF_cut f (k + 1) _ (v / 128) m (by omega) (by rw [e3]; exact h) (by omega) (by omega)
theorem raw_cut (u m : Nat) (h : u < 18446744073709551616) (hm : m < (numB u).length) : raw ((numB u).take m) = (0, 0, 3) :=
  rawF_cut 10 0 0 u m rfl (by simpa using h) (by decide) hm

end Go.Proofs.YtkgdcbpiicckkaaGreatDoor
