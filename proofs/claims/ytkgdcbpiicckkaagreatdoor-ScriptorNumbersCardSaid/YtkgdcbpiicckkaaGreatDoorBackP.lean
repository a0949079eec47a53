/- What is written is read; a beginning of it ends too soon: in plain Lean. No program in sight. -/
import Derived.Test.YtkgdcbpiicckkaaGreatDoorRead
namespace Go.Proofs.YtkgdcbpiicckkaaGreatDoor
set_option linter.unusedSimpArgs false
set_option linter.unusedVariables false
open Go.RowKit

def numsB (l : List Int) : List UInt8 := (l.map enc).flatten
def strB (t : List UInt8) : List UInt8 := enc t.length ++ t
def strsB (l : List (List UInt8)) : List UInt8 := (l.map strB).flatten
theorem numsB_cons (n : Int) (l : List Int) : numsB (n :: l) = enc n ++ numsB l := rfl
theorem strsB_cons (t : List UInt8) (l : List (List UInt8)) : strsB (t :: l) = strB t ++ strsB l := rfl
theorem numsB_snoc (n : Int) (l : List Int) : numsB (l ++ [n]) = numsB l ++ enc n := by simp [numsB]
theorem strsB_snoc (t : List UInt8) (l : List (List UInt8)) : strsB (l ++ [t]) = strsB l ++ strB t := by simp [strsB]
theorem numsB_len : ∀ l : List Int, (∀ n ∈ l, -9223372036854775808 ≤ n ∧ n ≤ 9223372036854775807) → (numsB l).length ≤ 10 * l.length
  | [], _ => by simp [numsB]
  | n :: l, h => by
    have h1 := enc_len n (h n (by simp)).1 (h n (by simp)).2
    have h2 := numsB_len l fun m hm => h m (by simp [hm])
    rw [numsB_cons, List.length_append, List.length_cons]; omega
theorem strB_len (t : List UInt8) (h : t.length ≤ 200) : (strB t).length ≤ 210 := by
  have := enc_len t.length (by omega) (by omega)
  rw [strB, List.length_append]; omega
theorem strsB_len : ∀ l : List (List UInt8), (∀ t ∈ l, t.length ≤ 200) → (strsB l).length ≤ 210 * l.length
  | [], _ => by simp [strsB]
  | t :: l, h => by
    have h1 := strB_len t (h t (by simp))
    have h2 := strsB_len l fun m hm => h m (by simp [hm])
    rw [strsB_cons, List.length_append, List.length_cons]; omega

theorem numR_ok (n lo hi : Int) (r : List UInt8) (h0 : -9223372036854775808 ≤ n) (h1 : n ≤ 9223372036854775807) (hlo : lo ≤ n) (hhi : n ≤ hi) : numR lo hi (enc n ++ r, 0) = (n, (r, 0)) := by
  have hr := raw_numB (zz n) r (zz_lt n h0 h1)
  rw [numR, if_neg (by simp)]
  rw [show numB (zz n) = enc n from rfl] at hr
  simp only [hr, if_neg (show ¬ (0 : Nat) ≠ 0 by simp), unzz_zz, if_neg (show ¬ (n < lo ∨ n > hi) by omega)]
  simp
theorem numR_cut (n lo hi : Int) (j : Nat) (h0 : -9223372036854775808 ≤ n) (h1 : n ≤ 9223372036854775807) (hj : j < (enc n).length) : numR lo hi ((enc n).take j, 0) = (0, ((enc n).take j, 3)) := by
  have hr := raw_cut (zz n) j (zz_lt n h0 h1) hj
  rw [show numB (zz n) = enc n from rfl] at hr
  rw [numR, if_neg (by simp)]
  simp only [hr]
  rw [if_pos (by decide)]
theorem numR_err (lo hi : Int) (s : St) (h : s.2 ≠ 0) : numR lo hi s = (0, s) := by rw [numR, if_pos h]
theorem strR_err (hi : Int) (s : St) (h : s.2 ≠ 0) : strR hi s = ([], s) := by
  rw [strR, numR_err _ _ _ h]
  simp only [if_pos h]

/-- A state of reading: 'rest' is still to come, all of it (whole), or a beginning too short. -/
def Rd (whole : Bool) (rest : List UInt8) (s : St) : Prop :=
  (∃ j, j ≤ rest.length ∧ (whole = true → j = rest.length) ∧ (whole = false → j < rest.length) ∧ s = (rest.take j, 0)) ∨ (whole = false ∧ s.2 = 3)
theorem rd_num {whole : Bool} {n : Int} {rest : List UInt8} {s : St} (h : Rd whole (enc n ++ rest) s) (h0 : -9223372036854775808 ≤ n) (h1 : n ≤ 9223372036854775807) :
    Rd whole rest (numR (-9223372036854775808) 9223372036854775807 s).2 ∧ (whole = true → (numR (-9223372036854775808) 9223372036854775807 s).1 = n) := by
  rcases h with ⟨j, hj, hw, hc, rfl⟩ | ⟨hw, he⟩
  · rw [List.length_append] at hj hw hc
    rcases Nat.lt_or_ge j (enc n).length with hlt | hge
    · rw [List.take_append_of_le_length (by omega), numR_cut n _ _ j h0 h1 hlt]
      cases whole with
      | true => have := hw rfl; omega
      | false => exact ⟨.inr ⟨rfl, rfl⟩, by simp⟩
    · have e : (enc n ++ rest).take j = enc n ++ rest.take (j - (enc n).length) := by rw [List.take_append, List.take_of_length_le hge]
      rw [e, numR_ok n _ _ _ h0 h1 h0 h1]
      exact ⟨.inl ⟨j - (enc n).length, by omega, fun h => by have := hw h; omega, fun h => by have := hc h; omega, rfl⟩, fun _ => rfl⟩
  · rw [numR_err _ _ _ (by rw [he]; decide)]
    exact ⟨.inr ⟨hw, he⟩, fun h => by rw [hw] at h; cases h⟩
theorem rd_str {whole : Bool} {t : List UInt8} {rest : List UInt8} {s : St} (h : Rd whole (strB t ++ rest) s) (ht : t.length ≤ 200) :
    Rd whole rest (strR 200 s).2 ∧ (whole = true → (strR 200 s).1 = t) := by
  have h0 : -9223372036854775808 ≤ (t.length : Int) := by omega
  have h1 : (t.length : Int) ≤ 9223372036854775807 := by omega
  have hel : (strB t).length = (enc t.length).length + t.length := by rw [strB, List.length_append]
  rcases h with ⟨j, hj, hw, hc, rfl⟩ | ⟨hw, he⟩
  · rw [List.length_append, hel] at hj hw hc
    rcases Nat.lt_or_ge j (enc t.length).length with hlt | hge
    · have hn := numR_cut t.length 0 200 j h0 h1 hlt
      rw [strB, List.append_assoc, List.take_append_of_le_length (by omega), strR, hn]
      simp only
      rw [if_pos (by decide)]
      cases whole with
      | true => have := hw rfl; omega
      | false => exact ⟨.inr ⟨rfl, rfl⟩, by simp⟩
    · have e : (strB t ++ rest).take j = enc t.length ++ (t ++ rest).take (j - (enc t.length).length) := by rw [strB, List.append_assoc, List.take_append, List.take_of_length_le hge]
      have hn := numR_ok t.length 0 200 ((t ++ rest).take (j - (enc t.length).length)) h0 h1 (by omega) (by omega)
      rw [e, strR, hn]
      simp only
      rw [if_neg (by decide), List.length_take, List.length_append]
      rcases Nat.lt_or_ge (j - (enc t.length).length) t.length with hlt | hge2
      · rw [if_pos (by omega)]
        cases whole with
        | true => have := hw rfl; omega
        | false => exact ⟨.inr ⟨rfl, rfl⟩, by simp⟩
      · rw [if_neg (by omega), Int.toNat_natCast]
        have e2 : (t ++ rest).take (j - (enc t.length).length) = t ++ rest.take (j - (enc t.length).length - t.length) := by rw [List.take_append, List.take_of_length_le hge2]
        rw [e2, List.take_left, List.drop_left]
        exact ⟨.inl ⟨j - (enc t.length).length - t.length, by omega, fun h => by have := hw h; omega, fun h => by have := hc h; omega, rfl⟩, fun _ => rfl⟩
  · rw [strR_err _ _ (by rw [he]; decide)]
    exact ⟨.inr ⟨hw, he⟩, fun h => by rw [hw] at h; cases h⟩
theorem rd_end {whole : Bool} {s : St} (h : Rd whole [] s) : (endR s).2 = if whole then 0 else 3 := by
  rcases h with ⟨j, hj, hw, hc, rfl⟩ | ⟨rfl, he⟩
  · cases whole with
    | true => simp [endR]
    | false => have := hc rfl; simp at this
  · simp only [Bool.false_eq_true, if_false]
    unfold endR
    split
    · exact he
    · rw [failR, if_neg (by rw [he]; decide)]; exact he
theorem rd_start (whole : Bool) (B : List UInt8) (k : Nat) (hk : k < B.length) : Rd whole B (if whole then B else B.take k, 0) := by
  cases whole with
  | true => exact .inl ⟨B.length, Nat.le_refl _, fun _ => rfl, by simp, by simp⟩
  | false => exact .inl ⟨k, by omega, by simp, fun _ => hk, by simp⟩

end Go.Proofs.YtkgdcbpiicckkaaGreatDoor
