/- The bytes of code, in plain Lean: what is written is read; of a beginning the reading ends too soon. No program in sight. -/
import Derived.Test.YtnhdefaagicejaaDoorRead
import Derived.Test.YtnhdefaagicejaaDoorCodeP
namespace Go.Proofs.YtnhdefaagicejaaDoor
set_option linter.unusedSimpArgs false
set_option linter.unusedVariables false
open Go.RowKit

def insB (x : InsP) : List UInt8 := enc x.op ++ (enc x.a ++ enc x.b)
def inssB (l : List InsP) : List UInt8 := (l.map insB).flatten
def strB (t : List UInt8) : List UInt8 := enc t.length ++ t
def strsB (l : List (List UInt8)) : List UInt8 := (l.map strB).flatten
def numsB (l : List Int) : List UInt8 := (l.map enc).flatten
/-- All of a code's bytes but the first two and the sum. -/
def restB (c : CodeP) : List UInt8 := enc c.ins.length ++ (inssB c.ins ++ (enc c.strs.length ++ (strsB c.strs ++ (enc c.funs.length ++ (numsB c.funs ++ enc c.glob)))))
def codeB (c : CodeP) : List UInt8 := [83, 67] ++ restB c
theorem inssB_cons (x : InsP) (l : List InsP) : inssB (x :: l) = insB x ++ inssB l := rfl
theorem inssB_snoc (x : InsP) (l : List InsP) : inssB (l ++ [x]) = inssB l ++ insB x := by simp [inssB]
theorem strsB_cons (t : List UInt8) (l : List (List UInt8)) : strsB (t :: l) = strB t ++ strsB l := rfl
theorem strsB_snoc (t : List UInt8) (l : List (List UInt8)) : strsB (l ++ [t]) = strsB l ++ strB t := by simp [strsB]
theorem numsB_cons (n : Int) (l : List Int) : numsB (n :: l) = enc n ++ numsB l := rfl
theorem numsB_snoc (n : Int) (l : List Int) : numsB (l ++ [n]) = numsB l ++ enc n := by simp [numsB]
/-- A number of 64 bits. -/
def In64 (z : Int) : Prop := -9223372036854775808 ≤ z ∧ z ≤ 9223372036854775807
theorem insB_len (x : InsP) (h : In64 x.op ∧ In64 x.a ∧ In64 x.b) : (insB x).length ≤ 30 := by
  have h1 := enc_len x.op h.1.1 h.1.2
  have h2 := enc_len x.a h.2.1.1 h.2.1.2
  have h3 := enc_len x.b h.2.2.1 h.2.2.2
  rw [insB, List.length_append, List.length_append]; omega
theorem inssB_len : ∀ l : List InsP, (∀ x ∈ l, In64 x.op ∧ In64 x.a ∧ In64 x.b) → (inssB l).length ≤ 30 * l.length
  | [], _ => by simp [inssB]
  | x :: l, h => by
    have h1 := insB_len x (h x (by simp))
    have h2 := inssB_len l fun m hm => h m (by simp [hm])
    rw [inssB_cons, List.length_append, List.length_cons]; omega
theorem numsB_len : ∀ l : List Int, (∀ n ∈ l, In64 n) → (numsB l).length ≤ 10 * l.length
  | [], _ => by simp [numsB]
  | n :: l, h => by
    have h1 := enc_len n (h n (by simp)).1 (h n (by simp)).2
    have h2 := numsB_len l fun m hm => h m (by simp [hm])
    rw [numsB_cons, List.length_append, List.length_cons]; omega
theorem strB_len (t : List UInt8) (h : t.length ≤ 5000) : (strB t).length ≤ 5010 := by
  have := enc_len t.length (by omega) (by omega)
  rw [strB, List.length_append]; omega
theorem strsB_len : ∀ l : List (List UInt8), (∀ t ∈ l, t.length ≤ 5000) → (strsB l).length ≤ 5010 * l.length
  | [], _ => by simp [strsB]
  | t :: l, h => by
    have h1 := strB_len t (h t (by simp))
    have h2 := strsB_len l fun m hm => h m (by simp [hm])
    rw [strsB_cons, List.length_append, List.length_cons]; omega

theorem numR_ok (n lo hi : Int) (r : List UInt8) (h0 : In64 n) (hlo : lo ≤ n) (hhi : n ≤ hi) : numR lo hi (enc n ++ r, 0) = (n, (r, 0)) := by
  have hr := raw_numB (zz n) r (zz_lt n h0.1 h0.2)
  rw [numR, if_neg (by simp)]
  rw [show numB (zz n) = enc n from rfl] at hr
  simp only [hr, if_neg (show ¬ (0 : Nat) ≠ 0 by simp), unzz_zz, if_neg (show ¬ (n < lo ∨ n > hi) by omega)]
  simp
theorem numR_cut (n lo hi : Int) (j : Nat) (h0 : In64 n) (hj : j < (enc n).length) : numR lo hi ((enc n).take j, 0) = (0, ((enc n).take j, 3)) := by
  have hr := raw_cut (zz n) j (zz_lt n h0.1 h0.2) hj
  rw [show numB (zz n) = enc n from rfl] at hr
  rw [numR, if_neg (by simp)]
  simp only [hr]
  rw [if_pos (by decide)]
theorem numR_err (lo hi : Int) (s : St) (h : s.2 ≠ 0) : numR lo hi s = (0, s) := by rw [numR, if_pos h]
theorem strR_err (hi : Int) (s : St) (h : s.2 ≠ 0) : strR hi s = ([], s) := by
  rw [strR, numR_err _ _ _ h]
  simp only [if_pos h]
/-- What is read as a number is one of 64 bits. -/
theorem numR_in (lo hi : Int) (s : St) (h : s.1.length ≤ 1000000000) : In64 (numR lo hi s).1 := by
  unfold numR
  split
  · exact ⟨by simp, by simp⟩
  · split
    rename_i u k e he
    split
    · exact ⟨by simp, by simp⟩
    · split
      · exact ⟨by simp, by simp⟩
      · rename_i h1 _
        have he0 : e = 0 := by omega
        subst he0
        have := (raw_ok he).2.2.2
        simp only
        unfold unzz
        split
        · exact ⟨by omega, by omega⟩
        · exact ⟨by omega, by omega⟩
theorem numR_len (lo hi : Int) (s : St) : (numR lo hi s).2.1.length ≤ s.1.length := by
  unfold numR
  split
  · simp
  · split
    split
    · simp
    · split
      · simp
      · simp
theorem strR_len (hi : Int) (s : St) : (strR hi s).2.1.length ≤ s.1.length ∧ (strR hi s).1.length ≤ s.1.length := by
  have h := numR_len 0 hi s
  unfold strR
  split
  rename_i n s' he
  rw [he] at h
  simp only at h
  split
  · exact ⟨h, by simp⟩
  · split
    · exact ⟨h, by simp⟩
    · refine ⟨?_, ?_⟩
      · simp only [List.length_drop]; omega
      · simp only [List.length_take]; omega

/-- A state of reading: 'rest' is still to come, all of it (whole), or a beginning too short. -/
def Rd (whole : Bool) (rest : List UInt8) (s : St) : Prop :=
  (∃ j, j ≤ rest.length ∧ (whole = true → j = rest.length) ∧ (whole = false → j < rest.length) ∧ s = (rest.take j, 0)) ∨ (whole = false ∧ s.2 = 3)
theorem Rd.fail {rest rest' : List UInt8} {s : St} (_ : Rd false rest s) (he : s.2 = 3) : Rd false rest' s := .inr ⟨rfl, he⟩
theorem rd_num {whole : Bool} {n lo hi : Int} {rest : List UInt8} {s : St} (h : Rd whole (enc n ++ rest) s) (h0 : In64 n) (hlo : lo ≤ n) (hhi : n ≤ hi) :
    Rd whole rest (numR lo hi s).2 ∧ ((numR lo hi s).1 = n ∨ (whole = false ∧ (numR lo hi s).1 = 0 ∧ (numR lo hi s).2.2 = 3)) := by
  rcases h with ⟨j, hj, hw, hc, rfl⟩ | ⟨hw, he⟩
  · rw [List.length_append] at hj hw hc
    rcases Nat.lt_or_ge j (enc n).length with hlt | hge
    · rw [List.take_append_of_le_length (by omega), numR_cut n _ _ j h0 hlt]
      cases whole with
      | true => have := hw rfl; omega
      | false => exact ⟨.inr ⟨rfl, rfl⟩, .inr ⟨rfl, rfl, rfl⟩⟩
    · have e : (enc n ++ rest).take j = enc n ++ rest.take (j - (enc n).length) := by rw [List.take_append, List.take_of_length_le hge]
      rw [e, numR_ok n _ _ _ h0 hlo hhi]
      exact ⟨.inl ⟨j - (enc n).length, by omega, fun h => by have := hw h; omega, fun h => by have := hc h; omega, rfl⟩, .inl rfl⟩
  · rw [numR_err _ _ _ (by rw [he]; decide)]
    exact ⟨.inr ⟨hw, he⟩, .inr ⟨hw, rfl, he⟩⟩
theorem rd_str {whole : Bool} {hi : Int} {t : List UInt8} {rest : List UInt8} {s : St} (h : Rd whole (strB t ++ rest) s) (ht : (t.length : Int) ≤ hi) (ht2 : t.length ≤ 1000000000) :
    Rd whole rest (strR hi s).2 ∧ (whole = true → (strR hi s).1 = t) := by
  have h0 : In64 (t.length : Int) := ⟨by omega, by omega⟩
  have hel : (strB t).length = (enc t.length).length + t.length := by rw [strB, List.length_append]
  rcases h with ⟨j, hj, hw, hc, rfl⟩ | ⟨hw, he⟩
  · rw [List.length_append, hel] at hj hw hc
    rcases Nat.lt_or_ge j (enc t.length).length with hlt | hge
    · have hn := numR_cut t.length 0 hi j h0 hlt
      rw [strB, List.append_assoc, List.take_append_of_le_length (by omega), strR, hn]
      simp only
      rw [if_pos (by decide)]
      cases whole with
      | true => have := hw rfl; omega
      | false => exact ⟨.inr ⟨rfl, rfl⟩, by simp⟩
    · have e : (strB t ++ rest).take j = enc t.length ++ (t ++ rest).take (j - (enc t.length).length) := by rw [strB, List.append_assoc, List.take_append, List.take_of_length_le hge]
      have hn := numR_ok t.length 0 hi ((t ++ rest).take (j - (enc t.length).length)) h0 (by omega) ht
      rw [e, strR, hn]
      simp only
      rw [if_neg (by decide), List.length_take, List.length_append]
      rcases Nat.lt_or_ge (j - (enc t.length).length) t.length with hlt | hge2
      · rw [if_pos (by omega)]
        cases whole with
        | true => have := hw rfl; omega
        | false => exact ⟨.inr ⟨rfl, rfl⟩, by simp⟩
      · rw [if_neg (by omega), Int.toNat_natCast]
        have e2 : (t ++ rest).take (j - (enc t.length).length) = t ++ rest.take (j - (enc t.length).length - t.length) := by rw [List.take_append, List.take_of_length_le hge2]
        rw [e2, List.take_left, List.drop_left]
        exact ⟨.inl ⟨j - (enc t.length).length - t.length, by omega, fun h => by have := hw h; omega, fun h => by have := hc h; omega, rfl⟩, fun _ => rfl⟩
  · rw [strR_err _ _ (by rw [he]; decide)]
    exact ⟨.inr ⟨hw, he⟩, fun h => by rw [hw] at h; cases h⟩
theorem rd_end {whole : Bool} {s : St} (h : Rd whole [] s) : (endR s).2 = if whole then 0 else 3 := by
  rcases h with ⟨j, hj, hw, hc, rfl⟩ | ⟨rfl, he⟩
  · cases whole with
    | true => simp [endR]
    | false => have := hc rfl; simp at this
  · simp only [Bool.false_eq_true, if_false]
    unfold endR
    split
    · exact he
    · rw [failR, if_neg (by rw [he]; decide)]; exact he
theorem rd_start (whole : Bool) (B : List UInt8) (k : Nat) (hk : whole = false → k < B.length) : Rd whole B (if whole then B else B.take k, 0) := by
  cases whole with
  | true => exact .inl ⟨B.length, Nat.le_refl _, fun _ => rfl, by simp, by simp⟩
  | false => exact .inl ⟨k, Nat.le_of_lt (hk rfl), by simp, hk, by simp⟩
end Go.Proofs.YtnhdefaagicejaaDoor
