/- What the law DiskKeeps asks for, in plain Lean. No program in sight. -/
import Derived.Test.YtnonhmjfhcmpgaaDiskM
namespace Go.Proofs.Ytnonhmjfhcmpgaa
open Go.RowKit

def fullL (x : UInt8) : List UInt8 := List.replicate 512 x
/-- The writes of a row of bytes, each to a place. -/
def rowW (p : Nat → Nat) (l : List UInt8) (k : Nat) : List (Nat × List UInt8) := (List.range k).map fun j => (p j, fullL (l.getD j 0))
theorem rowW_succ (p : Nat → Nat) (l : List UInt8) (k : Nat) : rowW p l (k + 1) = rowW p l k ++ [(p k, fullL (l.getD k 0))] := by simp [rowW, List.range_succ]
theorem rowW_length (p : Nat → Nat) (l : List UInt8) (k : Nat) : (rowW p l k).length = k := by simp [rowW]
def wasA (l : List UInt8) : Nat → List UInt8
  | 0 => List.replicate 8 0
  | k + 1 => (wasA l k).set (k % 8) (l.getD k 0)
theorem wasA_length (l : List UInt8) : ∀ k, (wasA l k).length = 8
  | 0 => by simp [wasA]
  | k + 1 => by rw [wasA, List.length_set, wasA_length l k]
def noneL : List (Option (List UInt8)) := List.replicate 8 none
def lastsA (l : List UInt8) (k : Nat) : List (Option (List UInt8)) := settleL noneL (rowW (· % 8) l k) ((rowW (· % 8) l k).map fun _ => true)
theorem lastsA_length (l : List UInt8) (k : Nat) : (lastsA l k).length = 8 := by rw [lastsA, settleL_length]; simp [noneL]
theorem lastsA_succ (l : List UInt8) (k : Nat) : lastsA l (k + 1) = (lastsA l k).set (k % 8) (some (fullL (l.getD k 0))) := by
  unfold lastsA
  rw [rowW_succ, List.map_append, List.map_cons, List.map_nil, settleL_snoc _ _ _ _ _ (by simp), if_pos rfl]
theorem zeros_eq : zeros = fullL 0 := rfl
theorem lastsA_get (l : List UInt8) : ∀ (k n : Nat), n < 8 → (((lastsA l k)[n]?).getD none).getD zeros = fullL ((wasA l k).getD n 0)
  | 0, n, hn => by
    have : (lastsA l 0) = noneL := by simp [lastsA, rowW, settleL]
    rw [this, zeros_eq, noneL, wasA, List.getElem?_replicate, if_pos hn, List.getD_eq_getElem?_getD, List.getElem?_replicate, if_pos hn]
    rfl
  | k + 1, n, hn => by
    have ih := lastsA_get l k n hn
    rw [lastsA_succ, wasA]
    by_cases h : k % 8 = n
    · subst h
      generalize l.getD k 0 = v
      have e2 : ((wasA l k).set (k % 8) v).getD (k % 8) 0 = v := by simp [List.getD, wasA_length, hn]
      rw [e2, List.getElem?_set_self (by rw [lastsA_length]; exact hn)]
      rfl
    · generalize l.getD k 0 = v
      have e2 : ((wasA l k).set (k % 8) v).getD n 0 = (wasA l k).getD n 0 := by simp [List.getD, List.getElem?_set_ne h]
      rw [e2, List.getElem?_set_ne h, ih]
/-- What a sector may hold behind the crash. -/
def mayBe (l m : List UInt8) (k1 k2 n : Nat) (x : UInt8) : Prop := x = (wasA l k1).getD n 0 ∨ ∃ j, j < k2 ∧ j * 3 % 8 = n ∧ m.getD j 0 = x
theorem crash_may (l m : List UInt8) (k1 : Nat) : ∀ (k2 : Nat) (ks : List Bool), ks.length = k2 → ∀ n, n < 8 → ∃ x, (((settleL (lastsA l k1) (rowW (· * 3 % 8) m k2) ks)[n]?).getD none).getD zeros = fullL x ∧ mayBe l m k1 k2 n x
  | 0, ks, hk, n, hn => by
    refine ⟨_, ?_, .inl rfl⟩
    have : settleL (lastsA l k1) (rowW (· * 3 % 8) m 0) ks = lastsA l k1 := by simp [rowW, settleL]
    rw [this, lastsA_get l k1 n hn]
  | k2 + 1, ks, hk, n, hn => by
    obtain ⟨ks', k, rfl⟩ : ∃ ks' k, ks = ks' ++ [k] := by
      have : ks ≠ [] := by rintro rfl; simp at hk
      exact ⟨ks.dropLast, ks.getLast this, (List.dropLast_concat_getLast this).symm⟩
    have hl : ks'.length = k2 := by simpa using hk
    obtain ⟨x, hx, hm⟩ := crash_may l m k1 k2 ks' hl n hn
    rw [rowW_succ, settleL_snoc _ _ _ _ _ (by rw [rowW_length, hl])]
    have hup : mayBe l m k1 (k2 + 1) n x := hm.imp id fun ⟨j, hj, h⟩ => ⟨j, by omega, h⟩
    cases k with
    | false => exact ⟨x, by simpa using hx, hup⟩
    | true =>
      by_cases h : k2 * 3 % 8 = n
      · refine ⟨m.getD k2 0, ?_, .inr ⟨k2, by omega, h, rfl⟩⟩
        rw [if_pos rfl]
        simp only [h]
        rw [List.getElem?_set_self (by rw [settleL_length, lastsA_length]; exact hn)]
        simp
      · refine ⟨x, ?_, hup⟩
        rw [if_pos rfl]
        simp only
        rw [List.getElem?_set_ne h]
        exact hx

end Go.Proofs.Ytnonhmjfhcmpgaa
