/- Disks, in plain Lean: what lasts, what waits. No program in sight. -/
import Derived.Test.YtnhdefaagicejaaBase
namespace Go.Proofs.Ytnhdefaagicejaa
set_option linter.unusedSimpArgs false
set_option linter.unusedVariables false
open Go.RowKit

/-- Two rows, item by item. -/
def All2 {α β : Type} (R : α → β → Prop) (l : List α) (m : List β) : Prop := l.length = m.length ∧ ∀ (i : Nat) (a : α) (b : β), l[i]? = some a → m[i]? = some b → R a b
theorem All2.nil {α β : Type} {R : α → β → Prop} : All2 R [] [] := ⟨rfl, by simp⟩
theorem All2.mono {α β : Type} {R S : α → β → Prop} {l : List α} {m : List β} (h : All2 R l m) (hRS : ∀ a b, b ∈ m → R a b → S a b) : All2 S l m := ⟨h.1, fun i a b ha hb => hRS a b (List.mem_of_getElem? hb) (h.2 i a b ha hb)⟩
theorem All2.snoc {α β : Type} {R : α → β → Prop} {l : List α} {m : List β} {a : α} {b : β} (h : All2 R l m) (hab : R a b) : All2 R (l ++ [a]) (m ++ [b]) := by
  refine ⟨by simp [h.1], fun i x y hx hy => ?_⟩
  rw [List.getElem?_append] at hx hy
  rw [← h.1] at hy
  split at hx
  · rename_i hlt; rw [if_pos hlt] at hy; exact h.2 i x y hx hy
  · rename_i hlt
    rw [if_neg hlt] at hy
    have hi : i - l.length = 0 := by
      rcases Nat.eq_zero_or_pos (i - l.length) with h | h
      · exact h
      · rw [List.getElem?_eq_none (by simp; omega)] at hx; cases hx
    rw [hi] at hx hy
    simp at hx hy
    rw [← hx, ← hy]
    exact hab
theorem All2.set {α β : Type} {R : α → β → Prop} {l : List α} {m : List β} {a : α} {b : β} (h : All2 R l m) (j : Nat) (hab : R a b) : All2 R (l.set j a) (m.set j b) := by
  refine ⟨by simp [h.1], fun i x y hx hy => ?_⟩
  by_cases hij : j = i
  · subst hij
    rw [List.getElem?_set_self'] at hx hy
    rcases hl : l[j]? with _ | u
    · rw [hl] at hx; cases hx
    · rcases hm : m[j]? with _ | v
      · rw [hm] at hy; cases hy
      · rw [hl] at hx; rw [hm] at hy
        simp at hx hy
        rw [← hx, ← hy]; exact hab
  · rw [List.getElem?_set_ne hij] at hx hy
    exact h.2 i x y hx hy
theorem All2.get {α β : Type} {R : α → β → Prop} {l : List α} {m : List β} (h : All2 R l m) (i : Nat) (hi : i < m.length) : ∃ a, l[i]? = some a ∧ R a m[i] := by
  have hl : i < l.length := by rw [h.1]; exact hi
  exact ⟨l[i], List.getElem?_eq_getElem hl, h.2 i _ _ (List.getElem?_eq_getElem hl) (List.getElem?_eq_getElem hi)⟩
theorem All2.replicate {α β : Type} {R : α → β → Prop} {a : α} {b : β} (h : R a b) (n : Nat) : All2 R (List.replicate n a) (List.replicate n b) := by
  refine ⟨by simp, fun i x y hx hy => ?_⟩
  rw [List.getElem?_replicate] at hx hy
  split at hx
  · rename_i hlt; rw [if_pos hlt] at hy; cases hx; cases hy; exact h
  · cases hx

/-- A disk: what lasts (none: noughts), what waits, the power. -/
structure DS where
  L : List (Option (List UInt8))
  W : List (Nat × List UInt8)
  left : Int
  off : Bool
  steps : Nat

/-- The write that waits last for a sector. -/
def lastW : List (Nat × List UInt8) → Int → Option (List UInt8)
  | [], _ => none
  | p :: W, z => (lastW W z).or (if (p.1 : Int) = z then some p.2 else none)
theorem lastW_snoc (W : List (Nat × List UInt8)) (p : Nat × List UInt8) (z : Int) : lastW (W ++ [p]) z = if (p.1 : Int) = z then some p.2 else lastW W z := by
  induction W with
  | nil => simp [lastW]
  | cons q W ih =>
    rw [List.cons_append, lastW, ih, lastW]
    split <;> simp
theorem lastW_mem : ∀ (W : List (Nat × List UInt8)) (z : Int) (b : List UInt8), lastW W z = some b → ∃ p ∈ W, (p.1 : Int) = z ∧ p.2 = b
  | [], _, _, h => by simp [lastW] at h
  | p :: W, z, b, h => by
    rw [lastW] at h
    cases hl : lastW W z with
    | some c =>
      rw [hl] at h
      simp at h
      obtain ⟨q, hq, h1, h2⟩ := lastW_mem W z c hl
      exact ⟨q, by simp [hq], h1, by rw [h2, h]⟩
    | none =>
      rw [hl] at h
      simp at h
      exact ⟨p, by simp, h.1, h.2⟩
def zeros : List UInt8 := List.replicate 512 0
/-- What is read. -/
def DS.read (s : DS) (n : Nat) : List UInt8 := match lastW s.W n with
  | some b => b
  | none => (s.L.getD n none).getD zeros
/-- The writes that stay. -/
def settleL (L : List (Option (List UInt8))) : List (Nat × List UInt8) → List Bool → List (Option (List UInt8))
  | p :: W, k :: ks => settleL (if k then L.set p.1 (some p.2) else L) W ks
  | _, _ => L
theorem settleL_length : ∀ (W : List (Nat × List UInt8)) (ks : List Bool) (L : List (Option (List UInt8))), (settleL L W ks).length = L.length
  | [], _, _ => by simp [settleL]
  | _ :: _, [], _ => by simp [settleL]
  | p :: W, k :: ks, L => by rw [settleL, settleL_length W ks]; split <;> simp
theorem settleL_snoc : ∀ (W : List (Nat × List UInt8)) (ks : List Bool) (L : List (Option (List UInt8))) (p : Nat × List UInt8) (k : Bool), W.length = ks.length → settleL L (W ++ [p]) (ks ++ [k]) = if k then (settleL L W ks).set p.1 (some p.2) else settleL L W ks
  | [], [], L, p, k, _ => by cases k <;> simp [settleL]
  | q :: W, j :: ks, L, p, k, h => by rw [List.cons_append, List.cons_append, settleL, settleL_snoc W ks _ p k (by simpa using h), settleL]
  | [], _ :: _, _, _, _, h => by simp at h
  | _ :: _, [], _, _, _, h => by simp at h
theorem settleL_ok : ∀ (W : List (Nat × List UInt8)) (ks : List Bool) (L : List (Option (List UInt8))), (∀ p ∈ W, p.2.length = 512) → (∀ b, some b ∈ L → b.length = 512) → ∀ b, some b ∈ settleL L W ks → b.length = 512
  | [], _, _, _, hL => by simpa [settleL] using hL
  | _ :: _, [], _, _, hL => by simpa [settleL] using hL
  | p :: W, k :: ks, L, hW, hL => by
    rw [settleL]
    refine settleL_ok W ks _ (fun q hq => hW q (by simp [hq])) ?_
    split
    · intro b hb
      rcases List.mem_or_eq_of_mem_set hb with h | h
      · exact hL b h
      · cases h; exact hW p (by simp)
    · exact hL
/-- A change that may be made. -/
def DS.spend (s : DS) : DS := if s.left = 0 then { s with off := true } else { s with left := if 0 < s.left then s.left - 1 else s.left, steps := s.steps + 1 }
/-- The state is in order. -/
def DS.ok (s : DS) : Prop := (∀ p ∈ s.W, p.1 < s.L.length ∧ p.2.length = 512) ∧ (∀ b, some b ∈ s.L → b.length = 512) ∧ s.left ≤ 9223372036854775807 ∧ -1 ≤ s.left

end Go.Proofs.Ytnhdefaagicejaa
