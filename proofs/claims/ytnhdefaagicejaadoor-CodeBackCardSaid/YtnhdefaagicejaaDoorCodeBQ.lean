/- More of the bytes of code, in plain Lean: their sum; a step read. No program in sight. -/
import Derived.Test.YtnhdefaagicejaaDoorCodeBP
import Derived.Test.YtnhdefaagicejaaDoorCrcO
namespace Go.Proofs.YtnhdefaagicejaaDoor
set_option linter.unusedSimpArgs false
set_option linter.unusedVariables false
open Go.RowKit

/-- All bytes of code, with their sum. -/
def codeS (c : CodeP) : List UInt8 := codeB c ++ four (crc (codeB c))
theorem opens_sum (l : List UInt8) : opens (l ++ four (crc l)) = some l := by
  have h4 : (four (crc l)).length = 4 := rfl
  have hk : (l ++ four (crc l)).length - 4 = l.length := by rw [List.length_append, h4]; omega
  unfold opens
  rw [hk, List.take_left, List.drop_left, if_pos ⟨by rw [List.length_append, h4]; omega, rfl⟩]
theorem opens_cut (l : List UInt8) (k : Nat) (hk : k < (l ++ four (crc l)).length) : opens ((l ++ four (crc l)).take k) = none ∨ (k - 4 < l.length ∧ opens ((l ++ four (crc l)).take k) = some (l.take (k - 4))) := by
  have h4 : (four (crc l)).length = 4 := rfl
  rw [List.length_append, h4] at hk
  have hlk : ((l ++ four (crc l)).take k).length = k := by rw [List.length_take, List.length_append, h4]; omega
  unfold opens
  rw [hlk]
  split
  · rename_i h
    refine .inr ⟨by omega, ?_⟩
    rw [List.take_take, Nat.min_eq_left (by omega), List.take_append_of_le_length (by omega)]
  · exact .inl rfl
/-- What Decode is handed: all of a code's bytes, or a beginning. -/
def DecIn (whole : Bool) (c : CodeP) (L : List UInt8) : Prop := if whole then L = codeS c else ∃ k, k < (codeS c).length ∧ L = (codeS c).take k
/-- What opening it answers. -/
theorem DecIn.opens {whole : Bool} {c : CodeP} {L : List UInt8} (h : DecIn whole c L) : (whole = false ∧ opens L = none) ∨ ∃ j, (whole = false → j < (codeB c).length) ∧ Go.Proofs.YtnhdefaagicejaaDoor.opens L = some (if whole then codeB c else (codeB c).take j) := by
  cases whole with
  | true =>
    have h' : L = codeS c := h
    subst h'
    exact .inr ⟨0, by simp, opens_sum _⟩
  | false =>
    obtain ⟨k, hk, rfl⟩ : ∃ k, k < (codeS c).length ∧ L = (codeS c).take k := h
    rcases opens_cut (codeB c) k hk with h1 | ⟨h1, h2⟩
    · exact .inl ⟨rfl, h1⟩
    · exact .inr ⟨k - 4, fun _ => h1, h2⟩
theorem codeB_len (c : CodeP) : (codeB c).length = (restB c).length + 2 := by simp [codeB]
/-- What is behind the first two bytes. -/
theorem rd_behind (whole : Bool) (c : CodeP) (j : Nat) (hj : whole = false → j < (codeB c).length) (h2 : 2 ≤ (if whole then codeB c else (codeB c).take j).length) :
    (if whole then codeB c else (codeB c).take j).take 2 = [83, 67] ∧ Rd whole (restB c) ((if whole then codeB c else (codeB c).take j).drop 2, 0) := by
  cases whole with
  | true => exact ⟨rfl, by simp only [if_true]; exact rd_start true (restB c) 0 (by simp)⟩
  | false =>
    have hj' := hj rfl
    rw [codeB_len] at hj'
    simp only [Bool.false_eq_true, if_false, List.length_take] at h2 ⊢
    have hj2 : 2 ≤ j := by omega
    obtain ⟨i, rfl⟩ : ∃ i, j = i + 2 := ⟨j - 2, by omega⟩
    have e : (codeB c).take (i + 2) = [83, 67] ++ (restB c).take i := by
      unfold codeB
      simp
    rw [e]
    exact ⟨rfl, rd_start false (restB c) i (fun _ => by omega)⟩
theorem rd_ins {whole : Bool} {x : InsP} {rest : List UInt8} {s : St} (h : Rd whole (insB x ++ rest) s) (h0 : 0 ≤ x.op ∧ x.op ≤ 28) (ha : In64 x.a) (hb : In64 x.b) :
    ∀ n1 s1, numR 0 28 s = (n1, s1) → ∀ n2 s2, numR (-9223372036854775808) 9223372036854775807 s1 = (n2, s2) → ∀ n3 s3, numR (-9223372036854775808) 9223372036854775807 s2 = (n3, s3) →
      Rd whole rest s3 ∧ (whole = true → (⟨n1, n2, n3⟩ : InsP) = x) ∧ In64 n1 ∧ In64 n2 ∧ In64 n3 := by
  intro n1 s1 e1 n2 s2 e2 n3 s3 e3
  have hz : In64 0 := ⟨by decide, by decide⟩
  have ho : In64 x.op := ⟨by omega, by omega⟩
  rw [insB, List.append_assoc, List.append_assoc] at h
  obtain ⟨r1, v1⟩ := rd_num h ho h0.1 h0.2
  rw [e1] at r1 v1
  obtain ⟨r2, v2⟩ := rd_num r1 ha ha.1 ha.2
  rw [e2] at r2 v2
  obtain ⟨r3, v3⟩ := rd_num r2 hb hb.1 hb.2
  rw [e3] at r3 v3
  simp only at r1 v1 r2 v2 r3 v3
  refine ⟨r3, fun hw => ?_, ?_, ?_, ?_⟩
  · have a1 : n1 = x.op := by rcases v1 with h | ⟨h, _⟩; exact h; rw [hw] at h; cases h
    have a2 : n2 = x.a := by rcases v2 with h | ⟨h, _⟩; exact h; rw [hw] at h; cases h
    have a3 : n3 = x.b := by rcases v3 with h | ⟨h, _⟩; exact h; rw [hw] at h; cases h
    rw [a1, a2, a3]
  · rcases v1 with h | ⟨_, h, _⟩ <;> rw [h] <;> assumption
  · rcases v2 with h | ⟨_, h, _⟩ <;> rw [h] <;> assumption
  · rcases v3 with h | ⟨_, h, _⟩ <;> rw [h] <;> assumption
/-- A count that was read: how far a list may be read. -/
def CntR (whole : Bool) (n N : Nat) (s : St) : Prop := N = n ∨ (whole = false ∧ N = 0 ∧ s.2 = 3)
theorem rd_cnt {whole : Bool} {n : Nat} {hi : Int} {rest : List UInt8} {s : St} (h : Rd whole (enc n ++ rest) s) (hn : (n : Int) ≤ hi) (hn2 : n ≤ 1000000000) :
    ∀ v s1, numR 0 hi s = (v, s1) → Rd whole rest s1 ∧ ∃ N : Nat, v = (N : Int) ∧ N ≤ n ∧ CntR whole n N s1 := by
  intro v s1 e
  obtain ⟨r, hv⟩ := rd_num (lo := 0) h (⟨by omega, by omega⟩ : In64 (n : Int)) (by omega) hn
  rw [e] at r hv
  simp only at r hv
  refine ⟨r, ?_⟩
  rcases hv with rfl | ⟨h1, rfl, h2⟩
  · exact ⟨n, rfl, Nat.le_refl _, .inl rfl⟩
  · exact ⟨0, rfl, Nat.zero_le _, .inr ⟨h1, rfl, h2⟩⟩
theorem CntR.done {whole : Bool} {n N : Nat} {s : St} {α : Type} {B : List α → List UInt8} {l : List α} {rest : List UInt8} (hB : B [] = []) (hn : l.length = n) (hc : CntR whole n N s) (h : Rd whole (B (l.drop N) ++ rest) s) : Rd whole rest s := by
  rcases hc with rfl | ⟨rfl, rfl, h3⟩
  · rw [List.drop_of_length_le (by omega), hB] at h
    exact h
  · exact h.fail h3
end Go.Proofs.YtnhdefaagicejaaDoor
