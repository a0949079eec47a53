/- The steps of a disk that is armed, in plain Lean. -/
import Derived.Test.YtnonhmjfhcmpgaaDisk6
namespace Go.Proofs.Ytnonhmjfhcmpgaa
open Go.RowKit

/-- A disk of four sectors, armed for n steps, of which k are made. -/
structure St (n k : Nat) (s : DS) : Prop where
  le : k ≤ n
  left : s.left = (n : Int) - k
  steps : s.steps = k
  len : s.L.length = 4
  wait : s.W.length ≤ k
  off : s.off = true → k = n
/-- What a step answers, and what is then. -/
def Nxt (n k : Nat) (r : Nat × DS) : Prop := (k < n ∧ r.1 = 0 ∧ r.2.off = false ∧ St n (k + 1) r.2) ∨ (¬ k < n ∧ r.1 = 8 ∧ r.2.off = true ∧ St n k r.2)
theorem St.nooff {n k : Nat} {s : DS} (h : St n k s) (hlt : k < n) : s.off = false := by
  cases ho : s.off with
  | false => rfl
  | true => have := h.off ho; omega
theorem St.write {n k : Nat} {s : DS} (h : St n k s) (z : Nat) (hz : z < 4) (b : List UInt8) : Nxt n k (s.write (z : Int) b) := by
  have hr : inR (z : Int) s.L.length = true := decide_eq_true ⟨by omega, by rw [h.len]; omega⟩
  have hr4 : inR (z : Int) 4 = true := decide_eq_true ⟨by omega, by omega⟩
  obtain ⟨h1, h2, h3, h4, h5, h6⟩ := h
  by_cases hlt : k < n
  · have ho : s.off = false := St.nooff ⟨h1, h2, h3, h4, h5, h6⟩ hlt
    have hl : ¬ s.left = 0 := by omega
    have hl' : 0 < s.left := by omega
    refine .inl ⟨hlt, ?_, ?_, ?_⟩
    · simp [DS.write, ho, hr, hl]
    · simp [DS.write, ho, hr, hl, DS.spend]
    · constructor <;> (try simp [DS.write, ho, hr4, hl, DS.spend, hl', h3, h4]) <;> omega
  · have hl : s.left = 0 := by omega
    refine .inr ⟨hlt, ?_, ?_, ?_⟩
    · cases ho : s.off <;> simp [DS.write, ho, hr, hl]
    · cases ho : s.off <;> simp [DS.write, ho, hr, hl, DS.spend]
    · cases ho : s.off <;> constructor <;> (try simp [DS.write, ho, hr4, hl, DS.spend, h3, h4]) <;> omega
theorem St.barrier {n k : Nat} {s : DS} (h : St n k s) : Nxt n k s.barrier := by
  obtain ⟨h1, h2, h3, h4, h5, h6⟩ := h
  by_cases hlt : k < n
  · have ho : s.off = false := St.nooff ⟨h1, h2, h3, h4, h5, h6⟩ hlt
    have hl : ¬ s.left = 0 := by omega
    have hl' : 0 < s.left := by omega
    refine .inl ⟨hlt, ?_, ?_, ?_⟩
    · simp [DS.barrier, ho, hl]
    · simp [DS.barrier, ho, hl, DS.spend, DS.settled]
    · constructor <;> (try simp [DS.barrier, ho, hl, DS.spend, DS.settled, hl', h3, h4, settleL_length]) <;> omega
  · have hl : s.left = 0 := by omega
    refine .inr ⟨hlt, ?_, ?_, ?_⟩
    · cases ho : s.off <;> simp [DS.barrier, ho, hl]
    · cases ho : s.off <;> simp [DS.barrier, ho, hl, DS.spend]
    · cases ho : s.off <;> constructor <;> (try simp [DS.barrier, ho, hl, DS.spend, h3, h4]) <;> omega
theorem St.read_on {n k : Nat} {s : DS} (h : St n k s) (ho : s.off = false) : s.readE 0 = (0, s.read 0) := by
  have hr : inR 0 s.L.length = true := decide_eq_true ⟨by omega, by rw [h.len]; omega⟩
  simp [DS.readE, ho, hr]
theorem read_off {s : DS} (ho : s.off = true) : s.readE 0 = (8, []) := by simp [DS.readE, ho]
theorem St.new (n : Nat) : St n 0 ⟨List.replicate 4 none, [], (n : Int), false, 0⟩ := ⟨Nat.zero_le _, by simp, rfl, rfl, by simp, by simp⟩
theorem crash_barrier (s : DS) : (s.crash []).barrier.1 = 0 := by simp [DS.barrier, DS.crash]
theorem crash_off (s : DS) (P : List Int) : (s.crash P).off = false := rfl

theorem DiskAt.dM {B : Nat} {w : World} {M I : Nat → Prop} {d : Nat} {s : DS} (h : DiskAt B w M I d s) : M d := by
  obtain ⟨_, _, _, _, _, _, _, _, _, _, _, _, _, _, _, _, hM⟩ := h
  exact (hM d).2 (.inl rfl)
/-- Arm, on a disk of the call's own. -/
theorem arm_own {w0 w : World} {d : Nat} {s : DS} (h : Own w0 w d s) (n : Nat) (hn : n ≤ 1000000000) :
    Calls Try.prog 13 #[.pointer (some ⟨d, 0, none⟩), .int .i64 (n : Int)] w (fun e w' => (∃ v, e = .returned v) ∧ Own w0 w' d { s with left := (n : Int) }) := by
  obtain ⟨M, I, hd, hbel⟩ := h
  have hdl := (hd.lt d hd.dM).1
  refine (arm_any w hd n hn).mono ?_
  rintro e w' ⟨hv, hd', hgr⟩
  exact ⟨hv, M, I, hd', hbel.trans ((Keeps.of_grown hgr rfl).below (fun i hi e => by omega) hbel.size)⟩
theorem off_own {w0 w : World} {d : Nat} {s : DS} (h : Own w0 w d s) :
    Calls Try.prog 14 #[.pointer (some ⟨d, 0, none⟩)] w (fun e w' => e = .returned (.bool s.off) ∧ w = w') := by
  obtain ⟨M, I, hd, _⟩ := h
  exact off_any w hd
theorem steps_own {w0 w : World} {d : Nat} {s : DS} (h : Own w0 w d s) :
    Calls Try.prog 15 #[.pointer (some ⟨d, 0, none⟩)] w (fun e w' => e = .returned (.int .i64 (s.steps : Int)) ∧ w = w') := by
  obtain ⟨M, I, hd, _⟩ := h
  exact steps_any w hd
theorem Own.bel {w0 w : World} {d : Nat} {s : DS} (h : Own w0 w d s) : Below w0.heap.size w0 w := by
  obtain ⟨_, _, _, hb⟩ := h; exact hb
theorem crash_nil {w0 w : World} {d : Nat} {s : DS} (h : Own w0 w d s) (hWl : s.W.length ≤ 1000000000) :
    Calls Try.prog 11 #[.pointer (some ⟨d, 0, none⟩), .slice none 0 0] w (fun e w' => (∃ v, e = .returned v) ∧ Own w0 w' d (s.crash [])) :=
  crash_own h hWl (Below.refl _ _) none 0 [] (by decide) (.inl rfl) (by simp)

end Go.Proofs.Ytnonhmjfhcmpgaa
