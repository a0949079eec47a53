/- Two disks, one a copy of the other: what is done to one leaves the other as it is. -/
import Derived.Test.YtnonhmjfhcmpgaaDisk6
import Derived.Test.YtnonhmjfhcmpgaaDisk7
namespace Go.Proofs.Ytnonhmjfhcmpgaa
open Go.RowKit

/-- Six sectors, and no more than k changes. -/
def Bd (k : Nat) (s : DS) : Prop := s.L.length = 6 ∧ s.W.length ≤ k ∧ s.steps ≤ k
theorem Bd.mono {k j : Nat} {s : DS} (h : Bd k s) (hj : k ≤ j) : Bd j s := ⟨h.1, by have := h.2.1; omega, by have := h.2.2; omega⟩
theorem Bd.write {k : Nat} {s : DS} (h : Bd k s) (n : Int) (b : List UInt8) : Bd (k + 1) (s.write n b).2 := by
  obtain ⟨h1, h2, h3⟩ := h
  unfold DS.write DS.spend
  refine ⟨?_, ?_, ?_⟩ <;> (repeat' split) <;> simp_all <;> omega
theorem Bd.barrier {k : Nat} {s : DS} (h : Bd k s) : Bd (k + 1) s.barrier.2 := by
  obtain ⟨h1, h2, h3⟩ := h
  unfold DS.barrier DS.spend DS.settled
  refine ⟨?_, ?_, ?_⟩ <;> (repeat' split) <;> simp_all [settleL_length] <;> omega

/-- Two disks of the call's own that share no block that either writes. -/
def Two (w0 w : World) (d c : Nat) (s s2 : DS) : Prop := ∃ M I M2 I2, DiskAt w0.heap.size w M I d s ∧ DiskAt w0.heap.size w M2 I2 c s2 ∧ (∀ b, M b → ¬ M2 b ∧ ¬ I2 b) ∧ (∀ b, M2 b → ¬ I b) ∧ Below w0.heap.size w0 w
theorem Two.swap {w0 w : World} {d c : Nat} {s s2 : DS} (h : Two w0 w d c s s2) : Two w0 w c d s2 s := by
  obtain ⟨M, I, M2, I2, h1, h2, h12, h21, hb⟩ := h
  exact ⟨M2, I2, M, I, h2, h1, fun b hb2 => ⟨fun hm => (h12 b hm).1 hb2, h21 b hb2⟩, fun b hm => (h12 b hm).2, hb⟩
theorem Two.upd {w0 w w' : World} {M I M2 I2 : Nat → Prop} {d c : Nat} {s s2 s' : DS} (h1 : DiskAt w0.heap.size w M I d s) (h2 : DiskAt w0.heap.size w M2 I2 c s2) (h12 : ∀ b, M b → ¬ M2 b ∧ ¬ I2 b) (h21 : ∀ b, M2 b → ¬ I b) (hb : Below w0.heap.size w0 w) (u : Upd w0.heap.size w M I d s' w') : Two w0 w' d c s' s2 := by
  have hbu := Upd.below h1 u hb.size
  obtain ⟨M', I', hd', hk, hM, hI⟩ := u
  refine ⟨M', I', M2, I2, hd', h2.keeps hk (fun b hm hx => (h12 b hx).1 hm) (fun b hm hx => (h12 b hx).2 hm), fun b hm => ?_, fun b hm hi => ?_, hb.trans hbu⟩
  · rcases hM b hm with h | h
    · exact h12 b h
    · exact ⟨fun h' => by have := (h2.lt b h').2; omega, fun h' => by have := (h2.ltI b h').2; omega⟩
  · rcases hI b hi with h | h
    · exact h21 b hm h
    · have := (h2.lt b hm).2; omega
theorem Two.below {w0 w w' : World} {d c : Nat} {s s2 : DS} (h : Two w0 w d c s s2) (hb : Below w.heap.size w w') : Two w0 w' d c s s2 := by
  obtain ⟨M, I, M2, I2, h1, h2, h12, h21, hbel⟩ := h
  exact ⟨M, I, M2, I2, h1.below hb, h2.below hb, h12, h21, hbel.trans (hb.mono hbel.size)⟩
theorem Two.bel {w0 w : World} {d c : Nat} {s s2 : DS} (h : Two w0 w d c s s2) : Below w0.heap.size w0 w := by
  obtain ⟨_, _, _, _, _, _, _, _, hb⟩ := h; exact hb
theorem write_two {w0 wp w : World} {d c : Nat} {s s2 : DS} (h : Two w0 wp d c s s2) (hst : s.steps ≤ 1000000000) (hWl : s.W.length ≤ 1000000000) (n : Int) (g : Nat) (b : List UInt8) (hb : b.length = 512) (hbp : Below wp.heap.size wp w) (hg : wp.heap.size ≤ g) (hat : At w (some ⟨g, 0, none⟩) (bytesV b)) :
    Calls Try.prog 8 #[.pointer (some ⟨d, 0, none⟩), .int .i64 n, .slice (some ⟨g, 0, none⟩) 512 512] w (fun e w' => e = .returned (.int .i64 ((s.write n b).1 : Int)) ∧ Two w0 w' d c (s.write n b).2 s2) := by
  obtain ⟨M, I, M2, I2, h1, h2, h12, h21, hbel⟩ := h
  have h1' := h1.below hbp
  have hb' : Below w0.heap.size w0 w := hbel.trans (hbp.mono hbel.size)
  refine (write_any w h1' hst hWl n _ 512 b hb hat (fun g' hg' => by cases hg'; intro hm; have hlt := (h1.lt _ hm).2; simp only at hlt; omega) hb'.size).mono ?_
  rintro e w' ⟨rfl, hu⟩
  exact ⟨rfl, Two.upd h1' (h2.below hbp) h12 h21 hb' hu⟩
theorem barrier_two {w0 w : World} {d c : Nat} {s s2 : DS} (h : Two w0 w d c s s2) (hst : s.steps ≤ 1000000000) (hWl : s.W.length ≤ 1000000000) :
    Calls Try.prog 10 #[.pointer (some ⟨d, 0, none⟩)] w (fun e w' => e = .returned (.int .i64 (s.barrier.1 : Int)) ∧ Two w0 w' d c s.barrier.2 s2) := by
  obtain ⟨M, I, M2, I2, h1, h2, h12, h21, hbel⟩ := h
  refine (barrier_any w h1 hst hWl hbel.size).mono ?_
  rintro e w' ⟨rfl, hu⟩
  exact ⟨rfl, Two.upd h1 h2 h12 h21 hbel hu⟩
/-- What Image answers. -/
def Img (w : World) (s : DS) (e : Ending) (w' : World) : Prop := ∃ ao cap, e = .returned (.slice ao (imgL s.L).length cap) ∧ At w' ao (bytesV (imgL s.L)) ∧ Below w.heap.size w w'
theorem DiskAt.apart {B : Nat} {w : World} {M I : Nat → Prop} {d : Nat} {s : DS} (h : DiskAt B w M I d s) : ∀ b, M b → ¬ I b := by
  obtain ⟨lb, lcap, mb, wo, wcap, lc, f, xs, _, hb, _, _, _, _, hdI, _, hM⟩ := h
  intro b hm
  rcases (hM b).1 hm with rfl | rfl | rfl | h
  · exact hdI
  · exact hb.il
  · exact hb.iM
  · exact hb.iw b h
theorem image_two {w0 w : World} {d c : Nat} {s s2 : DS} (h : Two w0 w d c s s2) (hL : s.L.length ≤ 65536) :
    Calls Try.prog 16 #[.pointer (some ⟨d, 0, none⟩)] w (Img w s) := by
  obtain ⟨M, I, M2, I2, h1, _⟩ := h
  refine (image_any w h1 hL).mono ?_
  rintro e w' ⟨ao, cap, rfl, hown, hb⟩
  exact ⟨ao, cap, rfl, At.own hown, hb⟩
theorem image_own {w0 w : World} {d : Nat} {s : DS} (h : Own w0 w d s) (hL : s.L.length ≤ 65536) :
    Calls Try.prog 16 #[.pointer (some ⟨d, 0, none⟩)] w (Img w s) := by
  obtain ⟨M, I, h1, _⟩ := h
  refine (image_any w h1 hL).mono ?_
  rintro e w' ⟨ao, cap, rfl, hown, hb⟩
  exact ⟨ao, cap, rfl, At.own hown, hb⟩
theorem copy_own {w0 w : World} {d : Nat} {s : DS} (h : Own w0 w d s) (hL : s.L.length = 6) :
    Calls Try.prog 17 #[.pointer (some ⟨d, 0, none⟩)] w (fun e w' => ∃ c, e = .returned (.pointer (some ⟨c, 0, none⟩)) ∧ Two w0 w' d c s ⟨s.L, [], -1, false, 0⟩) := by
  obtain ⟨M, I, h1, hbel⟩ := h
  refine (copy_any w h1 (by omega) (fun e => by rw [e] at hL; cases hL) hbel.size).mono ?_
  rintro e w' ⟨c, M2, rfl, h2, hM2, hb⟩
  exact ⟨c, rfl, M, I, M2, I, h1.below hb, h2, fun b hm => ⟨fun h => by have := (h1.lt b hm).2; have := hM2 b h; omega, fun hi => h1.apart b hm hi⟩, fun b h hi => by have := (h1.ltI b hi).2; have := hM2 b h; omega, hbel.trans (hb.mono hbel.size)⟩
theorem same_two {w0 w : World} {d c : Nat} {s s2 : DS} (h : Two w0 w d c s s2) (hL : s.L.length = 6) (hL2 : s2.L.length = 6) :
    Calls Try.prog 18 #[.pointer (some ⟨d, 0, none⟩), .pointer (some ⟨c, 0, none⟩)] w (fun e w' => e = .returned (.bool (decide (s.L.map (fun o => o.getD zeros) = s2.L.map fun o => o.getD zeros))) ∧ Below w.heap.size w w') := by
  obtain ⟨M, I, M2, I2, h1, h2, _⟩ := h
  exact same_any w h1 h2 6 hL hL2 (by decide)
theorem Two.ok {w0 w : World} {d c : Nat} {s s2 : DS} (h : Two w0 w d c s s2) : s.ok := by
  obtain ⟨M, I, M2, I2, h1, _⟩ := h; exact h1.sok

end Go.Proofs.Ytnonhmjfhcmpgaa
