/- A log and its disk together: what calls leave of both; the walks of Truncate and Format. -/
import Derived.Test.YtpeehagaiofobaaDoorWal6
namespace Go.Proofs.YtpeehagaiofobaaDoor
open Go.RowKit

theorem Upd.comp {B : Nat} {w w1 w2 : World} {M I M' I' : Nat → Prop} {d : Nat} {s2 : DS} (k2 : Keeps M w w1) (k3 : ∀ b, M' b → M b ∨ w.heap.size ≤ b) (k4 : ∀ b, I' b → I b ∨ w.heap.size ≤ b) (u : Upd B w1 M' I' d s2 w2) : Upd B w M I d s2 w2 := by
  obtain ⟨M2, I2, h, K2, m2, i2⟩ := u
  have hs := k2.size
  refine ⟨M2, I2, h, k2.trans K2 (fun i hi hm => (k3 i hm).resolve_right (by omega)), fun b hb => ?_, fun b hb => ?_⟩
  · rcases m2 b hb with h | h
    · exact k3 b h
    · exact .inr (by omega)
  · rcases i2 b hb with h | h
    · exact k4 b h
    · exact .inr (by omega)

/-- A log and its disk, behind a call. -/
def SysUpd (B : Nat) (w : World) (M I : Nat → Prop) (d g : Nat) (s' : DS) (l' : LS) (w' : World) : Prop :=
  ∃ M' I', DiskAt B w' M' I' d s' ∧ LogAt w' g d l' ∧ ¬ M' g ∧ ¬ I' g ∧ Keeps (fun i => M i ∨ i = g) w w' ∧ (∀ b, M' b → M b ∨ w.heap.size ≤ b) ∧ (∀ b, I' b → I b ∨ w.heap.size ≤ b)
theorem SysUpd.of_upd {B : Nat} {w w' : World} {M I : Nat → Prop} {d g : Nat} {s' : DS} {l : LS} (hl : LogAt w g d l) (hM : ¬ M g) (hI : ¬ I g) (u : Upd B w M I d s' w') : SysUpd B w M I d g s' l w' := by
  obtain ⟨M', I', h, K, m, i⟩ := u
  have hlt := hl.lt
  refine ⟨M', I', h, hl.keeps K hM, fun h => ?_, fun h => ?_, K.mono fun _ _ h => .inl h, m, i⟩
  · rcases m g h with h | h
    · exact hM h
    · omega
  · rcases i g h with h | h
    · exact hI h
    · omega
theorem SysUpd.comp {B : Nat} {w w1 w2 : World} {M I M' I' : Nat → Prop} {d g : Nat} {s2 : DS} {l2 : LS} (k2 : Keeps (fun i => M i ∨ i = g) w w1) (k3 : ∀ b, M' b → M b ∨ w.heap.size ≤ b) (k4 : ∀ b, I' b → I b ∨ w.heap.size ≤ b) (u : SysUpd B w1 M' I' d g s2 l2 w2) : SysUpd B w M I d g s2 l2 w2 := by
  obtain ⟨M2, I2, h, hl, hM, hI, K2, m2, i2⟩ := u
  have hs := k2.size
  refine ⟨M2, I2, h, hl, hM, hI, k2.trans K2 (fun i hi hm => ?_), fun b hb => ?_, fun b hb => ?_⟩
  · rcases hm with h | h
    · exact .inl ((k3 i h).resolve_right (by omega))
    · exact .inr h
  · rcases m2 b hb with h | h
    · exact k3 b h
    · exact .inr (by omega)
  · rcases i2 b hb with h | h
    · exact k4 b h
    · exact .inr (by omega)
/-- Behind it only the log's own object was written. -/
theorem SysUpd.then_log {B : Nat} {w w1 w2 : World} {M I : Nat → Prop} {d g : Nat} {s' : DS} {l l2 : LS} (u : SysUpd B w M I d g s' l w1) (K : Keeps (fun i => i = g) w1 w2) (hl : LogAt w1 g d l → LogAt w2 g d l2) : SysUpd B w M I d g s' l2 w2 := by
  obtain ⟨M', I', h, h1, hM, hI, K1, m, i⟩ := u
  exact ⟨M', I', h.keeps K (fun b hb e => hM (by rw [← e]; exact hb)) (fun b hb e => hI (by rw [← e]; exact hb)), hl h1, hM, hI, K1.trans K (fun i _ h => .inr h), m, i⟩
theorem Tab.keepsW {B : Nat} {X : Nat → Prop} {w w' : World} (h : Tab w) (hk : Keeps X w w') (hX : ¬ X 0) : Tab w' := fun i hi => keeps_cell hk hX (h i hi)

theorem headZ_any (a : Nat) (z : Int) (hz : z = a) (ha : a ≤ 4611686018427387904) (w : World) (ht : Tab w) : Calls Tryd.prog 19 #[.int .i64 z] w (NewBytes w (headL a)) := by
  subst hz
  exact head_any a ha w ht
theorem wwriteZ_any {B : Nat} {M I : Nat → Prop} {d : Nat} {s : DS} (w : World) (h : DiskAt B w M I d s) (hst : s.steps ≤ 1000000000) (hWl : s.W.length ≤ 1000000000) (f cnt n : Nat) (z : Int) (hz : z = n) (hf : f ≤ 1000000000) (hn : n ≤ 1000000000) (bo : Option Addr) (k cap : Nat) (l : List UInt8) (hk : k = l.length) (hl : l.length ≤ 512) (hat : At w bo (bytesV l)) (hB : B ≤ w.heap.size) :
    Calls Tryd.prog 17 #[placeV d f cnt, .int .i64 z, .slice bo k cap] w (fun e w' => e = .returned (.int .i64 ((s.write ((f + n : Nat) : Int) (padZ l)).1 : Int)) ∧ Upd B w M I d (s.write ((f + n : Nat) : Int) (padZ l)).2 w' ∧ CellKept d w w') := by
  subst hz
  exact wwrite_any w h hst hWl f cnt n hf hn bo k cap l hk hl hat hB

def truncL (l : LS) (e : Nat) : LS := if e = 0 then { l with age := l.age + 1, next := 0, at_ := 2 } else l
theorem write_steps (s : DS) (n : Int) (b : List UInt8) : (s.write n b).2.steps ≤ s.steps + 1 ∧ (s.write n b).2.W.length ≤ s.W.length + 1 := by
  unfold DS.write
  split
  · exact ⟨by simp only; omega, by simp only; omega⟩
  · split
    · exact ⟨by simp only; omega, by simp only; omega⟩
    · split
      · rename_i h; simp only [DS.spend, if_pos h]; omega
      · rename_i h; simp only [DS.spend, if_neg h, List.length_append, List.length_cons, List.length_nil]; omega

end Go.Proofs.YtpeehagaiofobaaDoor
