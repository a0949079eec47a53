/- The walks of a disk's Barrier, Crash, New, Arm, Off, Steps. -/
import Derived.Test.YtpeehagaiofobaaDoorDisk3
namespace Go.Proofs.YtpeehagaiofobaaDoor
open Go.RowKit

theorem Upd.trans_head {B : Nat} {w w1 w2 : World} {M I : Nat → Prop} {d : Nat} {s s2 : DS} (h0 : DiskAt B w M I d s) (hg : w.grownBy w1 (some d)) (u : Upd B w1 M I d s2 w2) : Upd B w M I d s2 w2 := by
  obtain ⟨_, _, _, _, _, _, _, _, _, _, _, _, _, _, _, _, h6⟩ := h0
  obtain ⟨M', I', hd, hk, hM, hI⟩ := u
  have hs := hg.size
  exact ⟨M', I', hd, (Keeps.of_grown hg ((h6 d).2 (.inl rfl))).trans' hk, fun b hb => (hM b hb).imp id fun h => by omega, fun b hb => (hI b hb).imp id fun h => by omega⟩
theorem Upd.alloc {B : Nat} {w w2 : World} {M I : Nat → Prop} {d : Nat} {s2 : DS} (o : Obj) (u : Upd B (w.alloc o) M I d s2 w2) : Upd B w M I d s2 w2 := by
  obtain ⟨M', I', hd, hk, hM, hI⟩ := u
  refine ⟨M', I', hd, (Keeps.alloc _ w o).trans' hk, fun b hb => (hM b hb).imp id fun h => ?_, fun b hb => (hI b hb).imp id fun h => ?_⟩ <;> (simp at h; omega)
theorem Upd.then_head {B : Nat} {w w1 w2 : World} {M I : Nat → Prop} {d : Nat} {s1 s2 : DS} (u : Upd B w M I d s1 w1) (h : ∀ M' I', DiskAt B w1 M' I' d s1 → DiskAt B w2 M' I' d s2 ∧ w1.grownBy w2 (some d)) : Upd B w M I d s2 w2 := by
  obtain ⟨M', I', hd, hk, hM, hI⟩ := u
  obtain ⟨h2, hg⟩ := h M' I' hd
  have hd' := hd.lt
  obtain ⟨_, _, _, _, _, _, _, _, hrow, _, _, _, _, _, _, _, h6⟩ := hd
  exact ⟨M', I', h2, hk.trans (Keeps.of_grown (X := fun i => M' i) hg ((h6 d).2 (.inl rfl))) (fun i hi hm => (hM i hm).resolve_right (by omega)), hM, hI⟩

def DS.settled (s : DS) (ks : List Bool) : DS := { s with L := settleL s.L s.W ks, W := [] }
def DS.barrier (s : DS) : Nat × DS := if s.off then (8, s) else if s.left = 0 then (8, s.spend) else (0, s.spend.settled (s.W.map fun _ => true))

set_option maxHeartbeats 1000000 in
theorem barrier_any {B : Nat} {M I : Nat → Prop} {d : Nat} {s : DS} (w : World) (h : DiskAt B w M I d s) (hst : s.steps ≤ 1000000000) (hWl : s.W.length ≤ 1000000000) (hB : B ≤ w.heap.size) :
    Calls Tryd.prog 18 #[.pointer (some ⟨d, 0, none⟩)] w (fun e w' => e = .returned (.int .i64 (s.barrier.1 : Int)) ∧ Upd B w M I d s.barrier.2 w') := by
  have H := Lib.hid h
  have HR := Lib.hid (show s.barrier = if s.off then (8, s) else if s.left = 0 then (8, s.spend) else (0, s.spend.settled (s.W.map fun _ => true)) from rfl)
  generalize s.barrier = R at *
  clear h
  go_enter Tryd.func18, Tryd.ntmps18
  go_wp2_with fail
  refine (on_any w H.out).mono ?_
  rintro e w' ⟨rfl, rfl⟩
  by_cases hoff : s.off = true
  · have hR : R = (8, s) := by rw [HR.out, if_pos hoff]
    have HRR := Lib.hid hR
    rw [if_pos hoff]
    clear hoff hR
    go_wp2_with fail
    go_returns
    rw [HRR.out]
    exact ⟨rfl, Upd.same H.out⟩
  · rw [if_neg hoff]
    have HO := Lib.hid hoff
    clear hoff
    go_wp2_with fail
    refine (spend_any w H.out hst).mono ?_
    rintro e w1 ⟨rfl, hd1, hg1⟩
    have H1 := Lib.hid (And.intro hd1 hg1)
    have hsz1 := hg1.size
    clear hd1 hg1
    by_cases hl : s.left = 0
    · have hR : R = (8, s.spend) := by rw [HR.out, if_neg HO.out, if_pos hl]
      have HRR := Lib.hid hR
      rw [if_pos hl]
      clear hl hR
      go_wp2_with fail
      go_returns
      rw [HRR.out]
      exact ⟨rfl, Upd.head H.out H1.out.1 H1.out.2⟩
    · have hR : R = (0, s.spend.settled (s.W.map fun _ => true)) := by rw [HR.out, if_neg HO.out, if_neg hl]
      have HRR := Lib.hid hR
      have hsW : s.spend.W = s.W := by unfold DS.spend; split <;> rfl
      rw [if_neg hl]
      have HSW := Lib.hid hsW
      clear hl hR hsW
      go_wp2_with fail
      refine (settle_all w1 H1.out.1 (by rw [HSW.out]; exact hWl) (by omega)).mono ?_
      rintro e w2 ⟨⟨v, rfl⟩, hu⟩
      have HU := Lib.hid hu
      clear hu
      go_wp2_with fail
      go_returns
      rw [HRR.out]
      refine ⟨rfl, Upd.trans_head H.out H1.out.2 ?_⟩
      have := HU.out
      rw [HSW.out] at this
      rw [DS.settled, HSW.out]
      exact this

def DS.crash (s : DS) (P : List Int) : DS := { s with L := settleL s.L s.W ((List.range s.W.length).map (kpick P)), W := [], off := false, left := -1 }

set_option maxHeartbeats 1000000 in
theorem crash_any {B : Nat} {M I : Nat → Prop} {d : Nat} {s : DS} (w : World) (h : DiskAt B w M I d s) (hWl : s.W.length ≤ 1000000000) (hB : B ≤ w.heap.size) (po : Option Addr) (pcap : Nat) (P : List Int) (hP : P.length ≤ 9223372036854775807) (hpat : At w po (P.map (Value.int .i64))) (hpo : ∀ b, blk po = some b → P ≠ [] → ¬ M b) :
    Calls Tryd.prog 12 #[.pointer (some ⟨d, 0, none⟩), .slice po P.length pcap] w (fun e w' => (∃ v, e = .returned v) ∧ Upd B w M I d (s.crash P) w') := by
  have H := Lib.hid h
  have hlt := h.lt
  have HP := Lib.hid (And.intro hpat (And.intro hpo hlt))
  clear h hpat hpo hlt
  go_enter Tryd.func12, Tryd.ntmps12
  go_wp2_with fail
  have hb : Below w.heap.size w (w.alloc (.cells #[.slice po P.length pcap] 23)) := (Below.refl _ _).alloc (Nat.le_refl _) _
  have HB := Lib.hid hb
  clear hb
  refine (settle_picks _ (H.out.below HB.out) hWl (by simp; omega) w.heap.size po pcap P hP (cell_of_row _ w.heap.size 0 _ _ (0, 0) (heap_alloc_new w _)) (HP.out.1.below HB.out) (fun h => by have := (HP.out.2.2 _ h).2; omega) HP.out.2.1).mono ?_
  rintro e w2 ⟨⟨v, rfl⟩, hu⟩
  have HU := Lib.hid hu
  obtain ⟨M', I', hd, hk, hM, hI⟩ := hu
  obtain ⟨lb, lcap, mb, wo, wcap, _, _, _, c3, c4, c5⟩ := hd.cells
  have f3 := hd.fz 3
  have f4 := hd.fz 4
  clear hd hk hM hI
  go_wp2_with fail
  go_returns
  refine ⟨⟨_, rfl⟩, ?_⟩
  refine (HU.out.alloc).then_head fun M' I' hd => ?_
  obtain ⟨o1, o2, o3, o4⟩ := hd.sok
  have h1 := hd.setHead 4 (.bool false) { s.settled ((List.range s.W.length).map (kpick P)) with off := false } rfl rfl ⟨o1, o2, o3, o4⟩ (fun a b c => by simp [DS.settled])
  have h2 := h1.1.setHead 3 (.int .i64 (-1)) (s.crash P) rfl rfl ⟨o1, o2, by simp [DS.crash], by simp [DS.crash]⟩ (fun a b c => by simp [DS.settled, DS.crash])
  exact ⟨h2.1, grown_trans0 h1.2 h2.2⟩

end Go.Proofs.YtpeehagaiofobaaDoor
