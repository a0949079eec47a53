/- Sectors of one byte, and what a disk does with them. -/
import Derived.Test.YtnonhmjfhcmpgaaDisk5
namespace Go.Proofs.Ytnonhmjfhcmpgaa
open Go.RowKit

set_option maxHeartbeats 400000 in
theorem off_any {B : Nat} {M I : Nat → Prop} {d : Nat} {s : DS} (w : World) (h : DiskAt B w M I d s) :
    Calls Try.prog 14 #[.pointer (some ⟨d, 0, none⟩)] w (fun e w' => e = .returned (.bool s.off) ∧ w = w') := by
  obtain ⟨lb, lcap, mb, wo, wcap, _, _, _, _, c4, _⟩ := h.cells
  generalize s.off = off at *
  clear h
  go_enter Try.func14, Try.ntmps14
  go_wp2_with fail
  go_returns
  exact ⟨rfl, rfl⟩
set_option maxHeartbeats 400000 in
theorem steps_any {B : Nat} {M I : Nat → Prop} {d : Nat} {s : DS} (w : World) (h : DiskAt B w M I d s) :
    Calls Try.prog 15 #[.pointer (some ⟨d, 0, none⟩)] w (fun e w' => e = .returned (.int .i64 (s.steps : Int)) ∧ w = w') := by
  obtain ⟨lb, lcap, mb, wo, wcap, _, _, _, _, _, c5⟩ := h.cells
  clear h
  go_enter Try.func15, Try.ntmps15
  go_wp2_with fail
  go_returns
  exact ⟨rfl, rfl⟩
def full (x : UInt8) : List UInt8 := List.replicate 512 x
theorem full_length (x : UInt8) : (full x).length = 512 := List.length_replicate
set_option maxRecDepth 100000 in
set_option maxHeartbeats 1000000 in
theorem full_any (x : UInt8) (w : World) :
    Calls Try.prog 9 #[.int .u8 (x.toNat : Int)] w (fun e w' => ∃ g, e = .returned (.slice (some ⟨g, 0, none⟩) 512 512) ∧ w.heap.size ≤ g ∧ At w' (some ⟨g, 0, none⟩) (bytesV (full x)) ∧ w'.ownsRow w.heap.size 5 1 (.slice (some ⟨g, 0, none⟩) 512 512) 512 (bytesV (full x)) ∧ Below w.heap.size w w') := by
  have HF := Lib.hid (show ∀ k, k < 512 → (List.replicate k x ++ List.replicate (512 - k) 0).set k x = List.replicate (k + 1) x ++ List.replicate (512 - (k + 1)) 0 by
    intro k hk
    rw [List.set_append, if_neg (by simp), List.length_replicate, Nat.sub_self, show 512 - k = (512 - (k + 1)) + 1 by omega, List.replicate_succ, List.set_cons_zero, List.replicate_succ', List.append_assoc]
    rfl)
  have hx := x.toNat_lt
  go_enter Try.func9, Try.ntmps9
  go_wp2_with (refine op_make rfl _ _ rfl 512 rfl rfl (by decide) ?_; rintro w1 q1 q2)
  have H1 := Lib.hid (And.intro q1 (grown_below q2))
  clear q1 q2
  generalize hg : w.heap.size = g at *
  have HG := Lib.hid hg
  clear hg
  go_loopw [4] (fun j wr => ∃ k : Nat, k ≤ 512 ∧ j = .int .i64 (k : Int) ∧ wr.ownsRow g 5 1 (.slice (some ⟨g, 0, none⟩) 512 512) 512 (bytesV (List.replicate k x ++ List.replicate (512 - k) 0)) ∧ Below g w wr) (fun j _ => 512 - (intOf j).toNat)
  case atStart => exact ⟨0, by omega, rfl, by simpa using H1.out.1, H1.out.2⟩
  case round =>
    obtain ⟨k, hk, rfl, hown, hbel⟩ := hrel
    have H := Lib.hid (And.intro hown hbel)
    clear hown hbel
    by_cases hlt : k < 512
    · have hcell : ∃ u : Nat, wr.cell? ⟨g, k, none⟩ = some (.int .u8 (u : Int)) := by
        refine ⟨_, (H.out.1.cellAt k (by omega)).trans (bytesV_get _ k (by simp; omega))⟩
      obtain ⟨u, hcell⟩ := hcell
      have hfr : wr.frozen? ⟨g, k, none⟩ = false := H.out.1.frozenAt k
      have HS := Lib.hid (HF.out k hlt)
      go_wp2_with fail
      go_roundw
      case rel =>
        refine ⟨k + 1, by omega, by simp, ?_, H.out.2.setCell (Nat.le_refl _) _⟩
        rw [← HS.out, bytesV_set]
        exact (H.out.1.stored k _).1
      case measure => simp [intOf]; omega
    · obtain rfl : k = 512 := by omega
      go_wp2_with fail
      go_ret
      have h1 := H.out.1
      rw [show 512 - 512 = 0 from rfl, List.replicate_zero, List.append_nil] at h1
      exact ⟨g, rfl, Nat.le_of_eq HG.out, At.own h1, by rw [HG.out]; exact h1, by rw [HG.out]; exact H.out.2⟩

theorem At.ex0 {w : World} {ao : Option Addr} {l : List UInt8} (h : At w ao (bytesV l)) (k : Nat) (hk : k < l.length) : ∃ b o, ao = some ⟨b, o, none⟩ ∧ w.cell? ⟨b, o + k, none⟩ = some (.int .u8 ((l[k]).toNat : Int)) := by
  rcases h with e | ⟨b, o, rfl, hc⟩
  · have := congrArg List.length e; rw [bytesV_length, List.length_nil] at this; omega
  · exact ⟨b, o, rfl, hc k _ (bytesV_get l k hk)⟩
/-- The states that 'lasts' goes through. -/
def la1 : DS := ⟨[none], [], -1, false, 0⟩
theorem la_w1 : la1.write 0 (full 1) = (0, ⟨[none], [(0, full 1)], -1, false, 1⟩) := by simp [la1, DS.write, DS.spend, inR]
theorem la_b1 : (⟨[none], [(0, full 1)], -1, false, 1⟩ : DS).barrier = (0, ⟨[some (full 1)], [], -1, false, 2⟩) := by simp [DS.barrier, DS.spend, DS.settled, settleL]
theorem la_w2 : (⟨[some (full 1)], [], -1, false, 2⟩ : DS).write 0 (full 2) = (0, ⟨[some (full 1)], [(0, full 2)], -1, false, 3⟩) := by simp [DS.write, DS.spend, inR]
theorem la_w3 : (⟨[some (full 1)], [(0, full 2)], -1, false, 3⟩ : DS).write 0 (full 3) = (0, ⟨[some (full 1)], [(0, full 2), (0, full 3)], -1, false, 4⟩) := by simp [DS.write, DS.spend, inR]
theorem la_c : (⟨[some (full 1)], [(0, full 2), (0, full 3)], -1, false, 4⟩ : DS).crash [1] = ⟨[some (full 2)], [], -1, false, 4⟩ := by simp [DS.crash, settleL, kpick, List.range_succ]
theorem la_r : (⟨[some (full 2)], [], -1, false, 4⟩ : DS).readE 0 = (0, full 2) := by simp [DS.readE, DS.read, inR, lastW]

set_option maxRecDepth 100000 in
set_option maxHeartbeats 1000000 in
theorem lasts_any (w : World) : Calls Try.prog 7 #[] w (fun e w' => e = .returned (.bool true) ∧ Below w.heap.size w w') := by
  go_enter Try.func7, Try.ntmps7
  go_wp2_with fail
  refine (new_any 1 (by decide) (by decide) w).mono ?_
  rintro e w1 ⟨d, M, I, rfl, hd, hb1⟩
  have H1 := Lib.hid (show Own w w1 d la1 from ⟨M, I, hd, hb1⟩)
  clear hd hb1
  go_wp2_with fail
  refine (full_any 1 w1).mono ?_
  rintro e w2 ⟨g2, rfl, hg2, hat2, _, hb2⟩
  have A2 := Lib.hid (And.intro hg2 (And.intro hat2 hb2))
  clear hg2 hat2 hb2
  go_wp2_with fail
  refine (write_full H1.out (by decide) (by decide) 0 g2 (full 1) (full_length 1) A2.out.2.2 A2.out.1 A2.out.2.1).mono ?_
  rintro e w3 ⟨rfl, h3⟩
  rw [la_w1] at h3 ⊢
  have H3 := Lib.hid h3
  clear h3
  go_wp2_with fail
  refine (barrier_own H3.out (by decide) (by decide)).mono ?_
  rintro e w4 ⟨rfl, h4⟩
  rw [la_b1] at h4 ⊢
  have H4 := Lib.hid h4
  clear h4
  go_wp2_with fail
  refine (full_any 2 w4).mono ?_
  rintro e w5 ⟨g5, rfl, hg5, hat5, _, hb5⟩
  have A5 := Lib.hid (And.intro hg5 (And.intro hat5 hb5))
  clear hg5 hat5 hb5
  go_wp2_with fail
  refine (write_full H4.out (by decide) (by decide) 0 g5 (full 2) (full_length 2) A5.out.2.2 A5.out.1 A5.out.2.1).mono ?_
  rintro e w6 ⟨rfl, h6⟩
  rw [la_w2] at h6 ⊢
  have H6 := Lib.hid h6
  clear h6
  go_wp2_with fail
  refine (full_any 3 w6).mono ?_
  rintro e w7 ⟨g7, rfl, hg7, hat7, _, hb7⟩
  have A7 := Lib.hid (And.intro hg7 (And.intro hat7 hb7))
  clear hg7 hat7 hb7
  go_wp2_with fail
  refine (write_full H6.out (by decide) (by decide) 0 g7 (full 3) (full_length 3) A7.out.2.2 A7.out.1 A7.out.2.1).mono ?_
  rintro e w8 ⟨rfl, h8⟩
  rw [la_w3] at h8 ⊢
  have H8 := Lib.hid h8
  clear h8
  go_wp2_with fail
  have hbA : Below w8.heap.size w8 (w8.alloc (.cells #[.int .i64 1] 3)) := (Below.refl _ _).alloc (Nat.le_refl _) _
  refine (crash_own H8.out (by decide) hbA (some ⟨w8.heap.size, 0, none⟩) 1 [1] (by decide) (At.new w8 #[.int .i64 1] _) (fun b hb _ => by cases hb; exact .inr (Nat.le_refl _))).mono ?_
  rintro e w9 ⟨⟨v, rfl⟩, h9⟩
  rw [la_c] at h9
  have H9 := Lib.hid h9
  clear h9 hbA
  go_wp2_with fail
  refine (read_own H9.out 0).mono ?_
  rintro e w10 ⟨ao, cap, rfl, hown, hb10⟩
  rw [la_r] at hown ⊢
  rw [full_length] at hown ⊢
  have hat := At.own hown
  obtain ⟨b, o, rfl, hcell⟩ := At.ex0 hat 0 (by rw [full_length]; decide)
  have HF := Lib.hid (And.intro hown (And.intro hb10 H9.out))
  rw [Nat.add_zero, show ((full 2)[0]'(by rw [full_length]; decide)).toNat = 2 by simp [full]] at hcell
  clear hown hb10 hat
  go_wp2_with fail
  go_ret
  obtain ⟨M, I, _, hbel⟩ := HF.out.2.2
  exact ⟨rfl, hbel.trans (HF.out.2.1.mono hbel.size)⟩

end Go.Proofs.Ytnonhmjfhcmpgaa
