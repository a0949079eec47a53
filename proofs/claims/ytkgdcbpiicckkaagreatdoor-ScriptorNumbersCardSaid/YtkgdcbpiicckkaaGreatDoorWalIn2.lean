/- The walks of In.Str and In.End. -/
import Derived.Test.YtkgdcbpiicckkaaGreatDoorWalIn
import Derived.Test.YtkgdcbpiicckkaaGreatDoorOps2
import Derived.Deep.Cut
namespace Go.Proofs.YtkgdcbpiicckkaaGreatDoor
set_option linter.unusedSimpArgs false
set_option linter.unusedVariables false
open Go.RowKit
theorem numR_pos (hi : Int) (s : St) : 0 ≤ (numR 0 hi s).1 := by
  unfold numR
  split
  · exact Int.le_refl _
  · split
    split
    · exact Int.le_refl _
    · split
      · exact Int.le_refl _
      · rename_i h; simp only [not_or] at h; omega

theorem grown_trans {w w1 w2 : World} {g : Nat} (h : w.grownBy w1 (some g)) (h' : w1.grownBy w2 (some g)) : w.grownBy w2 (some g) :=
  ⟨h'.os.trans h.os, h'.tape.trans h.tape, h'.output.trans h.output, Nat.le_trans h.size h'.size, fun k hk hne => (h'.block k (Nat.lt_of_lt_of_le hk h.size) hne).trans (h.block k hk hne)⟩

set_option maxRecDepth 100000 in
set_option maxHeartbeats 1000000 in
theorem istr_any (g : Nat) (s : St) (hi : Int) (w : World) (h : InAt w g s) :
    Calls Tryz.prog 14 #[.pointer (some ⟨g, 0, none⟩), .int .i64 hi] w (fun x w' => x = .returned (.string ⟨(strR hi s).1.toArray⟩) ∧ InAt w' g (strR hi s).2 ∧ w.grownBy w' (some g)) := by
  have H := Lib.hid h
  clear h
  generalize hS : strR hi s = S
  have HS := Lib.hid hS
  clear hS
  go_enter Tryz.func14, Tryz.ntmps14
  go_wp2_with fail
  refine (inum_any g s 0 hi w H.out).mono ?_
  rintro e w1 ⟨rfl, hin, hgr⟩
  have hs := HS.out
  unfold strR at hs
  have hp := numR_pos hi s
  generalize numR 0 hi s = N at *
  obtain ⟨n, l, e⟩ := N
  simp only at hs hp hin
  have HI := Lib.hid (And.intro hin hgr)
  have HN := Lib.hid hs
  obtain ⟨ao, cap, c0, c1, hat, hne, hcap⟩ := hin.cells
  have HC := Lib.hid (And.intro c0 (And.intro hat (And.intro hne hcap)))
  have hfz := hin.frozen 0
  obtain ⟨m, rfl⟩ := Int.eq_ofNat_of_zero_le hp
  clear hs hp hin hgr c1 hat hne
  simp only at hcap c0
  go_wp2_with fail
  refine (err_any g (l, e) w1 HI.out.1).mono ?_
  rintro x w2 ⟨rfl, rfl⟩
  by_cases he : e = 0
  · subst he
    have hn := HN.out
    rw [if_neg (by simp)] at hn
    by_cases hb : m > l.length
    · rw [if_pos (by omega)] at hn
      subst hn
      go_wp2_with fail
      refine (fail_any g (l, 0) 3 w2 HI.out.1).mono ?_
      rintro x w3 ⟨v, rfl, hin, hgr⟩
      go_wp2_with fail
      go_returns
      exact ⟨rfl, hin, grown_trans HI.out.2 hgr⟩
    · rw [if_neg (by omega)] at hn
      subst hn
      have hb' : ¬ (l.length : Int) < (m : Int) := by omega
      have hmc : (m : Int) ≤ (cap : Int) := by omega
      have hm0 : m ≤ l.length := by omega
      go_wp2_with (first | (refine conv_str rfl _ rfl ao m cap rfl (l.take m) (HC.out.2.1.takeB m) (by rw [List.length_take]; omega) ?_) | (refine slice_lo rfl _ _ rfl ao l.length cap m rfl rfl hm0 ?_))
      go_returns
      refine ⟨by simp, ?_, grown_trans HI.out.2 (setCell_grown _ _ _ _)⟩
      have := HI.out.1.setB ao cap HC.out.1 m
      simpa using this
  · have he1 : ((e : Int) == 0) = false := by simp; omega
    have he2 : ((e : Int) != 0) = true := by simp; omega
    have hn := HN.out
    rw [if_pos he] at hn
    subst hn
    clear he
    go_wp2_with fail
    go_returns
    exact ⟨rfl, HI.out⟩

set_option maxHeartbeats 400000 in
theorem end_any (g : Nat) (s : St) (w : World) (h : InAt w g s) :
    Calls Tryz.prog 16 #[.pointer (some ⟨g, 0, none⟩)] w (fun x w' => x = .returned (.int .i64 ((endR s).2 : Int)) ∧ InAt w' g (endR s) ∧ w.grownBy w' (some g)) := by
  obtain ⟨ao, cap, c0, c1, hat, hne, hcap⟩ := h.cells
  have H := Lib.hid h
  obtain ⟨l, e⟩ := s
  clear c1 h hat hne hcap
  simp only at c0
  go_enter Tryz.func16, Tryz.ntmps16
  by_cases hl : l = []
  · subst hl
    go_wp2_with fail
    refine (err_any g ([], e) w H.out).mono ?_
    rintro x w2 ⟨rfl, rfl⟩
    go_wp2_with fail
    go_returns
    exact ⟨rfl, H.out, grown_refl _ _⟩
  · have hl' : 0 < l.length := List.length_pos_iff.2 hl
    have hE : endR (l, e) = failR 2 (l, e) := by rw [endR, if_neg hl]
    have HE := Lib.hid hE
    clear hE hl
    go_wp2_with fail
    refine (fail_any g (l, e) 2 w H.out).mono ?_
    rintro x w2 ⟨v, rfl, hin, hgr⟩
    have HI := Lib.hid (And.intro hin hgr)
    clear hin hgr
    go_wp2_with fail
    refine (err_any g _ w2 HI.out.1).mono ?_
    rintro x w3 ⟨rfl, rfl⟩
    go_wp2_with fail
    go_returns
    rw [HE.out]
    exact ⟨rfl, HI.out⟩

end Go.Proofs.YtkgdcbpiicckkaaGreatDoor
