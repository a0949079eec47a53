/- THE LAW DiskSteps: a disk that is armed for n steps makes n and no more; then its power is off, until a crash turns it on. -/
import Derived.Test.YtnonhmjfhcmpgaaRows
import Derived.Test.YtnonhmjfhcmpgaaDiskSP
import Derived.Test.YtnonhmjfhcmpgaaLaw2
import Derived.ChangeMaps5
namespace Go.Proofs.Ytnonhmjfhcmpgaa.diskSteps
open Go.ChangeShapes Go.WideShapes Go.ChangeAt Go.RowKit Go.ChangeMaps

theorem own : ownKnob Try.prog.godebug = none := by kernel_rfl
theorem laidOut : laidOutB Try.prog = true := by kernel_rfl
theorem readable : ∀ t ∈ Try.f4.params.toList, Try.prog.readableRec t = true ∧ t < Try.prog.types.size := by
  rw [Try.params4]
  intro t ht
  simp at ht
  rcases ht with rfl | rfl
  · exact ⟨by kernel_rfl, of_decide_eq_true (by kernel_rfl)⟩
  · exact ⟨by kernel_rfl, of_decide_eq_true (by kernel_rfl)⟩

set_option maxRecDepth 100000 in
set_option maxHeartbeats 8000000 in
theorem walk (c : Int) (ao : Option Addr) (l : List Bool) (cap : Nat) (w : World) (hat : At w ao (l.map Value.bool)) (hll : l.length ≤ 9223372036854775807) :
    Calls Try.prog 4 #[.int .i64 c, .slice ao l.length cap] w (Says w (.bool true)) := by
  have HAT := Lib.hid hat
  clear hat
  obtain ⟨n, hn, hne⟩ : ∃ n : Nat, n < 20 ∧ wrap64 ((IntKind.u64.wrap c).tmod 20) = (n : Int) := cutmod0 c 20 (by decide) (by decide)
  have HNE := Lib.hid hne
  clear hne
  go_enter Try.func4, Try.ntmps4
  go_wp2_with fail
  refine (new_any 4 (by decide) (by decide) w).mono ?_
  rintro e w1 ⟨d, M, I, rfl, hd, hb1⟩
  have H1 := Lib.hid (show Own w w1 d ⟨List.replicate 4 none, [], -1, false, 0⟩ from ⟨M, I, hd, hb1⟩)
  clear hd hb1
  go_wp2_with fail
  refine (lasts_any w1).mono ?_
  rintro e w2 ⟨rfl, hb2⟩
  have H2 := Lib.hid (H1.out.below hb2)
  clear hb2
  go_wp2_with fail
  rw [HNE.out]
  refine (arm_own H2.out n (by omega)).mono ?_
  rintro e w3 ⟨⟨v3, rfl⟩, h3⟩
  have H3 := Lib.hid h3
  clear h3
  go_wp2_with fail
  go_loopw [7, 8] (fun m j wr => ∃ (k i : Nat) (s : DS), i ≤ l.length ∧ i ≤ 40 ∧ j = .int .i64 (i : Int) ∧ m = .int .i64 (k : Int) ∧ Own w wr d s ∧ St n k s) (fun _ j _ => 40 - (intOf j).toNat)
  case atStart => exact ⟨0, 0, _, by omega, by omega, rfl, rfl, H3.out, St.new n⟩
  case round =>
    obtain ⟨k, i, s, hi, hi40, rfl, rfl, hown, hst⟩ := hrel
    have HO := Lib.hid (And.intro hown hst)
    have hst1 := hst.steps
    have hkn := hst.le
    have hst2 := hst.wait
    clear hown hst
    by_cases hlt : i < l.length ∧ i < 40
    · obtain ⟨hlt, hi4⟩ := hlt
      obtain ⟨b, o, rfl, hcell⟩ := At.exv (HAT.out.below HO.out.1.bel) i (by rw [List.length_map]; exact hlt)
      rw [List.getElem_map] at hcell
      generalize l[i] = x at *
      have HIM := Lib.hid (And.intro hi4 hlt)
      cases x
      case' true =>
        have hF := full_any (UInt8.ofNat i) wr
        rw [show (((UInt8.ofNat i).toNat : Nat) : Int) = (i : Int) by rw [show ((UInt8.ofNat i).toNat : Nat) = i by simp only [UInt8.toNat_ofNat']; omega]] at hF
        have HF := Lib.hid hF
        clear hF
        go_wp2_with fail
        clear hcell
        refine HF.out.mono ?_
        rintro e w3 ⟨g, rfl, hg, hatg, _, hb3⟩
        have A3 := Lib.hid (And.intro hg (And.intro hatg hb3))
        clear hg hatg hb3
        have HN := Lib.hid (HO.out.2.write (i % 4) (by omega) (full (UInt8.ofNat i)))
        go_wp2_with fail
        refine (write_full HO.out.1 (by omega) (by omega) ((i : Int) % 4) g _ (full_length _) A3.out.2.2 A3.out.1 A3.out.2.1).mono ?_
        rintro e w4 ⟨rfl, h4⟩
        rw [show ((i : Int) % 4) = ((i % 4 : Nat) : Int) by omega] at h4 ⊢
        obtain ⟨e1, s1, hr⟩ : ∃ e1 s1, s.write ((i % 4 : Nat) : Int) (full (UInt8.ofNat i)) = (e1, s1) := ⟨_, _, rfl⟩
        rw [hr] at h4 HN ⊢
        clear hr
      case' false =>
        have HN := Lib.hid HO.out.2.barrier
        go_wp2_with fail
        clear hcell
        refine (barrier_own HO.out.1 (by omega) (by omega)).mono ?_
        rintro e w4 ⟨rfl, h4⟩
        obtain ⟨e1, s1, hr⟩ : ∃ e1 s1, s.barrier = (e1, s1) := ⟨_, _, rfl⟩
        rw [hr] at h4 HN ⊢
        clear hr
      all_goals
        simp only at h4 ⊢
        have H4 := Lib.hid h4
        clear h4
        rcases HN.out with ⟨hkn', hr1, hr2, hst'⟩ | ⟨hkn', hr1, hr2, hst'⟩
        case' inl =>
          have HRD := Lib.hid (St.read_on hst' hr2)
          have hkn2 : (k : Int) < (n : Int) := by omega
        case' inr =>
          have HRD := Lib.hid (read_off hr2)
          have hkn2 : ¬ (k : Int) < (n : Int) := by omega
        all_goals
          simp only at hr1 hr2 HRD hst'
          subst hr1
          have HS := Lib.hid (And.intro hr2 hst')
          clear hr2 hst' HN
          go_wp2_with fail
          refine (read_own H4.out 0).mono ?_
          rw [HRD.out]
          rintro e w5 ⟨ao', cap', rfl, _, hb5⟩
          have H5 := Lib.hid (H4.out.below hb5)
          clear hb5
          go_wp2_with fail
          refine (off_own H5.out).mono ?_
          rintro e w6 ⟨rfl, rfl⟩
          rw [HS.out.1]
          go_wp2_with fail
          refine (off_own H5.out).mono ?_
          rintro e w6 ⟨rfl, rfl⟩
          rw [HS.out.1]
          go_wp2_with fail
          refine (steps_own H5.out).mono ?_
          rintro e w6 ⟨rfl, rfl⟩
          rw [HS.out.2.steps]
          go_wp2_with fail
          go_roundw
          case rel => exact ⟨_, i + 1, s1, by omega, by omega, by simp, by simp, H5.out, HS.out.2⟩
          case measure => simp [intOf]; omega
    · have hfin : i = l.length ∨ i = 40 := by omega
      by_cases hkl : i < l.length
      case' pos => have h40 : ¬ ((i : Int) < 40) := by omega
      case' neg => have h40 : ¬ ((i : Int) < l.length) := by omega
      all_goals
        clear hfin
        go_wp2_with fail
        refine (crash_nil HO.out.1 (by omega)).mono ?_
        rintro e w4 ⟨⟨v4, rfl⟩, h4⟩
        have H4 := Lib.hid h4
        clear h4
        go_wp2_with fail
        refine (off_own H4.out).mono ?_
        rintro e w' ⟨rfl, rfl⟩
        rw [crash_off]
        go_wp2_with fail
        refine (barrier_own H4.out (by simp only [DS.crash]; omega) (by simp [DS.crash])).mono ?_
        rintro e w5 ⟨rfl, h5⟩
        rw [crash_barrier]
        have H5 := Lib.hid h5.bel
        clear h5
        go_wp2_with fail
        go_ret
        exact ⟨rfl, H5.out⟩

set_option maxRecDepth 100000 in
theorem lifted (os : Os) (started : os.Started) (H : Type) (enc : TypeId × Value → H) :
    ReturnsInHanded {} Try.checked os 4 .any (Rows.diskStepsSpec.pre6 enc Try.prog Try.f4 Rows.diskStepsRow.domain false) (Rows.diskStepsSpec.post enc Try.prog Try.f4 false true false false) := by
  refine returnsInHanded_of_change (C := Try.checked) own started (by kernel_rfl) Try.func4
    (ChangeSpec.witness6 (enc := enc) (C := Try.checked) false ⟨#[], #[.int .i64 0, .slice none 0 0], []⟩ 8 (by kernel_rfl) (by kernel_rfl) (by kernel_rfl) (by kernel_rfl)) ?_
  intro W base args ds gs before hval0 hW hcnd _
  have hval : ∀ (j : Nat) t v, Try.f4.params[j]? = some t → args[j]? = some v → Value.okWide Try.prog W .any base t v := hval0
  have hW' := hW
  obtain ⟨p, q, hA0, hV, rfl, hfz, hnd⟩ := hW
  have hA : DataW.TrodAll enc Try.prog W 0 (fun _ => true) true Try.f4.params.toList args.toList ds p := hA0
  rw [Try.params4] at hA hval
  obtain ⟨v0, v1, d0, d1, p0, p1, rfl, rfl, rfl, h0, h1⟩ := trodAll_two hA
  obtain ⟨rfl, rfl⟩ := trodVars_none hV
  obtain ⟨c, rfl, rfl, rfl, wa⟩ := open_int Try.underlying3 (hval 0 3 v0 rfl rfl) h0
  obtain ⟨ao, cap, l, rfl, hc, hm, hat⟩ := open_bools Try.underlying37 Try.underlying4 (by kernel_rfl) (hval 1 37 v1 rfl rfl) h1
  refine (walk c ao l cap W hat (by omega)).mono fun e W' ⟨he, hb⟩ => ?_
  subst he
  exact ⟨_, rfl, post_law laidOut rfl rfl Try.underlying4 readable rfl rfl rfl hW' hb⟩

theorem proved : Rows.DiskStepsSaid :=
  OpenClaim.holds_of_wide 4 Try.f4 rfl rfl rfl rfl rfl rfl rfl ⟨rfl, rfl, rfl, rfl, rfl⟩ rfl rfl rfl rfl rfl (by kernel_rfl) Try.func4 (by kernel_rfl)
    (of_decide_eq_true (by kernel_rfl)) (by unfold Func.isWrapper; first | (rw [if_pos (by decide +kernel)]; kernel_rfl) | (rw [if_neg (by decide +kernel)]; exact ⟨rfl, rfl⟩))
    (fun os started H enc _ => lifted os started H enc)
end Go.Proofs.Ytnonhmjfhcmpgaa.diskSteps
