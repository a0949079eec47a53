/- THE LAW WireOnce: bytes that are read as a number are its bytes, and no others. -/
import Derived.Test.YtmnaomdnjaiggaaRows
import Derived.Test.YtmnaomdnjaiggaaIn
import Derived.Test.YtmnaomdnjaiggaaLaw
import Derived.Test.YtmnaomdnjaiggaaReg
import Derived.ChangeMaps5
namespace Go.Proofs.Ytmnaomdnjaiggaa.wireOnce
open Go.ChangeShapes Go.WideShapes Go.ChangeAt Go.RowKit Go.ChangeMaps

theorem own : ownKnob Try.prog.godebug = none := by kernel_rfl
theorem laidOut : laidOutB Try.prog = true := by kernel_rfl
theorem readable : ∀ t ∈ Try.f5.params.toList, Try.prog.readableRec t = true ∧ t < Try.prog.types.size := by
  rw [Try.params5]
  intro t ht
  simp at ht
  subst ht
  exact ⟨by kernel_rfl, of_decide_eq_true (by kernel_rfl)⟩

set_option maxRecDepth 100000 in
set_option maxHeartbeats 1000000 in
theorem walk (ao : Option Addr) (l : List UInt8) (cap : Nat) (hc : l.length ≤ cap) (hm : cap ≤ 9223372036854775807) (w : World) (hat : At w ao (bytesV l)) :
    Calls Try.prog 5 #[.slice ao l.length cap] w (Says w (.bool true)) := by
  have hL : (l.take 14).length ≤ 14 := by simp; omega
  have hLc : (l.take 14).length ≤ cap := by simp; omega
  have hmin : min (l.length : Int) 14 = ((l.take 14).length : Int) := by simp; omega
  have hatL : At w ao (bytesV (l.take 14)) := hat.takeB 14
  have HMIN := Lib.hid hmin
  have HAT := Lib.hid hatL
  clear hat hatL hmin
  generalize l.take 14 = L at *
  obtain ⟨u, k, e, hr⟩ : ∃ u k e, raw L = (u, k, e) := ⟨_, _, _, rfl⟩
  go_enter Try.func5, Try.ntmps5
  go_wp2_with (refine op_min2 rfl _ _ _ rfl _ _ _ _ rfl rfl HMIN.out ?_)
  refine (open_any ao L cap (by omega) w HAT.out).mono ?_
  rintro x w1 ⟨g, rfl, hg, hin, hbel⟩
  have H1 := Lib.hid (And.intro hin hbel)
  have hsz1 := hbel.size
  clear hin hbel
  go_wp2_with fail
  refine (inum_any g (L, 0) _ _ w1 H1.out.1).mono ?_
  rintro x w2 ⟨rfl, hin, hgr⟩
  have hb2 : Below w.heap.size w w2 := H1.out.2.grown hgr hsz1 (fun k hk => by cases hk; exact hg)
  have H2 := Lib.hid (And.intro hin hb2)
  have hsz2 := hb2.size
  clear hin hgr hb2
  by_cases he : e = 0
  · subst he
    obtain ⟨hk, hkl, htk, hu⟩ := raw_ok hr
    have hz0 : -9223372036854775808 ≤ unzz u := by unfold unzz; split <;> omega
    have hz1 : unzz u ≤ 9223372036854775807 := by unfold unzz; split <;> omega
    have hN : numR (-9223372036854775808) 9223372036854775807 (L, 0) = (unzz u, (L.drop k, 0)) := by
      rw [numR, if_neg (by simp)]
      simp only [hr, if_neg (show ¬ (0 : Nat) ≠ 0 by simp), if_neg (show ¬ (unzz u < -9223372036854775808 ∨ unzz u > 9223372036854775807) by omega)]
    have henc : Go.Proofs.Ytmnaomdnjaiggaa.enc (unzz u) = numB u := by rw [Go.Proofs.Ytmnaomdnjaiggaa.enc, zz_unzz]
    rw [hN] at H2 ⊢
    have HZ := Lib.hid (And.intro hz0 hz1)
    have HE := Lib.hid henc
    have HK := Lib.hid (And.intro hkl (And.intro htk hk))
    have hsub : ((k : Int) == IntKind.i64.wrap ((L.length : Int) - ((L.length - k : Nat) : Int))) = true := by rw [IntKind.wrap_i64, beq_iff_eq]; omega
    have HS := Lib.hid hsub
    clear hz0 hz1 henc hr hN hkl htk hu hk hsub
    generalize unzz u = z at *
    go_wp2_with fail
    refine (wires_any w2).mono ?_
    rintro x w3 ⟨rfl, hb3⟩
    have H3 := Lib.hid (And.intro (H2.out.1.below hb3) (H2.out.2.trans (hb3.mono hsz2)))
    have hsz3 := hb3.size
    clear hb3
    go_wp2_with fail
    refine (err_any g _ w3 H3.out.1).mono ?_
    rintro x w4 ⟨rfl, rfl⟩
    go_wp2_with fail
    refine (num_any z HZ.out.1 HZ.out.2 w4).mono ?_
    rintro x w5 ⟨co, capc, rfl, hown, hb5⟩
    rw [HE.out, ← HK.out.2.2] at hown ⊢
    have H5 := Lib.hid (And.intro hown (And.intro (H3.out.1.below hb5) (H3.out.2.trans (hb5.mono (by omega)))))
    have hsz5 := hb5.size
    clear hown hb5
    go_wp2_with fail
    refine seq_start (by kernel_rfl) ?_
    refine seq_take 0 (v := ?v0_1) rfl (by kernel_rfl) (fun _ _ _ h => h) (by rfl) (fun w' hw' => ?hy0_1) ?_
    case hy0_1 => go_simp; try with_reducible rfl
    try simp only [List.getElem_toArray, List.getElem_cons_succ, List.getElem_cons_zero, Act.put, List.setIfInBounds_toArray, List.set_cons_zero, List.set_cons_succ]
    refine seq_take 1 (v := ?v1_2) rfl (by kernel_rfl) (fun _ _ _ h => h) (by rfl) (fun w' hw' => ?hy1_2) ?_
    case hy1_2 => go_simp; try with_reducible rfl
    try simp only [List.getElem_toArray, List.getElem_cons_succ, List.getElem_cons_zero, Act.put, List.setIfInBounds_toArray, List.set_cons_zero, List.set_cons_succ]
    refine seq_take 2 (v := ?v2_3) rfl (by kernel_rfl) (fun _ _ _ h => h) (by rfl) (fun w' hw' => ?hy2_3) ?_
    case hy2_3 => go_simp; try with_reducible rfl
    try simp only [List.getElem_toArray, List.getElem_cons_succ, List.getElem_cons_zero, Act.put, List.setIfInBounds_toArray, List.set_cons_zero, List.set_cons_succ]
    refine seq_take 3 (v := ?v3_4) rfl (by kernel_rfl) (fun _ _ _ h => h) (by rfl) (fun w' hw' => ?hy3_4) ?_
    case hy3_4 => go_simp; try with_reducible rfl
    try simp only [List.getElem_toArray, List.getElem_cons_succ, List.getElem_cons_zero, Act.put, List.setIfInBounds_toArray, List.set_cons_zero, List.set_cons_succ]
    refine seq_take 4 (v := ?v4_5) rfl (by kernel_rfl) (fun _ _ _ h => h) (by rfl) (fun w' hw' => ?hy4_5) ?_
    case hy4_5 => go_simp; try with_reducible rfl
    try simp only [List.getElem_toArray, List.getElem_cons_succ, List.getElem_cons_zero, Act.put, List.setIfInBounds_toArray, List.set_cons_zero, List.set_cons_succ]
    refine seq_run 5 rfl (by kernel_rfl) (by rfl) (fun KK hKK => ?_)
    go_wp2_with fail
    refine (left_any g _ _ (H5.out.2.1.below (below_drew (Below.refl _ _)))).mono ?_
    rintro x w6 ⟨rfl, rfl⟩
    go_wp2_with fail
    refine ⟨Below.refl _ _, ?_⟩
    refine seq_take 6 (v := ?v6_6) rfl (by kernel_rfl) (fun _ _ _ h => h) (by rfl) (fun w' hw' => ?hy6_6) ?_
    case hy6_6 => go_simp; try with_reducible rfl
    try simp only [List.getElem_toArray, List.getElem_cons_succ, List.getElem_cons_zero, Act.put, List.setIfInBounds_toArray, List.set_cons_zero, List.set_cons_succ]
    refine seq_take 7 (v := ?v7_7) rfl (by kernel_rfl) (fun _ _ _ h => h) (by rfl) (fun w' hw' => ?hy7_7) ?_
    case hy7_7 => go_simp; try with_reducible rfl
    try simp only [List.getElem_toArray, List.getElem_cons_succ, List.getElem_cons_zero, Act.put, List.setIfInBounds_toArray, List.set_cons_zero, List.set_cons_succ]
    rw [HS.out]
    have hk := HK.out.2.2.symm
    refine seq_take 8 (v := ?v8_8) rfl (by kernel_rfl) (fun _ _ _ h => h) (by rfl) (fun w' hw' => ?hy8_8) ?_
    case hy8_8 => go_simp; try with_reducible rfl
    try simp only [List.getElem_toArray, List.getElem_cons_succ, List.getElem_cons_zero, Act.put, List.setIfInBounds_toArray, List.set_cons_zero, List.set_cons_succ]
    refine seq_take 9 (v := ?v9_9) rfl (by kernel_rfl) (fun _ _ _ h => h) (by rfl) (fun w' hw' => ?hy9_9) ?_
    case hy9_9 => go_simp; try with_reducible rfl
    try simp only [List.getElem_toArray, List.getElem_cons_succ, List.getElem_cons_zero, Act.put, List.setIfInBounds_toArray, List.set_cons_zero, List.set_cons_succ]
    refine seq_take 10 rfl (by kernel_rfl) (fun _ _ _ h => h) (by rfl) (seq_conv rfl rfl (At.own (owns_below H5.out.1 (below_drew (Below.refl _ _)))) (by first | rfl | assumption | (symm; assumption) | simp)) ?_
    try simp only [List.getElem_toArray, List.getElem_cons_succ, List.getElem_cons_zero, Act.put, List.setIfInBounds_toArray, List.set_cons_zero, List.set_cons_succ]
    refine seq_take 11 (v := ?v11_10) rfl (by kernel_rfl) (fun _ _ _ h => h) (by rfl) (fun w' hw' => ?hy11_10) ?_
    case hy11_10 => go_simp; try with_reducible rfl
    try simp only [List.getElem_toArray, List.getElem_cons_succ, List.getElem_cons_zero, Act.put, List.setIfInBounds_toArray, List.set_cons_zero, List.set_cons_succ]
    refine seq_take 12 (v := ?v12_11) rfl (by kernel_rfl) (fun _ _ _ h => h) (by rfl) (fun w' hw' => ?hy12_11) ?_
    case hy12_11 => go_simp; try with_reducible rfl
    try simp only [List.getElem_toArray, List.getElem_cons_succ, List.getElem_cons_zero, Act.put, List.setIfInBounds_toArray, List.set_cons_zero, List.set_cons_succ]
    refine seq_take 13 (v := ?v13_12) rfl (by kernel_rfl) (fun _ _ _ h => h) (by rfl) (fun w' hw' => ?hy13_12) ?_
    case hy13_12 => go_simp; try with_reducible rfl
    try simp only [List.getElem_toArray, List.getElem_cons_succ, List.getElem_cons_zero, Act.put, List.setIfInBounds_toArray, List.set_cons_zero, List.set_cons_succ]
    refine seq_take 14 rfl (by kernel_rfl) (fun _ _ _ h => h) (by rfl) (seq_hi rfl rfl rfl ((Nat.le_trans HK.out.1 hLc))) ?_
    try simp only [List.getElem_toArray, List.getElem_cons_succ, List.getElem_cons_zero, Act.put, List.setIfInBounds_toArray, List.set_cons_zero, List.set_cons_succ]
    refine seq_take 15 rfl (by kernel_rfl) (fun _ _ _ h => h) (by rfl) (seq_conv rfl rfl ((show At w5.drew ao (bytesV (numB u)) from HK.out.2.1 ▸ (HAT.out.takeB k).below (H5.out.2.2.drew))) (by first | rfl | assumption | (symm; assumption) | simp)) ?_
    try simp only [List.getElem_toArray, List.getElem_cons_succ, List.getElem_cons_zero, Act.put, List.setIfInBounds_toArray, List.set_cons_zero, List.set_cons_succ]
    refine seq_take 16 (v := ?v16_13) rfl (by kernel_rfl) (fun _ _ _ h => h) (by rfl) (fun w' hw' => ?hy16_13) ?_
    case hy16_13 => go_simp; try with_reducible rfl
    try simp only [List.getElem_toArray, List.getElem_cons_succ, List.getElem_cons_zero, Act.put, List.setIfInBounds_toArray, List.set_cons_zero, List.set_cons_succ]
    refine seq_take 17 (v := ?v17_14) rfl (by kernel_rfl) (fun _ _ _ h => h) (by rfl) (fun w' hw' => ?hy17_14) ?_
    case hy17_14 => go_simp; try with_reducible rfl
    try simp only [List.getElem_toArray, List.getElem_cons_succ, List.getElem_cons_zero, Act.put, List.setIfInBounds_toArray, List.set_cons_zero, List.set_cons_succ]
    refine seq_take 18 (v := ?v18_15) rfl (by kernel_rfl) (fun _ _ _ h => h) (by rfl) (fun w' hw' => ?hy18_15) ?_
    case hy18_15 => go_simp; try with_reducible rfl
    try simp only [List.getElem_toArray, List.getElem_cons_succ, List.getElem_cons_zero, Act.put, List.setIfInBounds_toArray, List.set_cons_zero, List.set_cons_succ]
    refine seq_done (by kernel_rfl) ?_
    clear hk
    go_wp2
    go_ret
    exact ⟨by simp, H5.out.2.2.drew⟩
  · have hN : ∃ b e', numR (-9223372036854775808) 9223372036854775807 (L, 0) = (0, (b, e')) ∧ e' ≠ 0 := by
      refine ⟨L, e, ?_, he⟩
      rw [numR, if_neg (by simp)]
      simp only [hr, if_pos he]
    obtain ⟨b, e', hN, he'⟩ := hN
    rw [hN] at H2 ⊢
    have he2 : ((e' : Int) != 0) = true := by simp; omega
    have HE := Lib.hid (And.intro he he')
    clear he hr hN he'
    go_wp2_with fail
    refine (wires_any w2).mono ?_
    rintro x w3 ⟨rfl, hb3⟩
    have H3 := Lib.hid (And.intro (H2.out.1.below hb3) (H2.out.2.trans (hb3.mono hsz2)))
    have hsz3 := hb3.size
    clear hb3
    go_wp2_with fail
    refine (err_any g _ w3 H3.out.1).mono ?_
    rintro x w4 ⟨rfl, rfl⟩
    go_wp2_with fail
    refine (wires_any w4).mono ?_
    rintro x w5 ⟨rfl, hb5⟩
    have H5 := Lib.hid (H3.out.2.trans (hb5.mono (by omega)))
    clear hb5
    go_wp2_with fail
    go_ret
    exact ⟨rfl, H5.out⟩

set_option maxRecDepth 100000 in
theorem lifted (os : Os) (started : os.Started) (H : Type) (enc : TypeId × Value → H) :
    ReturnsInHanded {} Try.checked os 5 .any (Rows.wireOnceSpec.pre6 enc Try.prog Try.f5 Rows.wireOnceRow.domain false) (Rows.wireOnceSpec.post enc Try.prog Try.f5 false true false false) := by
  refine returnsInHanded_of_change (C := Try.checked) own started (by kernel_rfl) Try.func5
    (ChangeSpec.witness6 (enc := enc) (C := Try.checked) false ⟨#[], #[.slice none 0 0], []⟩ 8 (by kernel_rfl) (by kernel_rfl) (by kernel_rfl) (by kernel_rfl)) ?_
  intro W base args ds gs before hval0 hW hcnd _
  have hval : ∀ (j : Nat) t v, Try.f5.params[j]? = some t → args[j]? = some v → Value.okWide Try.prog W .any base t v := hval0
  have hW' := hW
  obtain ⟨p, q, hA0, hV, rfl, hfz, hnd⟩ := hW
  have hA : DataW.TrodAll enc Try.prog W 0 (fun _ => true) true Try.f5.params.toList args.toList ds p := hA0
  rw [Try.params5] at hA hval
  obtain ⟨v0, d0, rfl, rfl, h0⟩ := trodAll_one hA
  obtain ⟨rfl, rfl⟩ := trodVars_none hV
  obtain ⟨ao, cap, l, rfl, hc, hm, hat⟩ := open_bytes Try.underlying23 Try.underlying5 cellsU8 (hval 0 23 v0 rfl rfl) h0
  refine (walk ao l cap hc hm W hat).mono fun e W' ⟨he, hb⟩ => ?_
  subst he
  exact ⟨_, rfl, post_law laidOut rfl rfl Try.underlying4 readable rfl rfl rfl hW' hb⟩

theorem proved : Rows.WireOnceSaid :=
  OpenClaim.holds_of_wide 5 Try.f5 rfl rfl rfl rfl rfl rfl rfl ⟨rfl, rfl, rfl, rfl, rfl⟩ rfl rfl rfl rfl rfl (by kernel_rfl) Try.func5 (by kernel_rfl)
    (of_decide_eq_true (by kernel_rfl)) (by unfold Func.isWrapper; first | (rw [if_pos (by decide +kernel)]; kernel_rfl) | (rw [if_neg (by decide +kernel)]; exact ⟨rfl, rfl⟩))
    (fun os started H enc _ => lifted os started H enc)
end Go.Proofs.Ytmnaomdnjaiggaa.wireOnce
