/- THE LAW CrcSums: of all bytes, in any parts, crc.Sum and crc.More tell what the document does. -/
import Derived.Test.YtmnaomdnjaiggaaDoorTab
namespace Go.Proofs.YtmnaomdnjaiggaaDoor.crcSums
open Go.ChangeShapes Go.WideShapes Go.ChangeAt Go.RowKit Go.ChangeMaps

set_option maxRecDepth 100000 in
set_option maxHeartbeats 1000000 in
theorem walk (ao : Option Addr) (l : List UInt8) (cap : Nat) (hc : l.length ≤ cap) (hm : cap ≤ 9223372036854775807) (c : Int) (w : World) (hat : At w ao (bytesV l)) (ht : Tab w) :
    Calls Tryd.prog 3 #[.slice ao l.length cap, .int .i64 c] w (Says w (.bool true)) := by
  have HT := Lib.hid ht
  have hL : (l.take 3000).length ≤ 3000 := by simp; omega
  have hLc : (l.take 3000).length ≤ cap := by simp; omega
  have hatL : At w ao (bytesV (l.take 3000)) := hat.takeB 3000
  clear ht hat
  go_enter Tryd.func3, Tryd.ntmps3
  go_wp2_with fail
  refine (bytes_take ao l cap hc hm _).mono ?_
  rintro e w1 ⟨rfl, rfl⟩
  generalize l.take 3000 = L at *
  have HA := Lib.hid hatL
  clear hatL
  obtain ⟨K, hK, hKe⟩ := cut_mod c L.length (by omega)
  go_wp2_with (refine conv_str rfl _ rfl ao _ cap rfl L HA.out rfl ?_)
  refine (refsum_any _ (by show L.length ≤ _; omega) _).mono ?_
  rintro e w1 ⟨rfl, rfl⟩
  go_wp2_with fail
  have hKc : K ≤ cap := by omega
  clear hKe
  refine seq_start (by kernel_rfl) ?_
  refine seq_run 0 rfl (by kernel_rfl) (by rfl) (fun KK hKK => ?_)
  go_wp2_with fail
  refine (sums_any _ HT.out.drew).mono ?_
  rintro e w1 ⟨rfl, hb1⟩
  have HT1 := Lib.hid (HT.out.drew.below hb1)
  have HA1 := Lib.hid (show At w1 ao (bytesV L) from At.below (w := w.drew) HA.out hb1)
  have B1 := Lib.hid hb1
  clear hb1
  go_wp2_with fail
  refine ⟨B1.out, ?_⟩
  refine seq_take 1 (v := ?v1) rfl (by kernel_rfl) (fun _ _ _ h => h) (by rfl) (fun w' _ => ?hy1) ?_
  case hy1 => go_simp; try with_reducible rfl
  try simp only [List.getElem_toArray, List.getElem_cons_succ, List.getElem_cons_zero, Act.put, List.setIfInBounds_toArray, List.set_cons_zero, List.set_cons_succ]
  refine seq_take 2 (v := ?v2) rfl (by kernel_rfl) (fun _ _ _ h => h) (by rfl) (fun w' _ => ?hy2) ?_
  case hy2 => go_simp; try with_reducible rfl
  try simp only [List.getElem_toArray, List.getElem_cons_succ, List.getElem_cons_zero, Act.put, List.setIfInBounds_toArray, List.set_cons_zero, List.set_cons_succ]
  refine seq_take 5 (v := ?v5) rfl (by kernel_rfl) (fun _ _ _ h => h) (by rfl) (fun w' _ => ?hy5) ?_
  case hy5 => go_simp; try with_reducible rfl
  try simp only [List.getElem_toArray, List.getElem_cons_succ, List.getElem_cons_zero, Act.put, List.setIfInBounds_toArray, List.set_cons_zero, List.set_cons_succ]
  refine seq_run 3 rfl (by kernel_rfl) (by rfl) (fun KK hKK => ?_)
  go_wp2_with fail
  refine ⟨(Below.refl _ _).alloc (Nat.le_refl _) _, ?_⟩
  refine seq_run 4 rfl (by kernel_rfl) (by rfl) (fun KK hKK => ?_)
  go_wp2_with fail
  refine (sum_one ao _ cap L rfl (by omega) w1 _ rfl HA1.out HT1.out).mono ?_
  rintro e w' ⟨rfl, rfl⟩
  go_wp2_with fail
  refine ⟨Below.refl _ _, ?_⟩
  refine seq_take 6 (v := ?v6) rfl (by kernel_rfl) (fun _ _ _ h => h) (by rfl) (fun w' _ => ?hy6) ?_
  case hy6 => go_simp; try with_reducible rfl
  try simp only [List.getElem_toArray, List.getElem_cons_succ, List.getElem_cons_zero, Act.put, List.setIfInBounds_toArray, List.set_cons_zero, List.set_cons_succ]
  refine seq_take 7 (v := ?v7) rfl (by kernel_rfl) (fun _ _ _ h => h) (by rfl) (fun w' _ => ?hy7) ?_
  case hy7 => go_simp; try with_reducible rfl
  try simp only [List.getElem_toArray, List.getElem_cons_succ, List.getElem_cons_zero, Act.put, List.setIfInBounds_toArray, List.set_cons_zero, List.set_cons_succ]
  refine seq_take 8 (v := ?v8) rfl (by kernel_rfl) (fun _ _ _ h => h) (by rfl) (fun w' _ => ?hy8) ?_
  case hy8 => go_simp; try with_reducible rfl
  try simp only [List.getElem_toArray, List.getElem_cons_succ, List.getElem_cons_zero, Act.put, List.setIfInBounds_toArray, List.set_cons_zero, List.set_cons_succ]
  refine seq_take 9 (v := ?v9) rfl (by kernel_rfl) (fun _ _ _ h => h) (by rfl) (fun w' _ => ?hy9) ?_
  case hy9 => go_simp; try with_reducible rfl
  try simp only [List.getElem_toArray, List.getElem_cons_succ, List.getElem_cons_zero, Act.put, List.setIfInBounds_toArray, List.set_cons_zero, List.set_cons_succ]
  refine seq_take 10 (v := ?v10) rfl (by kernel_rfl) (fun _ _ _ h => h) (by rfl) (fun w' _ => ?hy10) ?_
  case hy10 => go_simp; try with_reducible rfl
  try simp only [List.getElem_toArray, List.getElem_cons_succ, List.getElem_cons_zero, Act.put, List.setIfInBounds_toArray, List.set_cons_zero, List.set_cons_succ]
  refine seq_take 11 (v := ?v11) rfl (by kernel_rfl) (fun _ _ _ h => h) (by rfl) (fun w' _ => ?hy11) ?_
  case hy11 => go_simp; try with_reducible rfl
  try simp only [List.getElem_toArray, List.getElem_cons_succ, List.getElem_cons_zero, Act.put, List.setIfInBounds_toArray, List.set_cons_zero, List.set_cons_succ]
  refine seq_take 12 (v := ?v12) rfl (by kernel_rfl) (fun _ _ _ h => h) (by rfl) (fun w' _ => ?hy12) ?_
  case hy12 => go_simp; try with_reducible rfl
  try simp only [List.getElem_toArray, List.getElem_cons_succ, List.getElem_cons_zero, Act.put, List.setIfInBounds_toArray, List.set_cons_zero, List.set_cons_succ]
  refine seq_take 13 (v := ?v13) rfl (by kernel_rfl) (fun _ _ _ h => h) (by rfl) (fun w' _ => ?hy13) ?_
  case hy13 => go_simp; try with_reducible rfl
  try simp only [List.getElem_toArray, List.getElem_cons_succ, List.getElem_cons_zero, Act.put, List.setIfInBounds_toArray, List.set_cons_zero, List.set_cons_succ]
  refine seq_take 14 rfl (by kernel_rfl) (fun _ _ _ h => h) (by rfl) (seq_lo rfl rfl rfl (hK)) ?_
  try simp only [List.getElem_toArray, List.getElem_cons_succ, List.getElem_cons_zero, Act.put, List.setIfInBounds_toArray, List.set_cons_zero, List.set_cons_succ]
  refine seq_take 17 (v := ?v17) rfl (by kernel_rfl) (fun _ _ _ h => h) (by rfl) (fun w' _ => ?hy17) ?_
  case hy17 => go_simp; try with_reducible rfl
  try simp only [List.getElem_toArray, List.getElem_cons_succ, List.getElem_cons_zero, Act.put, List.setIfInBounds_toArray, List.set_cons_zero, List.set_cons_succ]
  refine seq_run 15 rfl (by kernel_rfl) (by rfl) (fun KK hKK => ?_)
  go_wp2_with fail
  refine ⟨(Below.refl _ _).alloc (Nat.le_refl _) _, ?_⟩
  refine seq_run 16 rfl (by kernel_rfl) (by rfl) (fun KK hKK => ?_)
  go_wp2_with fail
  refine (sum_two ao K cap (L.take K) (by rw [List.length_take]; omega) (by omega) _ (L.length - K) _ (L.drop K) (by rw [List.length_drop]) (by omega) _ _ (by simp) ((HA1.out.takeB K).below ((Below.refl _ _).alloc (Nat.le_refl _) _)) ((HA1.out.dropB cap K hLc).below ((Below.refl _ _).alloc (Nat.le_refl _) _)) (HT1.out.alloc _)).mono ?_
  rintro e w' ⟨rfl, rfl⟩
  rw [List.take_append_drop]
  go_wp2_with fail
  refine ⟨Below.refl _ _, ?_⟩
  refine seq_take 18 (v := ?v18) rfl (by kernel_rfl) (fun _ _ _ h => h) (by rfl) (fun w' _ => ?hy18) ?_
  case hy18 => go_simp; try with_reducible rfl
  try simp only [List.getElem_toArray, List.getElem_cons_succ, List.getElem_cons_zero, Act.put, List.setIfInBounds_toArray, List.set_cons_zero, List.set_cons_succ]
  refine seq_take 19 (v := ?v19) rfl (by kernel_rfl) (fun _ _ _ h => h) (by rfl) (fun w' _ => ?hy19) ?_
  case hy19 => go_simp; try with_reducible rfl
  try simp only [List.getElem_toArray, List.getElem_cons_succ, List.getElem_cons_zero, Act.put, List.setIfInBounds_toArray, List.set_cons_zero, List.set_cons_succ]
  refine seq_take 20 (v := ?v20) rfl (by kernel_rfl) (fun _ _ _ h => h) (by rfl) (fun w' _ => ?hy20) ?_
  case hy20 => go_simp; try with_reducible rfl
  try simp only [List.getElem_toArray, List.getElem_cons_succ, List.getElem_cons_zero, Act.put, List.setIfInBounds_toArray, List.set_cons_zero, List.set_cons_succ]
  refine seq_take 21 (v := ?v21) rfl (by kernel_rfl) (fun _ _ _ h => h) (by rfl) (fun w' _ => ?hy21) ?_
  case hy21 => go_simp; try with_reducible rfl
  try simp only [List.getElem_toArray, List.getElem_cons_succ, List.getElem_cons_zero, Act.put, List.setIfInBounds_toArray, List.set_cons_zero, List.set_cons_succ]
  refine seq_take 22 (v := ?v22) rfl (by kernel_rfl) (fun _ _ _ h => h) (by rfl) (fun w' _ => ?hy22) ?_
  case hy22 => go_simp; try with_reducible rfl
  try simp only [List.getElem_toArray, List.getElem_cons_succ, List.getElem_cons_zero, Act.put, List.setIfInBounds_toArray, List.set_cons_zero, List.set_cons_succ]
  refine seq_take 23 (v := ?v23) rfl (by kernel_rfl) (fun _ _ _ h => h) (by rfl) (fun w' _ => ?hy23) ?_
  case hy23 => go_simp; try with_reducible rfl
  try simp only [List.getElem_toArray, List.getElem_cons_succ, List.getElem_cons_zero, Act.put, List.setIfInBounds_toArray, List.set_cons_zero, List.set_cons_succ]
  refine seq_take 26 (v := ?v26) rfl (by kernel_rfl) (fun _ _ _ h => h) (by rfl) (fun w' _ => ?hy26) ?_
  case hy26 => go_simp; try with_reducible rfl
  try simp only [List.getElem_toArray, List.getElem_cons_succ, List.getElem_cons_zero, Act.put, List.setIfInBounds_toArray, List.set_cons_zero, List.set_cons_succ]
  refine seq_take 27 (v := ?v27) rfl (by kernel_rfl) (fun _ _ _ h => h) (by rfl) (fun w' _ => ?hy27) ?_
  case hy27 => go_simp; try with_reducible rfl
  try simp only [List.getElem_toArray, List.getElem_cons_succ, List.getElem_cons_zero, Act.put, List.setIfInBounds_toArray, List.set_cons_zero, List.set_cons_succ]
  refine seq_take 28 rfl (by kernel_rfl) (fun _ _ _ h => h) (by rfl) (seq_lo rfl rfl rfl (hK)) ?_
  try simp only [List.getElem_toArray, List.getElem_cons_succ, List.getElem_cons_zero, Act.put, List.setIfInBounds_toArray, List.set_cons_zero, List.set_cons_succ]
  refine seq_take 30 (v := ?v30) rfl (by kernel_rfl) (fun _ _ _ h => h) (by rfl) (fun w' _ => ?hy30) ?_
  case hy30 => go_simp; try with_reducible rfl
  try simp only [List.getElem_toArray, List.getElem_cons_succ, List.getElem_cons_zero, Act.put, List.setIfInBounds_toArray, List.set_cons_zero, List.set_cons_succ]
  refine seq_run 24 rfl (by kernel_rfl) (by rfl) (fun KK hKK => ?_)
  go_wp2_with fail
  refine ⟨(Below.refl _ _).alloc (Nat.le_refl _) _, ?_⟩
  refine seq_run 25 rfl (by kernel_rfl) (by rfl) (fun KK hKK => ?_)
  go_wp2_with fail
  refine (sum_one ao K cap (L.take K) (by rw [List.length_take]; omega) (by omega) _ _ (by simp) ((HA1.out.takeB K).below (((Below.refl _ _).alloc (Nat.le_refl _) _).alloc (by simp) _)) ((HT1.out.alloc _).alloc _)).mono ?_
  rintro e w' ⟨rfl, rfl⟩
  go_wp2_with fail
  refine ⟨Below.refl _ _, ?_⟩
  refine seq_run 29 rfl (by kernel_rfl) (by rfl) (fun KK hKK => ?_)
  go_wp2_with fail
  refine (more_any (crc (L.take K)) (crc_lt _) _ _ _ (L.drop K) (by rw [List.length_drop]) (by omega) _ ((HA1.out.dropB cap K hLc).below ((((Below.refl _ _).alloc (Nat.le_refl _) _).alloc (by simp) _).alloc (by simp; omega) _)) (((HT1.out.alloc _).alloc _).alloc _)).mono ?_
  rintro e w' ⟨rfl, rfl⟩
  rw [crc_append, List.take_append_drop]
  go_wp2_with fail
  refine ⟨Below.refl _ _, ?_⟩
  refine seq_take 31 (v := ?v31) rfl (by kernel_rfl) (fun _ _ _ h => h) (by rfl) (fun w' _ => ?hy31) ?_
  case hy31 => go_simp; try with_reducible rfl
  try simp only [List.getElem_toArray, List.getElem_cons_succ, List.getElem_cons_zero, Act.put, List.setIfInBounds_toArray, List.set_cons_zero, List.set_cons_succ]
  refine seq_take 32 (v := ?v32) rfl (by kernel_rfl) (fun _ _ _ h => h) (by rfl) (fun w' _ => ?hy32) ?_
  case hy32 => go_simp; try with_reducible rfl
  try simp only [List.getElem_toArray, List.getElem_cons_succ, List.getElem_cons_zero, Act.put, List.setIfInBounds_toArray, List.set_cons_zero, List.set_cons_succ]
  refine seq_take 33 (v := ?v33) rfl (by kernel_rfl) (fun _ _ _ h => h) (by rfl) (fun w' _ => ?hy33) ?_
  case hy33 => go_simp; try with_reducible rfl
  try simp only [List.getElem_toArray, List.getElem_cons_succ, List.getElem_cons_zero, Act.put, List.setIfInBounds_toArray, List.set_cons_zero, List.set_cons_succ]
  refine seq_done (by kernel_rfl) ?_
  go_wp2
  go_ret
  have b1 := below_drew B1.out
  have g1 := b1.size
  exact ⟨rfl, (((b1.alloc (by omega) _).alloc (by simp; omega) _).alloc (by simp; omega) _)⟩

theorem own : ownKnob Tryd.prog.godebug = none := by kernel_rfl
theorem laidOut : laidOutB Tryd.prog = true := by kernel_rfl
theorem readable : ∀ t ∈ Tryd.f3.params.toList, Tryd.prog.readableRec t = true ∧ t < Tryd.prog.types.size := by
  rw [Tryd.params3]
  intro t ht
  simp at ht
  rcases ht with rfl | rfl
  · exact ⟨by kernel_rfl, of_decide_eq_true (by kernel_rfl)⟩
  · exact ⟨by kernel_rfl, of_decide_eq_true (by kernel_rfl)⟩

theorem laid_met (os : Os) : laidMet Tryd.prog Rows.crcSumsRow.laid ((laidWorld os).forCall (fun _ _ => 0) ⟨#[], #[.slice none 0 0, .int .i64 0], []⟩).memory :=
  laidMet_of_run' 8 (by kernel_rfl) (by kernel_rfl)
theorem reads (os : Os) {H : Type} (enc : TypeId × Value → H) : DataW.whole enc Tryd.prog ((laidWorld os).forCall (fun _ _ => 0) ⟨#[], #[.slice none 0 0, .int .i64 0], []⟩).memory Tryd.f3.params.toList Rows.crcSumsSpec.vars false (#[.slice none 0 0, .int .i64 0] : Array Value).toList 8 = some ([.nil, .lit (.int .i64 0)], [], []) := by kernel_rfl
set_option maxRecDepth 100000 in
theorem lifted (os : Os) (started : os.Started) (H : Type) (enc : TypeId × Value → H) (F : Stop.Interp) :
    ReturnsInHanded {} Tryd.checked os 3 .any ((OpenSpec.ofChange Rows.crcSumsSpec).preRow enc Tryd.prog Tryd.f3 Rows.crcSumsRow.domain false Rows.crcSumsRow.laid) (((OpenSpec.ofChange Rows.crcSumsSpec).at F).post enc Tryd.prog Tryd.f3 false true false false) := by
  have hx := reads os enc
  refine returnsInHanded_of_row (C := Tryd.checked) (s := OpenSpec.ofChange Rows.crcSumsSpec) own started (by kernel_rfl) Tryd.func3
    (witness_row_at (enc := enc) (C := Tryd.checked) false (laidWorld os) #[.slice none 0 0, .int .i64 0] rfl (by kernel_rfl) (by kernel_rfl) (by kernel_rfl)
      (OpenSpec.preRow_of_cond 8 hx (by kernel_rfl) (fun k hk => by cases hk) (by kernel_rfl) (laid_met os))) ?_
  intro W base args ds gs before hval0 hW _ _ _ hL _ _
  have ht : Tab W := table_of hL
  have hval : ∀ (j : Nat) t v, Tryd.f3.params[j]? = some t → args[j]? = some v → Value.okWide Tryd.prog W .any base t v := hval0
  have hW' := hW
  obtain ⟨p, q, hA0, hV, rfl, hfz, hnd⟩ := hW
  have hA : DataW.TrodAll enc Tryd.prog W 0 (fun _ => true) true Tryd.f3.params.toList args.toList ds p := hA0
  rw [Tryd.params3] at hA hval
  obtain ⟨v0, v1, d0, d1, p0, p1, rfl, rfl, rfl, h0, h1⟩ := trodAll_two hA
  obtain ⟨rfl, rfl⟩ := trodVars_none hV
  obtain ⟨ao, cap, l, rfl, hc, hm, hat⟩ := open_bytes Tryd.underlying22 Tryd.underlying5 cellsU8 (hval 0 22 v0 rfl rfl) h0
  obtain ⟨c, rfl, rfl, rfl, wc⟩ := open_int Tryd.underlying3 (hval 1 3 v1 rfl rfl) h1
  refine (walk ao l cap hc hm c W hat ht).mono fun e W' ⟨he, hb⟩ => ?_
  subst he
  exact ⟨_, rfl, post_law laidOut rfl rfl Tryd.underlying4 readable rfl rfl rfl hW' hb⟩

theorem said : Rows.CrcSumsSaid :=
  OpenClaim.holds_of_cond 3 Tryd.f3 rfl rfl rfl rfl rfl rfl rfl ⟨rfl, rfl, rfl, rfl, rfl⟩ rfl rfl rfl rfl rfl (by kernel_rfl) Tryd.func3 (by kernel_rfl)
    (of_decide_eq_true (by kernel_rfl)) (by unfold Func.isWrapper; first | (rw [if_pos (by decide +kernel)]; kernel_rfl) | (rw [if_neg (by decide +kernel)]; exact ⟨rfl, rfl⟩))
    (fun os started H enc _ F => by rw [OpenClaim.pre_eq_preRow]; exact lifted os started H enc F)

/-- No parameter wants a stand-in; the program's own looks are off. -/
theorem plain (f : FuncId) (fn : Func) (hf : Tryd.pinned.checked.prog.funcNamed "scriptor/scriptorlaw02.CrcSums" = some f) (hfn : Tryd.pinned.checked.prog.funcs[f]? = some fn) :
    false = Tryd.pinned.checked.prog.looks [] ∧ ∀ (j : Nat) t, fn.params[j]? = some t → Tryd.pinned.checked.prog.wantsStandIn t = false := by
  obtain rfl : f = 3 := Option.some.inj ((show Tryd.prog.funcNamed "scriptor/scriptorlaw02.CrcSums" = some 3 by kernel_rfl).symm.trans hf) |>.symm
  obtain rfl : fn = Tryd.f3 := (Option.some.inj (Tryd.func3.symm.trans hfn)).symm
  refine ⟨by kernel_rfl, fun j t ht => ?_⟩
  have hall : ∀ t ∈ Tryd.f3.params.toList, Tryd.prog.wantsStandIn t = false := by
    rw [Tryd.params3]
    intro t ht
    simp at ht
    rcases ht with rfl | rfl
    · kernel_rfl
    · kernel_rfl
  exact hall t (Array.mem_toList_iff.2 (Array.mem_of_getElem? ht))

theorem card : Rows.CrcSumsCardSaid :=
  Claim7.holds_tied_plain_at .later [] _ _ _ _ said (fun _ h => by cases h) (by kernel_rfl) (fun _ h => by cases h) crcSums_row_tie rfl ⟨rfl, rfl⟩ (by kernel_rfl) rfl plain (by kernel_rfl)
end Go.Proofs.YtmnaomdnjaiggaaDoor.crcSums
