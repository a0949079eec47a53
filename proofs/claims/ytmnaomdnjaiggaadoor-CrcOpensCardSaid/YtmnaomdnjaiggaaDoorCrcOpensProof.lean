/- THE LAW CrcOpens: of all bytes Close and Open tell what the chapter does; what is handed in stays. -/
import Derived.Test.YtmnaomdnjaiggaaDoorTab
import Derived.Test.YtmnaomdnjaiggaaDoorCrcW
import Derived.Test.YtmnaomdnjaiggaaDoorCrcO
import Derived.Test.YtmnaomdnjaiggaaDoorRoom
import Derived.Test.YtmnaomdnjaiggaaDoorLaw
namespace Go.Proofs.YtmnaomdnjaiggaaDoor.crcOpens
open Go.ChangeShapes Go.WideShapes Go.ChangeAt Go.RowKit Go.ChangeMaps

theorem opens_close (L : List UInt8) : opens (L ++ four (crc L)) = some L := by
  have h : (L ++ four (crc L)).length - 4 = L.length := by rw [List.length_append, four_len]; omega
  rw [opens, h, if_pos ⟨by rw [List.length_append, four_len]; omega, by simp⟩]
  simp

theorem cat_bytes (a b : List UInt8) : (⟨a.toArray⟩ : ByteArray) ++ ⟨b.toArray⟩ = ⟨(a ++ b).toArray⟩ := by
  apply ByteArray.ext
  rw [ByteArray.data_append]
  simp

set_option maxRecDepth 100000 in
set_option maxHeartbeats 1000000 in
theorem walk (ao : Option Addr) (l : List UInt8) (cap : Nat) (hc : l.length ≤ cap) (hm : cap ≤ 9223372036854775807) (w : World) (hat : At w ao (bytesV l)) (ht : Tab w) :
    Calls Tryd.prog 6 #[.slice ao l.length cap] w (Says w (.bool true)) := by
  have HT := Lib.hid ht
  have hL : (l.take 3000).length ≤ 3000 := by simp; omega
  have hatL : At w ao (bytesV (l.take 3000)) := hat.takeB 3000
  clear ht hat
  go_enter Tryd.func6, Tryd.ntmps6
  go_wp2_with fail
  refine (bytes_take ao l cap hc hm _).mono ?_
  rintro e w1 ⟨rfl, rfl⟩
  clear hc
  generalize l.take 3000 = L at *
  have HA := Lib.hid hatL
  clear hatL
  go_wp2_with (first | (refine op_make0 rfl _ _ rfl (L.length + 9) rfl rfl (by omega) ?_; rintro w1 r1 b1 s1; have H1 := Lib.hid (And.intro r1 b1); clear r1 b1) | (at_builtin; refine app_room rfl _ _ rfl w.heap.size 0 (L.length + 9) (List.replicate (L.length + 9) 0) rfl H1.out.1 (by simp) ao _ cap L rfl (HA.out.below H1.out.2) rfl (by omega) ?_; rintro w2 r2 g2 s2))
  have hin : Row8 w2 w.heap.size (L ++ List.replicate 9 0) := by
    have e : List.take 0 (List.replicate (L.length + 9) (0 : UInt8)) ++ L ++ List.drop (0 + L.length) (List.replicate (L.length + 9) 0) = L ++ List.replicate 9 0 := by
      rw [List.take_zero, List.nil_append, List.drop_replicate]
      congr 2
      omega
    rw [e] at r2
    exact r2
  have hb2 : Below w.heap.size w w2 := H1.out.2.grown g2 (by omega) (fun k hk => by cases hk; exact Nat.le_refl _)
  have H2 := Lib.hid (And.intro hin hb2)
  have hsz2 : w.heap.size < w2.heap.size := by omega
  generalize hg : w.heap.size = g at *
  have HG := Lib.hid hg
  clear r2 g2 s1 s2 hin hb2 H1 hg
  have hatin : At w2 (some ⟨g, 0, none⟩) (bytesV L) := by
    have := At.takeB H2.out.1.at L.length
    rwa [List.take_left] at this
  have HIN := Lib.hid hatin
  clear hatin
  refine (close_any _ L _ _ rfl (by omega) w2 HIN.out (HT.out.below (by rw [HG.out]; exact H2.out.2))).mono ?_
  rintro e w3 ⟨co, capc, rfl, hown, hb3⟩
  have hcc : (L ++ four (crc L)).length ≤ capc := by
    obtain ⟨_, _, e, h⟩ := owns_form hown
    cases e; exact h
  have HC := Lib.hid (At.own hown)
  have H3 := Lib.hid (H2.out.2.trans (hb3.mono (by omega)))
  have HI3 := Lib.hid (And.intro (H2.out.1.below hb3) (HIN.out.below hb3))
  have hsz3 := hb3.size
  clear hown hb3
  go_wp2_with fail
  refine (copen_any co (L ++ four (crc L)) _ capc (by rw [List.length_append]) (by rw [four_len]; omega) (by rw [List.length_append] at hcc; exact hcc) w3 HC.out (HT.out.below (by rw [HG.out]; exact H3.out))).mono ?_
  rintro e w4 ⟨hb4, ho⟩
  rw [opens_close] at ho
  obtain ⟨oo, capo, rfl, hown⟩ := ho
  have HO := Lib.hid hown
  have H4 := Lib.hid (H3.out.trans (hb4.mono (by omega)))
  have D4 := Lib.hid hb4
  have HI4 := Lib.hid (And.intro (HI3.out.1.below hb4) (And.intro (HI3.out.2.below hb4) (HC.out.below hb4)))
  have hsz4 := hb4.size
  clear hown hb4
  go_wp2_with fail
  refine (copen_any (some ⟨g, 0, none⟩) L _ (L.length + 9) rfl (by omega) (by omega) w4 HI4.out.2.1 (HT.out.below (by rw [HG.out]; exact H4.out))).mono ?_
  rintro e w5 ⟨hb5, ho⟩
  obtain ⟨xo, xn, xcap, X, tb, rfl, hxl, hxat, hS⟩ : ∃ xo xn xcap X tb, e = .returned (.tuple #[.slice xo xn xcap, .bool tb]) ∧ xn = X.length ∧ At w5 xo (bytesV X) ∧ opensS L = .tuple #[.string ⟨X.toArray⟩, .bool tb] := by
    rw [opensS]
    rcases hopL : opens L with _ | X
    · rw [hopL] at ho
      exact ⟨none, 0, 0, [], false, ho, rfl, At.nil _ _, rfl⟩
    · rw [hopL] at ho
      obtain ⟨xo, xcap, rfl, hown⟩ := ho
      exact ⟨xo, X.length, xcap, X, true, rfl, rfl, At.own hown, rfl⟩
  have HX := Lib.hid (And.intro hxl hxat)
  have HS := Lib.hid hS
  have H5 := Lib.hid (H4.out.trans (hb5.mono (by omega)))
  have D5 := Lib.hid (D4.out.trans (hb5.mono (by omega)))
  have HI5 := Lib.hid (And.intro (HI4.out.1.below hb5) (And.intro (HI4.out.2.1.below hb5) (HI4.out.2.2.below hb5)))
  have HO5 := Lib.hid (owns_below HO.out hb5)
  have hsz5 := hb5.size
  clear hb5 ho hxl hxat hS HO
  go_wp2_with (refine conv_str rfl _ rfl ao _ cap rfl L (HA.out.below (by rw [HG.out]; exact H5.out)) rfl ?_)
  refine (ropen_any L (by omega) w5).mono ?_
  rintro e w6 ⟨rfl, hb6⟩
  rw [HS.out]
  have H6 := Lib.hid (H5.out.trans (hb6.mono (by omega)))
  have D6 := Lib.hid (D5.out.trans (hb6.mono (by omega)))
  have HI6 := Lib.hid (And.intro (HI5.out.1.below hb6) (And.intro (HI5.out.2.1.below hb6) (HI5.out.2.2.below hb6)))
  have HO6 := Lib.hid (owns_below HO5.out hb6)
  have HX6 := Lib.hid (HX.out.2.below hb6)
  have hsz6 := hb6.size
  clear hb6
  go_wp2_with fail
  refine seq_start (by kernel_rfl) ?_
  refine seq_run 0 rfl (by kernel_rfl) (by rfl) (fun KK hKK => ?_)
  go_wp2_with fail
  refine (sums_any _ (HT.out.below (by rw [HG.out]; exact H6.out.drew))).mono ?_
  rintro e w7 ⟨rfl, hb7⟩
  have hsz7 := hb7.size
  simp only [World.size_drew] at hsz7
  have hb67 : Below w6.heap.size w6 w7 := below_drew hb7
  have HB7 := Lib.hid hb7
  have H7 := Lib.hid (H6.out.trans (hb67.mono (by omega)))
  have D7 := Lib.hid (D6.out.trans (hb67.mono (by omega)))
  have HI7 := Lib.hid (And.intro (HI6.out.1.below hb67) (And.intro (HI6.out.2.1.below hb67) (HI6.out.2.2.below hb67)))
  have HO7 := Lib.hid (owns_below HO6.out hb67)
  have HX7 := Lib.hid (HX6.out.below hb67)
  clear hb7 hb67
  go_wp2_with fail
  refine ⟨HB7.out, ?_⟩
  refine seq_take 1 (v := ?v1_1) rfl (by kernel_rfl) (fun _ _ _ h => h) (by rfl) (fun w' hw' => ?hy1_1) ?_
  case hy1_1 => go_simp; try with_reducible rfl
  try simp only [List.getElem_toArray, List.getElem_cons_succ, List.getElem_cons_zero, Act.put, List.setIfInBounds_toArray, List.set_cons_zero, List.set_cons_succ]
  refine seq_take 2 (v := ?v2_2) rfl (by kernel_rfl) (fun _ _ _ h => h) (by rfl) (fun w' hw' => ?hy2_2) ?_
  case hy2_2 => go_simp; try with_reducible rfl
  try simp only [List.getElem_toArray, List.getElem_cons_succ, List.getElem_cons_zero, Act.put, List.setIfInBounds_toArray, List.set_cons_zero, List.set_cons_succ]
  refine seq_take 3 (v := ?v3_3) rfl (by kernel_rfl) (fun _ _ _ h => h) (by rfl) (fun w' hw' => ?hy3_3) ?_
  case hy3_3 => go_simp; try with_reducible rfl
  try simp only [List.getElem_toArray, List.getElem_cons_succ, List.getElem_cons_zero, Act.put, List.setIfInBounds_toArray, List.set_cons_zero, List.set_cons_succ]
  refine seq_take 4 rfl (by kernel_rfl) (fun _ _ _ h => h) (by rfl) (seq_conv rfl rfl (HI7.out.2.2) (by first | rfl | assumption | (symm; assumption) | simp)) ?_
  try simp only [List.getElem_toArray, List.getElem_cons_succ, List.getElem_cons_zero, Act.put, List.setIfInBounds_toArray, List.set_cons_zero, List.set_cons_succ]
  refine seq_take 5 (v := ?v5_4) rfl (by kernel_rfl) (fun _ _ _ h => h) (by rfl) (fun w' hw' => ?hy5_4) ?_
  case hy5_4 => go_simp; try with_reducible rfl
  try simp only [List.getElem_toArray, List.getElem_cons_succ, List.getElem_cons_zero, Act.put, List.setIfInBounds_toArray, List.set_cons_zero, List.set_cons_succ]
  refine seq_take 6 rfl (by kernel_rfl) (fun _ _ _ h => h) (by rfl) (seq_conv rfl rfl ((show At w7 ao (bytesV L) from HA.out.below (by rw [HG.out]; exact H7.out))) (by first | rfl | assumption | (symm; assumption) | simp)) ?_
  try simp only [List.getElem_toArray, List.getElem_cons_succ, List.getElem_cons_zero, Act.put, List.setIfInBounds_toArray, List.set_cons_zero, List.set_cons_succ]
  refine seq_take 7 (v := ?v7_5) rfl (by kernel_rfl) (fun _ _ _ h => h) (by rfl) (fun w' hw' => ?hy7_5) ?_
  case hy7_5 => go_simp; try with_reducible rfl
  try simp only [List.getElem_toArray, List.getElem_cons_succ, List.getElem_cons_zero, Act.put, List.setIfInBounds_toArray, List.set_cons_zero, List.set_cons_succ]
  refine seq_take 8 rfl (by kernel_rfl) (fun _ _ _ h => h) (by rfl) (seq_conv rfl rfl ((show At w7 ao (bytesV L) from HA.out.below (by rw [HG.out]; exact H7.out))) (by first | rfl | assumption | (symm; assumption) | simp)) ?_
  try simp only [List.getElem_toArray, List.getElem_cons_succ, List.getElem_cons_zero, Act.put, List.setIfInBounds_toArray, List.set_cons_zero, List.set_cons_succ]
  refine seq_run 9 rfl (by kernel_rfl) (by rfl) (fun KK hKK => ?_)
  go_wp2_with fail
  refine (refsum_any ⟨L.toArray⟩ (by show L.length ≤ _; omega) _).mono ?_
  rintro e w8 ⟨rfl, rfl⟩
  go_wp2_with fail
  refine ⟨Below.refl _ _, ?_⟩
  refine seq_run 10 rfl (by kernel_rfl) (by rfl) (fun KK hKK => ?_)
  go_wp2_with fail
  refine (four_any _ (crc_lt _) _).mono ?_
  rintro e w8 ⟨rfl, hb8⟩
  have hsz8 := hb8.size
  have HB8 := Lib.hid hb8
  have H8 := Lib.hid (H7.out.trans (hb8.mono (by omega)))
  have D8 := Lib.hid (D7.out.trans (hb8.mono (by omega)))
  have HI8 := Lib.hid (And.intro (HI7.out.1.below hb8) (And.intro (HI7.out.2.1.below hb8) (HI7.out.2.2.below hb8)))
  have HO8 := Lib.hid (owns_below HO7.out hb8)
  have HX8 := Lib.hid (And.intro HX.out.1 (HX7.out.below hb8))
  clear hb8
  have hcat := cat_bytes L (four (crc L))
  have hnb : ¬ (9223372036854775807 < L.length + (four (crc L)).length) := by rw [four_len]; omega
  go_wp2_with fail
  refine ⟨HB8.out, ?_⟩
  refine seq_take 11 (v := ?v11_6) rfl (by kernel_rfl) (fun _ _ _ h => h) (by rfl) (fun w' hw' => ?hy11_6) ?_
  case hy11_6 => go_simp; try with_reducible rfl
  try simp only [List.getElem_toArray, List.getElem_cons_succ, List.getElem_cons_zero, Act.put, List.setIfInBounds_toArray, List.set_cons_zero, List.set_cons_succ]
  refine seq_take 12 (v := ?v12_7) rfl (by kernel_rfl) (fun _ _ _ h => h) (by rfl) (fun w' hw' => ?hy12_7) ?_
  case hy12_7 => go_simp; try with_reducible rfl
  try simp only [List.getElem_toArray, List.getElem_cons_succ, List.getElem_cons_zero, Act.put, List.setIfInBounds_toArray, List.set_cons_zero, List.set_cons_succ]
  refine seq_take 13 (v := ?v13_8) rfl (by kernel_rfl) (fun _ _ _ h => h) (by rfl) (fun w' hw' => ?hy13_8) ?_
  case hy13_8 => go_simp; try with_reducible rfl
  try simp only [List.getElem_toArray, List.getElem_cons_succ, List.getElem_cons_zero, Act.put, List.setIfInBounds_toArray, List.set_cons_zero, List.set_cons_succ]
  refine seq_take 14 (v := ?v14_9) rfl (by kernel_rfl) (fun _ _ _ h => h) (by rfl) (fun w' hw' => ?hy14_9) ?_
  case hy14_9 => go_simp; try with_reducible rfl
  try simp only [List.getElem_toArray, List.getElem_cons_succ, List.getElem_cons_zero, Act.put, List.setIfInBounds_toArray, List.set_cons_zero, List.set_cons_succ]
  refine seq_take 15 (v := ?v15_10) rfl (by kernel_rfl) (fun _ _ _ h => h) (by rfl) (fun w' hw' => ?hy15_10) ?_
  case hy15_10 => go_simp; try with_reducible rfl
  try simp only [List.getElem_toArray, List.getElem_cons_succ, List.getElem_cons_zero, Act.put, List.setIfInBounds_toArray, List.set_cons_zero, List.set_cons_succ]
  refine seq_take 16 (v := ?v16_11) rfl (by kernel_rfl) (fun _ _ _ h => h) (by rfl) (fun w' hw' => ?hy16_11) ?_
  case hy16_11 => go_simp; try with_reducible rfl
  try simp only [List.getElem_toArray, List.getElem_cons_succ, List.getElem_cons_zero, Act.put, List.setIfInBounds_toArray, List.set_cons_zero, List.set_cons_succ]
  refine seq_take 17 (v := ?v17_12) rfl (by kernel_rfl) (fun _ _ _ h => h) (by rfl) (fun w' hw' => ?hy17_12) ?_
  case hy17_12 => go_simp; try with_reducible rfl
  try simp only [List.getElem_toArray, List.getElem_cons_succ, List.getElem_cons_zero, Act.put, List.setIfInBounds_toArray, List.set_cons_zero, List.set_cons_succ]
  refine seq_take 18 (v := ?v18_13) rfl (by kernel_rfl) (fun _ _ _ h => h) (by rfl) (fun w' hw' => ?hy18_13) ?_
  case hy18_13 => go_simp; try with_reducible rfl
  try simp only [List.getElem_toArray, List.getElem_cons_succ, List.getElem_cons_zero, Act.put, List.setIfInBounds_toArray, List.set_cons_zero, List.set_cons_succ]
  refine seq_take 19 (v := ?v19_14) rfl (by kernel_rfl) (fun _ _ _ h => h) (by rfl) (fun w' hw' => ?hy19_14) ?_
  case hy19_14 => go_simp; try with_reducible rfl
  try simp only [List.getElem_toArray, List.getElem_cons_succ, List.getElem_cons_zero, Act.put, List.setIfInBounds_toArray, List.set_cons_zero, List.set_cons_succ]
  refine seq_take 20 rfl (by kernel_rfl) (fun _ _ _ h => h) (by rfl) (seq_conv rfl rfl ((show At w8 oo (bytesV L) from At.own HO8.out)) (by first | rfl | assumption | (symm; assumption) | simp)) ?_
  try simp only [List.getElem_toArray, List.getElem_cons_succ, List.getElem_cons_zero, Act.put, List.setIfInBounds_toArray, List.set_cons_zero, List.set_cons_succ]
  refine seq_take 21 (v := ?v21_15) rfl (by kernel_rfl) (fun _ _ _ h => h) (by rfl) (fun w' hw' => ?hy21_15) ?_
  case hy21_15 => go_simp; try with_reducible rfl
  try simp only [List.getElem_toArray, List.getElem_cons_succ, List.getElem_cons_zero, Act.put, List.setIfInBounds_toArray, List.set_cons_zero, List.set_cons_succ]
  refine seq_take 22 rfl (by kernel_rfl) (fun _ _ _ h => h) (by rfl) (seq_conv rfl rfl ((show At w8 ao (bytesV L) from HA.out.below (by rw [HG.out]; exact H8.out))) (by first | rfl | assumption | (symm; assumption) | simp)) ?_
  try simp only [List.getElem_toArray, List.getElem_cons_succ, List.getElem_cons_zero, Act.put, List.setIfInBounds_toArray, List.set_cons_zero, List.set_cons_succ]
  refine seq_take 23 (v := ?v23_16) rfl (by kernel_rfl) (fun _ _ _ h => h) (by rfl) (fun w' hw' => ?hy23_16) ?_
  case hy23_16 => go_simp; try with_reducible rfl
  try simp only [List.getElem_toArray, List.getElem_cons_succ, List.getElem_cons_zero, Act.put, List.setIfInBounds_toArray, List.set_cons_zero, List.set_cons_succ]
  refine seq_take 24 (v := ?v24_17) rfl (by kernel_rfl) (fun _ _ _ h => h) (by rfl) (fun w' hw' => ?hy24_17) ?_
  case hy24_17 => go_simp; try with_reducible rfl
  try simp only [List.getElem_toArray, List.getElem_cons_succ, List.getElem_cons_zero, Act.put, List.setIfInBounds_toArray, List.set_cons_zero, List.set_cons_succ]
  refine seq_take 25 (v := ?v25_18) rfl (by kernel_rfl) (fun _ _ _ h => h) (by rfl) (fun w' hw' => ?hy25_18) ?_
  case hy25_18 => go_simp; try with_reducible rfl
  try simp only [List.getElem_toArray, List.getElem_cons_succ, List.getElem_cons_zero, Act.put, List.setIfInBounds_toArray, List.set_cons_zero, List.set_cons_succ]
  refine seq_take 26 (v := ?v26_19) rfl (by kernel_rfl) (fun _ _ _ h => h) (by rfl) (fun w' hw' => ?hy26_19) ?_
  case hy26_19 => go_simp; try with_reducible rfl
  try simp only [List.getElem_toArray, List.getElem_cons_succ, List.getElem_cons_zero, Act.put, List.setIfInBounds_toArray, List.set_cons_zero, List.set_cons_succ]
  have hxl := HX8.out.1
  refine seq_take 27 rfl (by kernel_rfl) (fun _ _ _ h => h) (by rfl) (seq_conv rfl rfl (HX8.out.2) (by first | rfl | assumption | (symm; assumption) | simp)) ?_
  try simp only [List.getElem_toArray, List.getElem_cons_succ, List.getElem_cons_zero, Act.put, List.setIfInBounds_toArray, List.set_cons_zero, List.set_cons_succ]
  refine seq_take 28 (v := ?v28_20) rfl (by kernel_rfl) (fun _ _ _ h => h) (by rfl) (fun w' hw' => ?hy28_20) ?_
  case hy28_20 => go_simp; try with_reducible rfl
  try simp only [List.getElem_toArray, List.getElem_cons_succ, List.getElem_cons_zero, Act.put, List.setIfInBounds_toArray, List.set_cons_zero, List.set_cons_succ]
  refine seq_take 29 (v := ?v29_21) rfl (by kernel_rfl) (fun _ _ _ h => h) (by rfl) (fun w' hw' => ?hy29_21) ?_
  case hy29_21 => go_simp; try with_reducible rfl
  try simp only [List.getElem_toArray, List.getElem_cons_succ, List.getElem_cons_zero, Act.put, List.setIfInBounds_toArray, List.set_cons_zero, List.set_cons_succ]
  refine seq_take 30 (v := ?v30_22) rfl (by kernel_rfl) (fun _ _ _ h => h) (by rfl) (fun w' hw' => ?hy30_22) ?_
  case hy30_22 => go_simp; try with_reducible rfl
  try simp only [List.getElem_toArray, List.getElem_cons_succ, List.getElem_cons_zero, Act.put, List.setIfInBounds_toArray, List.set_cons_zero, List.set_cons_succ]
  refine seq_take 31 (v := ?v31_23) rfl (by kernel_rfl) (fun _ _ _ h => h) (by rfl) (fun w' hw' => ?hy31_23) ?_
  case hy31_23 => go_simp; try with_reducible rfl
  try simp only [List.getElem_toArray, List.getElem_cons_succ, List.getElem_cons_zero, Act.put, List.setIfInBounds_toArray, List.set_cons_zero, List.set_cons_succ]
  refine seq_take 32 (v := ?v32_24) rfl (by kernel_rfl) (fun _ _ _ h => h) (by rfl) (fun w' hw' => ?hy32_24) ?_
  case hy32_24 => go_simp; try with_reducible rfl
  try simp only [List.getElem_toArray, List.getElem_cons_succ, List.getElem_cons_zero, Act.put, List.setIfInBounds_toArray, List.set_cons_zero, List.set_cons_succ]
  refine seq_take 33 (v := ?v33_25) rfl (by kernel_rfl) (fun _ _ _ h => h) (by rfl) (fun w' hw' => ?hy33_25) ?_
  case hy33_25 => go_simp; try with_reducible rfl
  try simp only [List.getElem_toArray, List.getElem_cons_succ, List.getElem_cons_zero, Act.put, List.setIfInBounds_toArray, List.set_cons_zero, List.set_cons_succ]
  refine seq_take 34 (v := ?v34_26) rfl (by kernel_rfl) (fun _ _ _ h => h) (by rfl) (fun w' hw' => ?hy34_26) ?_
  case hy34_26 => go_simp; try with_reducible rfl
  try simp only [List.getElem_toArray, List.getElem_cons_succ, List.getElem_cons_zero, Act.put, List.setIfInBounds_toArray, List.set_cons_zero, List.set_cons_succ]
  refine seq_take 35 (v := ?v35_27) rfl (by kernel_rfl) (fun _ _ _ h => h) (by rfl) (fun w' hw' => ?hy35_27) ?_
  case hy35_27 => go_simp; try with_reducible rfl
  try simp only [List.getElem_toArray, List.getElem_cons_succ, List.getElem_cons_zero, Act.put, List.setIfInBounds_toArray, List.set_cons_zero, List.set_cons_succ]
  refine seq_done (by kernel_rfl) ?_
  clear hxl hcat hnb
  go_wp2_with fail
  go_loop [12] (fun i => ∃ k : Nat, L.length ≤ k ∧ k ≤ L.length + 9 ∧ i = .int .i64 (k : Int)) (fun i => L.length + 9 - (intOf i).toNat)
  case atStart => exact ⟨L.length, Nat.le_refl _, by omega, rfl⟩
  case round =>
    obtain ⟨k, hk0, hk1, rfl⟩ := hrel
    by_cases hlt : k < L.length + 9
    · have hcell : w8.cell? ⟨g, k, none⟩ = some (.int .u8 0) := by
        rw [cell_of_row _ g k _ _ (0, 0) HI8.out.1]
        have := bytesV_get (L ++ List.replicate 9 0) k (by simp; omega)
        rw [List.getElem_append_right hk0, List.getElem_replicate] at this
        simpa [u8v] using this
      go_wp2
      go_round
      case rel => exact ⟨k + 1, by omega, by omega, by simp⟩
      case measure => simp [intOf]; omega
    · go_wp2_with fail
      go_loopw [13] (fun i wr => ∃ (k : Nat) (M : List UInt8), k ≤ L.length ∧ M.length = L.length ∧ i = .int .i64 (k : Int) ∧ wr.ownsRow w3.heap.size 5 1 (.slice oo L.length capo) L.length (bytesV M) ∧ Below w3.heap.size w3 wr) (fun i _ => L.length - (intOf i).toNat)
      case atStart => exact ⟨0, L, by omega, rfl, rfl, HO8.out, D8.out⟩
      case round =>
        obtain ⟨k, M, hk, hM, rfl, hown, hbel⟩ := hrel
        have HW := Lib.hid (And.intro hM (And.intro hown hbel))
        clear hM hown hbel
        by_cases hlt : k < L.length
        · obtain ⟨go, rfl⟩ : ∃ go, oo = some ⟨go, 0, none⟩ := by
            rcases HW.out.2.1.2 with ⟨h, _⟩ | ⟨g', cap', cur, hv, _⟩
            · simp at h; omega
            · cases hv; exact ⟨g', rfl⟩
          have hcell : wr.cell? ⟨go, k, none⟩ = some (.int .u8 ((M[k]'(by have := HW.out.1; omega)).toNat : Int)) := by
            rw [HW.out.2.1.cellAt k (by omega)]
            exact bytesV_get M k (by have := HW.out.1; omega)
          have hfr : wr.frozen? ⟨go, k, none⟩ = false := HW.out.2.1.frozenAt k
          have hg3 : w3.heap.size ≤ go := (HW.out.2.1.lt go rfl).1
          go_wp2_with fail
          go_roundw
          case rel =>
            refine ⟨k + 1, M.set k 119, by omega, by rw [List.length_set]; exact HW.out.1, by simp, ?_, HW.out.2.2.setCell hg3 _⟩
            rw [bytesV_set]
            exact (HW.out.2.1.stored k _).1
          case measure => simp [intOf]; omega
        · have HD := Lib.hid HW.out.2.2
          have HAd : At wr ao (bytesV L) := HA.out.below (by rw [HG.out]; exact (H3.out.trans (HD.out.mono (by omega))))
          have HID : At wr (some ⟨g, 0, none⟩) (bytesV L) := HI3.out.2.below HD.out
          have HCD : At wr co (bytesV ((L ++ four (crc L)).take L.length)) := (HC.out.below HD.out).takeB L.length
          rw [List.take_left] at HCD
          have HAD := Lib.hid (And.intro HAd (And.intro HID HCD))
          clear HAd HID HCD
          have hLc : L.length ≤ capc := by simp only [List.length_append] at hcc; omega
          go_wp2_with fail
          refine seq_start (by kernel_rfl) ?_
          refine seq_take 0 (v := ?v0_28) rfl (by kernel_rfl) (fun _ _ _ h => h) (by rfl) (fun w' hw' => ?hy0_28) ?_
          case hy0_28 => go_simp; try with_reducible rfl
          try simp only [List.getElem_toArray, List.getElem_cons_succ, List.getElem_cons_zero, Act.put, List.setIfInBounds_toArray, List.set_cons_zero, List.set_cons_succ]
          refine seq_take 1 (v := ?v1_29) rfl (by kernel_rfl) (fun _ _ _ h => h) (by rfl) (fun w' hw' => ?hy1_29) ?_
          case hy1_29 => go_simp; try with_reducible rfl
          try simp only [List.getElem_toArray, List.getElem_cons_succ, List.getElem_cons_zero, Act.put, List.setIfInBounds_toArray, List.set_cons_zero, List.set_cons_succ]
          refine seq_take 2 (v := ?v2_30) rfl (by kernel_rfl) (fun _ _ _ h => h) (by rfl) (fun w' hw' => ?hy2_30) ?_
          case hy2_30 => go_simp; try with_reducible rfl
          try simp only [List.getElem_toArray, List.getElem_cons_succ, List.getElem_cons_zero, Act.put, List.setIfInBounds_toArray, List.set_cons_zero, List.set_cons_succ]
          refine seq_take 3 rfl (by kernel_rfl) (fun _ _ _ h => h) (by rfl) (seq_hi rfl rfl rfl (hLc)) ?_
          try simp only [List.getElem_toArray, List.getElem_cons_succ, List.getElem_cons_zero, Act.put, List.setIfInBounds_toArray, List.set_cons_zero, List.set_cons_succ]
          refine seq_take 4 rfl (by kernel_rfl) (fun _ _ _ h => h) (by rfl) (seq_conv rfl rfl (HAD.out.2.2) (by first | rfl | assumption | (symm; assumption) | simp)) ?_
          try simp only [List.getElem_toArray, List.getElem_cons_succ, List.getElem_cons_zero, Act.put, List.setIfInBounds_toArray, List.set_cons_zero, List.set_cons_succ]
          refine seq_take 5 (v := ?v5_31) rfl (by kernel_rfl) (fun _ _ _ h => h) (by rfl) (fun w' hw' => ?hy5_31) ?_
          case hy5_31 => go_simp; try with_reducible rfl
          try simp only [List.getElem_toArray, List.getElem_cons_succ, List.getElem_cons_zero, Act.put, List.setIfInBounds_toArray, List.set_cons_zero, List.set_cons_succ]
          refine seq_take 6 rfl (by kernel_rfl) (fun _ _ _ h => h) (by rfl) (seq_conv rfl rfl (HAD.out.1) (by first | rfl | assumption | (symm; assumption) | simp)) ?_
          try simp only [List.getElem_toArray, List.getElem_cons_succ, List.getElem_cons_zero, Act.put, List.setIfInBounds_toArray, List.set_cons_zero, List.set_cons_succ]
          refine seq_take 7 (v := ?v7_32) rfl (by kernel_rfl) (fun _ _ _ h => h) (by rfl) (fun w' hw' => ?hy7_32) ?_
          case hy7_32 => go_simp; try with_reducible rfl
          try simp only [List.getElem_toArray, List.getElem_cons_succ, List.getElem_cons_zero, Act.put, List.setIfInBounds_toArray, List.set_cons_zero, List.set_cons_succ]
          refine seq_take 8 (v := ?v8_33) rfl (by kernel_rfl) (fun _ _ _ h => h) (by rfl) (fun w' hw' => ?hy8_33) ?_
          case hy8_33 => go_simp; try with_reducible rfl
          try simp only [List.getElem_toArray, List.getElem_cons_succ, List.getElem_cons_zero, Act.put, List.setIfInBounds_toArray, List.set_cons_zero, List.set_cons_succ]
          refine seq_take 9 (v := ?v9_34) rfl (by kernel_rfl) (fun _ _ _ h => h) (by rfl) (fun w' hw' => ?hy9_34) ?_
          case hy9_34 => go_simp; try with_reducible rfl
          try simp only [List.getElem_toArray, List.getElem_cons_succ, List.getElem_cons_zero, Act.put, List.setIfInBounds_toArray, List.set_cons_zero, List.set_cons_succ]
          refine seq_take 10 rfl (by kernel_rfl) (fun _ _ _ h => h) (by rfl) (seq_conv rfl rfl (HAD.out.2.1) (by first | rfl | assumption | (symm; assumption) | simp)) ?_
          try simp only [List.getElem_toArray, List.getElem_cons_succ, List.getElem_cons_zero, Act.put, List.setIfInBounds_toArray, List.set_cons_zero, List.set_cons_succ]
          refine seq_take 11 (v := ?v11_35) rfl (by kernel_rfl) (fun _ _ _ h => h) (by rfl) (fun w' hw' => ?hy11_35) ?_
          case hy11_35 => go_simp; try with_reducible rfl
          try simp only [List.getElem_toArray, List.getElem_cons_succ, List.getElem_cons_zero, Act.put, List.setIfInBounds_toArray, List.set_cons_zero, List.set_cons_succ]
          refine seq_take 12 rfl (by kernel_rfl) (fun _ _ _ h => h) (by rfl) (seq_conv rfl rfl (HAD.out.1) (by first | rfl | assumption | (symm; assumption) | simp)) ?_
          try simp only [List.getElem_toArray, List.getElem_cons_succ, List.getElem_cons_zero, Act.put, List.setIfInBounds_toArray, List.set_cons_zero, List.set_cons_succ]
          refine seq_take 13 (v := ?v13_36) rfl (by kernel_rfl) (fun _ _ _ h => h) (by rfl) (fun w' hw' => ?hy13_36) ?_
          case hy13_36 => go_simp; try with_reducible rfl
          try simp only [List.getElem_toArray, List.getElem_cons_succ, List.getElem_cons_zero, Act.put, List.setIfInBounds_toArray, List.set_cons_zero, List.set_cons_succ]
          refine seq_take 14 (v := ?v14_37) rfl (by kernel_rfl) (fun _ _ _ h => h) (by rfl) (fun w' hw' => ?hy14_37) ?_
          case hy14_37 => go_simp; try with_reducible rfl
          try simp only [List.getElem_toArray, List.getElem_cons_succ, List.getElem_cons_zero, Act.put, List.setIfInBounds_toArray, List.set_cons_zero, List.set_cons_succ]
          refine seq_take 15 (v := ?v15_38) rfl (by kernel_rfl) (fun _ _ _ h => h) (by rfl) (fun w' hw' => ?hy15_38) ?_
          case hy15_38 => go_simp; try with_reducible rfl
          try simp only [List.getElem_toArray, List.getElem_cons_succ, List.getElem_cons_zero, Act.put, List.setIfInBounds_toArray, List.set_cons_zero, List.set_cons_succ]
          refine seq_done (by kernel_rfl) ?_
          go_wp2_with fail
          go_ret
          exact ⟨by simp, by rw [HG.out]; exact (H3.out.trans (HD.out.mono (by omega))).drew⟩

theorem own : ownKnob Tryd.prog.godebug = none := by kernel_rfl
theorem laidOut : laidOutB Tryd.prog = true := by kernel_rfl
theorem readable : ∀ t ∈ Tryd.f6.params.toList, Tryd.prog.readableRec t = true ∧ t < Tryd.prog.types.size := by
  rw [Tryd.params6]
  intro t ht
  simp at ht
  subst ht
  exact ⟨by kernel_rfl, of_decide_eq_true (by kernel_rfl)⟩

theorem laid_met (os : Os) : laidMet Tryd.prog Rows.crcOpensRow.laid ((laidWorld os).forCall (fun _ _ => 0) ⟨#[], #[.slice none 0 0], []⟩).memory :=
  laidMet_of_run' 8 (by kernel_rfl) (by kernel_rfl)
theorem reads (os : Os) {H : Type} (enc : TypeId × Value → H) : DataW.whole enc Tryd.prog ((laidWorld os).forCall (fun _ _ => 0) ⟨#[], #[.slice none 0 0], []⟩).memory Tryd.f6.params.toList Rows.crcOpensSpec.vars false (#[.slice none 0 0] : Array Value).toList 8 = some ([.nil], [], []) := by kernel_rfl
set_option maxRecDepth 100000 in
theorem lifted (os : Os) (started : os.Started) (H : Type) (enc : TypeId × Value → H) (F : Stop.Interp) :
    ReturnsInHanded {} Tryd.checked os 6 .any ((OpenSpec.ofChange Rows.crcOpensSpec).preRow enc Tryd.prog Tryd.f6 Rows.crcOpensRow.domain false Rows.crcOpensRow.laid) (((OpenSpec.ofChange Rows.crcOpensSpec).at F).post enc Tryd.prog Tryd.f6 false true false false) := by
  have hx := reads os enc
  refine returnsInHanded_of_row (C := Tryd.checked) (s := OpenSpec.ofChange Rows.crcOpensSpec) own started (by kernel_rfl) Tryd.func6
    (witness_row_at (enc := enc) (C := Tryd.checked) false (laidWorld os) #[.slice none 0 0] rfl (by kernel_rfl) (by kernel_rfl) (by kernel_rfl)
      (OpenSpec.preRow_of_cond 8 hx (by kernel_rfl) (fun k hk => by cases hk) (by kernel_rfl) (laid_met os))) ?_
  intro W base args ds gs before hval0 hW _ _ _ hL _ _
  have ht : Tab W := table_of hL
  have hval : ∀ (j : Nat) t v, Tryd.f6.params[j]? = some t → args[j]? = some v → Value.okWide Tryd.prog W .any base t v := hval0
  have hW' := hW
  obtain ⟨p, q, hA0, hV, rfl, hfz, hnd⟩ := hW
  have hA : DataW.TrodAll enc Tryd.prog W 0 (fun _ => true) true Tryd.f6.params.toList args.toList ds p := hA0
  rw [Tryd.params6] at hA hval
  obtain ⟨v0, d0, rfl, rfl, h0⟩ := trodAll_one hA
  obtain ⟨rfl, rfl⟩ := trodVars_none hV
  obtain ⟨ao, cap, l, rfl, hc, hm, hat⟩ := open_bytes Tryd.underlying22 Tryd.underlying5 cellsU8 (hval 0 22 v0 rfl rfl) h0
  refine (walk ao l cap hc hm W hat ht).mono fun e W' ⟨he, hb⟩ => ?_
  subst he
  exact ⟨_, rfl, post_law laidOut rfl rfl Tryd.underlying4 readable rfl rfl rfl hW' hb⟩

theorem said : Rows.CrcOpensSaid :=
  OpenClaim.holds_of_cond 6 Tryd.f6 rfl rfl rfl rfl rfl rfl rfl ⟨rfl, rfl, rfl, rfl, rfl⟩ rfl rfl rfl rfl rfl (by kernel_rfl) Tryd.func6 (by kernel_rfl)
    (of_decide_eq_true (by kernel_rfl)) (by unfold Func.isWrapper; first | (rw [if_pos (by decide +kernel)]; kernel_rfl) | (rw [if_neg (by decide +kernel)]; exact ⟨rfl, rfl⟩))
    (fun os started H enc _ F => by rw [OpenClaim.pre_eq_preRow]; exact lifted os started H enc F)

/-- No parameter wants a stand-in; the program's own looks are off. -/
theorem plain (f : FuncId) (fn : Func) (hf : Tryd.pinned.checked.prog.funcNamed "scriptor/scriptorlaw02.CrcOpens" = some f) (hfn : Tryd.pinned.checked.prog.funcs[f]? = some fn) :
    false = Tryd.pinned.checked.prog.looks [] ∧ ∀ (j : Nat) t, fn.params[j]? = some t → Tryd.pinned.checked.prog.wantsStandIn t = false := by
  obtain rfl : f = 6 := Option.some.inj ((show Tryd.prog.funcNamed "scriptor/scriptorlaw02.CrcOpens" = some 6 by kernel_rfl).symm.trans hf) |>.symm
  obtain rfl : fn = Tryd.f6 := (Option.some.inj (Tryd.func6.symm.trans hfn)).symm
  refine ⟨by kernel_rfl, fun j t ht => ?_⟩
  have hall : ∀ t ∈ Tryd.f6.params.toList, Tryd.prog.wantsStandIn t = false := by
    rw [Tryd.params6]
    intro t ht
    simp at ht
    subst ht
    kernel_rfl
  exact hall t (Array.mem_toList_iff.2 (Array.mem_of_getElem? ht))

theorem card : Rows.CrcOpensCardSaid :=
  Claim7.holds_tied_plain_at .later [] _ _ _ _ said (fun _ h => by cases h) (by kernel_rfl) (fun _ h => by cases h) crcOpens_row_tie rfl ⟨rfl, rfl⟩ (by kernel_rfl) rfl plain (by kernel_rfl)
end Go.Proofs.YtmnaomdnjaiggaaDoor.crcOpens
