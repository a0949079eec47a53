/- THE LAW WireBack: what is written is read; a beginning of it ends too soon. -/
import Derived.Test.YtmnaomdnjaiggaaRows
import Derived.Test.YtmnaomdnjaiggaaIn2
import Derived.Test.YtmnaomdnjaiggaaBackP
import Derived.Test.YtmnaomdnjaiggaaOps2
import Derived.Test.YtmnaomdnjaiggaaLaw
import Derived.ChangeMaps5
namespace Go.Proofs.Ytmnaomdnjaiggaa.wireBack
open Go.ChangeShapes Go.WideShapes Go.ChangeAt Go.RowKit Go.ChangeMaps

theorem own : ownKnob Try.prog.godebug = none := by kernel_rfl
theorem laidOut : laidOutB Try.prog = true := by kernel_rfl
theorem readable : ∀ t ∈ Try.f6.params.toList, Try.prog.readableRec t = true ∧ t < Try.prog.types.size := by
  rw [Try.params6]
  intro t ht
  simp at ht
  rcases ht with rfl | rfl | rfl
  · exact ⟨by kernel_rfl, of_decide_eq_true (by kernel_rfl)⟩
  · exact ⟨by kernel_rfl, of_decide_eq_true (by kernel_rfl)⟩
  · exact ⟨by kernel_rfl, of_decide_eq_true (by kernel_rfl)⟩

theorem str_list (u : List UInt8) (hu : u.length ≤ 1099511627776) (w : World) : Calls Try.prog 11 #[.string ⟨u.toArray⟩] w (NewBytes w (strB u)) := by
  have hs : (ByteArray.mk u.toArray).size = u.length := by rw [ByteArray.size]; simp
  have := str_any ⟨u.toArray⟩ (by rw [hs]; exact hu) w
  rw [hs] at this
  exact this
theorem take_snoc' {α : Type} (l : List α) (k : Nat) (h : k < l.length) : l.take (k + 1) = l.take k ++ [l[k]] := List.take_succ_eq_append_getElem h

set_option maxRecDepth 100000 in
set_option maxHeartbeats 2000000 in
theorem walk (ao to : Option Addr) (l : List Int) (ts : List (List UInt8)) (cap tcap : Nat) (hc : l.length ≤ cap) (htc : ts.length ≤ tcap) (c : Int)
    (hz : ∀ z ∈ l, -9223372036854775808 ≤ z ∧ z ≤ 9223372036854775807) (hts : ∀ t ∈ ts, t.length ≤ 9223372036854775807) (w : World) (hat : At w ao (l.map (Value.int .i64))) (htt : At w to (ts.map strV)) :
    Calls Try.prog 6 #[.slice ao l.length cap, .slice to ts.length tcap, .int .i64 c] w (Says w (.bool true)) := by
  have hmin : min (l.length : Int) 30 = ((l.take 30).length : Int) := by simp; omega
  have hmint : min (ts.length : Int) 30 = ((ts.take 30).length : Int) := by simp; omega
  have hN : (l.take 30).length ≤ 30 := by simp; omega
  have hT : (ts.take 30).length ≤ 30 := by simp; omega
  have hNc : (l.take 30).length ≤ cap := by simp; omega
  have hTc : (ts.take 30).length ≤ tcap := by simp; omega
  have hat' : At w ao ((l.take 30).map (Value.int .i64)) := by rw [List.map_take]; exact hat.take 30
  have htt' : At w to ((ts.take 30).map strV) := by rw [List.map_take]; exact htt.take 30
  have hz' : ∀ z ∈ l.take 30, -9223372036854775808 ≤ z ∧ z ≤ 9223372036854775807 := fun z h => hz z (List.mem_of_mem_take h)
  have hts' : ∀ t ∈ ts.take 30, t.length ≤ 9223372036854775807 := fun z h => hts z (List.mem_of_mem_take h)
  have HMIN := Lib.hid (And.intro hmin hmint)
  have HAT := Lib.hid (And.intro hat' htt')
  have HZ := Lib.hid (And.intro hz' hts')
  clear hat htt hmin hmint hat' htt' hz hts hz' hts'
  generalize l.take 30 = N at *
  generalize ts.take 30 = T at *
  have hTT : ∀ t ∈ T.map (fun t => t.take 200), t.length ≤ 200 := by
    intro t ht
    obtain ⟨u, _, rfl⟩ := List.mem_map.1 ht
    simp; omega
  have HTT := Lib.hid hTT
  clear hTT
  go_enter Try.func6, Try.ntmps6
  go_wp2_with fail
  refine seq_start (by kernel_rfl) ?_
  refine seq_take 0 (v := ?v0_1) rfl (by kernel_rfl) (fun _ _ _ h => h) (by rfl) (fun w' hw' => ?hy0_1) ?_
  case hy0_1 => go_simp; try with_reducible rfl
  try simp only [List.getElem_toArray, List.getElem_cons_succ, List.getElem_cons_zero, Act.put, List.setIfInBounds_toArray, List.set_cons_zero, List.set_cons_succ]
  refine seq_take 1 (v := ?v1_2) rfl (by kernel_rfl) (fun _ _ _ h => h) (by rfl) (fun w' hw' => ?hy1_2) ?_
  case hy1_2 => go_simp; try with_reducible rfl
  try simp only [List.getElem_toArray, List.getElem_cons_succ, List.getElem_cons_zero, Act.put, List.setIfInBounds_toArray, List.set_cons_zero, List.set_cons_succ]
  refine seq_take 2 (v := ?v2_3) rfl (by kernel_rfl) (fun _ _ _ h => h) (by rfl) (fun w' hw' => ?hy2_3) ?_
  case hy2_3 => go_simp; try with_reducible rfl
  try simp only [List.getElem_toArray, List.getElem_cons_succ, List.getElem_cons_zero, Act.put, List.setIfInBounds_toArray, List.set_cons_zero, List.set_cons_succ]
  refine seq_take 3 rfl (by kernel_rfl) (fun _ _ _ h => h) (by rfl) (yields_min2 rfl rfl rfl (HMIN.out.1)) ?_
  try simp only [List.getElem_toArray, List.getElem_cons_succ, List.getElem_cons_zero, Act.put, List.setIfInBounds_toArray, List.set_cons_zero, List.set_cons_succ]
  refine seq_take 4 rfl (by kernel_rfl) (fun _ _ _ h => h) (by rfl) (yields_slice_hi rfl (by kernel_rfl) (by kernel_rfl) rfl rfl (hNc)) ?_
  try simp only [List.getElem_toArray, List.getElem_cons_succ, List.getElem_cons_zero, Act.put, List.setIfInBounds_toArray, List.set_cons_zero, List.set_cons_succ]
  refine seq_take 5 (v := ?v5_4) rfl (by kernel_rfl) (fun _ _ _ h => h) (by rfl) (fun w' hw' => ?hy5_4) ?_
  case hy5_4 => go_simp; try with_reducible rfl
  try simp only [List.getElem_toArray, List.getElem_cons_succ, List.getElem_cons_zero, Act.put, List.setIfInBounds_toArray, List.set_cons_zero, List.set_cons_succ]
  refine seq_take 6 (v := ?v6_5) rfl (by kernel_rfl) (fun _ _ _ h => h) (by rfl) (fun w' hw' => ?hy6_5) ?_
  case hy6_5 => go_simp; try with_reducible rfl
  try simp only [List.getElem_toArray, List.getElem_cons_succ, List.getElem_cons_zero, Act.put, List.setIfInBounds_toArray, List.set_cons_zero, List.set_cons_succ]
  refine seq_take 7 (v := ?v7_6) rfl (by kernel_rfl) (fun _ _ _ h => h) (by rfl) (fun w' hw' => ?hy7_6) ?_
  case hy7_6 => go_simp; try with_reducible rfl
  try simp only [List.getElem_toArray, List.getElem_cons_succ, List.getElem_cons_zero, Act.put, List.setIfInBounds_toArray, List.set_cons_zero, List.set_cons_succ]
  refine seq_take 8 rfl (by kernel_rfl) (fun _ _ _ h => h) (by rfl) (yields_min2 rfl rfl rfl (HMIN.out.2)) ?_
  try simp only [List.getElem_toArray, List.getElem_cons_succ, List.getElem_cons_zero, Act.put, List.setIfInBounds_toArray, List.set_cons_zero, List.set_cons_succ]
  refine seq_take 9 rfl (by kernel_rfl) (fun _ _ _ h => h) (by rfl) (yields_slice_hi rfl (by kernel_rfl) (by kernel_rfl) rfl rfl (hTc)) ?_
  try simp only [List.getElem_toArray, List.getElem_cons_succ, List.getElem_cons_zero, Act.put, List.setIfInBounds_toArray, List.set_cons_zero, List.set_cons_succ]
  refine seq_take 10 (v := ?v10_7) rfl (by kernel_rfl) (fun _ _ _ h => h) (by rfl) (fun w' hw' => ?hy10_7) ?_
  case hy10_7 => go_simp; try with_reducible rfl
  try simp only [List.getElem_toArray, List.getElem_cons_succ, List.getElem_cons_zero, Act.put, List.setIfInBounds_toArray, List.set_cons_zero, List.set_cons_succ]
  refine seq_take 11 (v := ?v11_8) rfl (by kernel_rfl) (fun _ _ _ h => h) (by rfl) (fun w' hw' => ?hy11_8) ?_
  case hy11_8 => go_simp; try with_reducible rfl
  try simp only [List.getElem_toArray, List.getElem_cons_succ, List.getElem_cons_zero, Act.put, List.setIfInBounds_toArray, List.set_cons_zero, List.set_cons_succ]
  refine seq_done (by kernel_rfl) ?_
  go_wp2_with fail
  go_loopw [7, 8] (fun v j wr => ∃ (i : Nat) (X : List UInt8) (bo : Option Addr) (bc : Nat), i ≤ N.length ∧ j = .int .i64 (i : Int) ∧ X = numsB (N.take i) ∧ v = .slice bo X.length bc ∧ wr.ownsRow w.heap.size 5 1 (.slice bo X.length bc) X.length (bytesV X) ∧ Below w.heap.size w wr) (fun _ j _ => N.length - (intOf j).toNat)
  case atStart => exact ⟨0, [], none, 0, by omega, rfl, rfl, rfl, World.ownsRow_nil _ _ _ _, (Below.refl _ _).drew⟩
  case round =>
    obtain ⟨i, X, bo, bc, hi, rfl, hX, rfl, hown, hbel⟩ := hrel
    have hXl : X.length ≤ 300 := by
      rw [hX]
      have := numsB_len (N.take i) (fun z h => HZ.out.1 z (List.mem_of_mem_take h))
      simp at this ⊢; omega
    have hsz := hbel.size
    have H := Lib.hid (And.intro hX (And.intro hown hbel))
    clear hX hown hbel
    by_cases hlt : i < N.length
    · obtain ⟨b, o, rfl, hcell⟩ := At.exv (HAT.out.1.below H.out.2.2) i (by simpa using hlt)
      rw [List.getElem_map] at hcell
      have hr := HZ.out.1 N[i] (List.getElem_mem hlt)
      have hel := enc_len N[i] hr.1 hr.2
      have HR := Lib.hid hr
      have HS := Lib.hid (show X ++ Go.Proofs.Ytmnaomdnjaiggaa.enc N[i] = numsB (N.take (i + 1)) by rw [take_snoc' _ _ hlt, numsB_snoc, H.out.1])
      clear hr
      go_wp2_with fail
      refine (num_any N[i] HR.out.1 HR.out.2 wr).mono ?_
      rintro e w1 ⟨eo, ec, rfl, hown1, hb1⟩
      have hsz1 := hb1.size
      have H1 := Lib.hid (And.intro (owns_below H.out.2.1 hb1) (And.intro (At.own hown1) (H.out.2.2.trans (hb1.mono hsz))))
      clear hown1 hb1 hcell
      go_wp2_with (at_builtin; refine app_bytes rfl _ _ rfl w.heap.size bo bc X _ rfl H1.out.1 eo _ ec _ rfl H1.out.2.1 rfl (by omega) (by omega) ?_; rintro co capc w2 ⟨q1, q2, q3⟩)
      go_roundw
      case rel => exact ⟨i + 1, X ++ Go.Proofs.Ytmnaomdnjaiggaa.enc N[i], co, capc, by omega, by simp, HS.out, by simp, q1, H1.out.2.2.trans (below_grown H1.out.1 (by omega) q2)⟩
      case measure => simp [intOf]; omega
    · obtain rfl : i = N.length := by omega
      have hX := H.out.1
      rw [List.take_of_length_le (Nat.le_refl _)] at hX
      have HX := Lib.hid hX
      clear hX
      go_wp2_with fail
      go_loopw [7, 9] (fun v j wr => ∃ (i : Nat) (Y : List UInt8) (bo : Option Addr) (bc : Nat), i ≤ T.length ∧ j = .int .i64 (i : Int) ∧ Y = X ++ strsB ((T.map (fun t => t.take 200)).take i) ∧ v = .slice bo Y.length bc ∧ wr.ownsRow w.heap.size 5 1 (.slice bo Y.length bc) Y.length (bytesV Y) ∧ Below w.heap.size w wr) (fun _ j _ => T.length - (intOf j).toNat)
      case atStart => exact ⟨0, X, bo, bc, by omega, rfl, by simp [strsB], rfl, H.out.2.1, H.out.2.2⟩
      case round =>
        obtain ⟨i, Y, bo, bc, hi, rfl, hY, rfl, hown, hbel⟩ := hrel
        have hYl : Y.length ≤ 6600 := by
          rw [hY, List.length_append]
          have := strsB_len ((T.map (fun t => t.take 200)).take i) (fun z h => HTT.out z (List.mem_of_mem_take h))
          simp only [List.length_take, List.length_map] at this
          omega
        have hsz := hbel.size
        have H := Lib.hid (And.intro hY (And.intro hown hbel))
        clear hY hown hbel
        by_cases hlt : i < T.length
        · obtain ⟨b, o, rfl, hcell⟩ := At.exv (HAT.out.2.below H.out.2.2) i (by simpa using hlt)
          rw [List.getElem_map, strV] at hcell
          have htl := HZ.out.2 T[i] (List.getElem_mem hlt)
          have hS : Y ++ strB (T[i].take 200) = X ++ strsB ((T.map (fun t => t.take 200)).take (i + 1)) := by
            rw [take_snoc' (T.map (fun t => t.take 200)) i (by simpa using hlt), strsB_snoc, H.out.1, List.append_assoc, List.getElem_map]
          generalize T[i] = t at *
          have HS := Lib.hid hS
          have hsz8 : (ByteArray.mk t.toArray).size = t.length := by rw [ByteArray.size]; simp
          obtain ⟨m, hm⟩ : ∃ m, min t.length 200 = m := ⟨_, rfl⟩
          have hmt : m ≤ t.length := by omega
          have hm2 : m ≤ 200 := by omega
          have hmin : min (t.length : Int) 200 = (m : Int) := by omega
          have htk : t.take m = t.take 200 := by rw [← hm, List.take_eq_take_iff]; omega
          have hul : (t.take m).length = m := by rw [List.length_take]; omega
          have HU := Lib.hid (And.intro htk (And.intro hul hmin))
          have HC := Lib.hid hcell
          clear hS htk hul hmin hm hcell
          go_wp2_with fail
          refine seql_start [13] (by kernel_rfl) ?_
          refine seql_take 0 (v := ?v0_9) rfl (by kernel_rfl) (fun _ _ _ h => h) (by rfl) (fun w' hw' => ?hy0_9) ?_
          case hy0_9 => go_simp; try with_reducible rfl
          try simp only [List.getElem_toArray, List.getElem_cons_succ, List.getElem_cons_zero, Act.put, List.setIfInBounds_toArray, List.set_cons_zero, List.set_cons_succ]
          refine seql_take 1 (v := ?v1_10) rfl (by kernel_rfl) (fun _ _ _ h => h) (by rfl) (fun w' hw' => ?hy1_10) ?_
          case hy1_10 => go_simp; try with_reducible rfl
          try simp only [List.getElem_toArray, List.getElem_cons_succ, List.getElem_cons_zero, Act.put, List.setIfInBounds_toArray, List.set_cons_zero, List.set_cons_succ]
          refine seql_take 2 (v := ?v2_11) rfl (by kernel_rfl) (fun _ _ _ h => h) (by rfl) (fun w' hw' => ?hy2_11) ?_
          case hy2_11 => go_simp; try with_reducible rfl
          try simp only [List.getElem_toArray, List.getElem_cons_succ, List.getElem_cons_zero, Act.put, List.setIfInBounds_toArray, List.set_cons_zero, List.set_cons_succ]
          refine seql_take 3 (v := ?v3_12) rfl (by kernel_rfl) (fun _ _ _ h => h) (by rfl) (fun w' hw' => ?hy3_12) ?_
          case hy3_12 => go_simp; try with_reducible rfl
          try simp only [List.getElem_toArray, List.getElem_cons_succ, List.getElem_cons_zero, Act.put, List.setIfInBounds_toArray, List.set_cons_zero, List.set_cons_succ]
          refine seql_take 4 rfl (by kernel_rfl) (fun _ _ _ h => h) (by rfl) (seq_lds rfl rfl (HC.out)) ?_
          try simp only [List.getElem_toArray, List.getElem_cons_succ, List.getElem_cons_zero, Act.put, List.setIfInBounds_toArray, List.set_cons_zero, List.set_cons_succ]
          refine seql_take 5 (v := ?v5_13) rfl (by kernel_rfl) (fun _ _ _ h => h) (by rfl) (fun w' hw' => ?hy5_13) ?_
          case hy5_13 => go_simp; try with_reducible rfl
          try simp only [List.getElem_toArray, List.getElem_cons_succ, List.getElem_cons_zero, Act.put, List.setIfInBounds_toArray, List.set_cons_zero, List.set_cons_succ]
          refine seql_take 6 (v := ?v6_14) rfl (by kernel_rfl) (fun _ _ _ h => h) (by rfl) (fun w' hw' => ?hy6_14) ?_
          case hy6_14 => go_simp; try with_reducible rfl
          try simp only [List.getElem_toArray, List.getElem_cons_succ, List.getElem_cons_zero, Act.put, List.setIfInBounds_toArray, List.set_cons_zero, List.set_cons_succ]
          refine seql_take 7 (v := ?v7_15) rfl (by kernel_rfl) (fun _ _ _ h => h) (by rfl) (fun w' hw' => ?hy7_15) ?_
          case hy7_15 => go_simp; try with_reducible rfl
          try simp only [List.getElem_toArray, List.getElem_cons_succ, List.getElem_cons_zero, Act.put, List.setIfInBounds_toArray, List.set_cons_zero, List.set_cons_succ]
          refine seql_take 8 rfl (by kernel_rfl) (fun _ _ _ h => h) (by rfl) (seq_lds rfl rfl (HC.out)) ?_
          try simp only [List.getElem_toArray, List.getElem_cons_succ, List.getElem_cons_zero, Act.put, List.setIfInBounds_toArray, List.set_cons_zero, List.set_cons_succ]
          refine seql_take 9 (v := ?v9_16) rfl (by kernel_rfl) (fun _ _ _ h => h) (by rfl) (fun w' hw' => ?hy9_16) ?_
          case hy9_16 => go_simp; try with_reducible rfl
          try simp only [List.getElem_toArray, List.getElem_cons_succ, List.getElem_cons_zero, Act.put, List.setIfInBounds_toArray, List.set_cons_zero, List.set_cons_succ]
          refine seql_take 10 rfl (by kernel_rfl) (fun _ _ _ h => h) (by rfl) (yields_min2 rfl rfl rfl (HU.out.2.2)) ?_
          try simp only [List.getElem_toArray, List.getElem_cons_succ, List.getElem_cons_zero, Act.put, List.setIfInBounds_toArray, List.set_cons_zero, List.set_cons_succ]
          refine seql_take 11 rfl (by kernel_rfl) (fun _ _ _ h => h) (by rfl) (yields_str_hi (by kernel_rfl) rfl rfl rfl (hmt)) ?_
          try simp only [List.getElem_toArray, List.getElem_cons_succ, List.getElem_cons_zero, Act.put, List.setIfInBounds_toArray, List.set_cons_zero, List.set_cons_succ]
          refine seql_run 12 rfl (by kernel_rfl) (by rfl) (fun KK hKK => ?_)
          go_wp2_with fail
          refine (str_list (t.take m) (by rw [HU.out.2.1]; omega) _).mono ?_
          rintro e w1 ⟨eo, ec, rfl, hown1, hb1⟩
          have hsz1 := hb1.size
          have hb1' := below_drew hb1
          simp only [World.size_drew] at hsz1
          have H1 := Lib.hid (And.intro (owns_below H.out.2.1 hb1') (And.intro (At.own hown1) (H.out.2.2.trans (hb1'.mono hsz))))
          have HB := Lib.hid hb1
          have hsl := strB_len (t.take m) (by rw [HU.out.2.1]; exact hm2)
          have HE := Lib.hid HU.out.1
          clear hown1 hb1 hb1'
          go_wp2_with fail
          refine ⟨HB.out, ?_⟩
          refine seql_last 13 rfl (by kernel_rfl) (by kernel_rfl) (by rfl) (fun KK hKK => ?_)
          refine wp_bytes _ _ rfl w.heap.size bo bc Y _ rfl H1.out.1 eo _ ec (strB (t.take m)) rfl H1.out.2.1 rfl (by omega) (by omega) ?_
          rintro co capc w2 ⟨q1, q2, q3⟩
          go_wp2_with fail
          refine seql_more 14 rfl (by kernel_rfl) (by kernel_rfl) (by rfl) (fun KK hKK => ?_)
          go_wp2_with fail
          refine seql_done (by kernel_rfl) ?_
          go_wp2_with fail
          go_roundw
          case rel =>
            refine ⟨i + 1, Y ++ strB (t.take m), co, capc, by omega, by simp, by rw [HE.out]; exact HS.out, by simp, q1, H1.out.2.2.trans (below_grown H1.out.1 (by omega) q2)⟩
          case measure => simp [intOf]; omega
        · obtain rfl : i = T.length := by omega
          have hY := H.out.1
          rw [List.take_of_length_le (by simp), HX.out] at hY
          have HY := Lib.hid hY
          clear hY
          have hbc : Y.length ≤ bc := by
            obtain ⟨_, _, e, h⟩ := owns_form H.out.2.1
            cases e; exact h
          generalize hTM : T.map (fun t => t.take 200) = TT at *
          have HTM := Lib.hid hTM
          clear hTM
          go_wp2_with fail
          refine (wires_any wr).mono ?_
          rintro e w1 ⟨rfl, hb1⟩
          have hsz1 := hb1.size
          have H1 := Lib.hid (And.intro ((At.own H.out.2.1).below hb1) (H.out.2.2.trans (hb1.mono hsz)))
          clear hb1
          by_cases hl0 : Y.length = 0
          · have hl0' : ((Y.length : Int) == 0) = true := by simp [hl0]
            have HL0 := Lib.hid hl0
            clear hl0
            go_wp2_with fail
            refine (wires_any w1).mono ?_
            rintro e w2 ⟨rfl, hb2⟩
            go_wp2
            go_ret
            exact ⟨rfl, H1.out.2.trans (hb2.mono (by omega))⟩
          have hl0' : ((Y.length : Int) == 0) = false := by simp; intro h; exact hl0 (by simp [h])
          obtain ⟨k, hk, hke⟩ := cutmod0 c Y.length (by omega) (by omega)
          go_wp2_with fail
          rw [hke]
          clear hke
          go_loopw [11] (fun j wr => ∃ (r : Nat), r ≤ 2 ∧ j = .int .i64 (r : Int) ∧ Below w.heap.size w wr ∧ At wr bo (bytesV Y)) (fun j _ => 2 - (intOf j).toNat)
          case atStart => exact ⟨0, by omega, rfl, H1.out.2, H1.out.1⟩
          case round =>
            obtain ⟨r, hr, rfl, hbel, hatY⟩ := hrel
            have hszr := hbel.size
            have HW := Lib.hid (And.intro hbel hatY)
            clear hbel hatY
            have hr3 : r = 0 ∨ r = 1 ∨ r = 2 := by omega
            rcases hr3 with rfl | rfl | rfl
            case inr.inr =>
              go_wp2_with fail
              go_ret
              exact ⟨rfl, HW.out.1⟩
            case' inl =>
              go_wp2_with fail
              refine (open_any bo Y bc (by omega) wr HW.out.2).mono ?_
              rintro x w2 ⟨g, rfl, hg, hin, hb2⟩
              have HR := Lib.hid (And.intro (show Rd true Y (Y, 0) from rd_start true Y k hk) (And.intro (show InAt w2 g (Y, 0) from hin) hb2))
              generalize ((Y, 0) : St) = s0 at HR
              have hsz2 := hb2.size
              obtain ⟨whole, hwh⟩ : ∃ b : Bool, b = true := ⟨_, rfl⟩
              have HWH := Lib.hid hwh
              rw [← hwh] at HR
              clear hin hb2 hwh
              go_wp2_with fail
            case' inr.inl =>
              go_wp2_with fail
              refine (open_any bo Y bc (by omega) wr HW.out.2).mono ?_
              rintro x w0 ⟨g0, rfl, hg0, hin0, hb0⟩
              have hsz0 := hb0.size
              have HB0 := Lib.hid hb0
              have hYk : (Y.take k).length = k := by rw [List.length_take]; omega
              have hat0 : At w0 bo (bytesV (Y.take k)) := (HW.out.2.below hb0).takeB k
              have hop := open_any bo (Y.take k) bc (by rw [hYk]; omega) w0 hat0
              rw [hYk] at hop
              have HOP := Lib.hid hop
              clear hin0 hb0 hYk hat0 hop
              go_wp2_with fail
              refine HOP.out.mono ?_
              rintro x w2 ⟨g, rfl, hg1, hin, hb2⟩
              have hg : wr.heap.size ≤ g := by omega
              have HR := Lib.hid (And.intro (show Rd false Y (Y.take k, 0) from rd_start false Y k hk) (And.intro (show InAt w2 g (Y.take k, 0) from hin) (HB0.out.trans (hb2.mono hsz0))))
              generalize ((Y.take k, 0) : St) = s0 at HR
              have hsz2 : wr.heap.size ≤ w2.heap.size := by have := hb2.size; omega
              obtain ⟨whole, hwh⟩ : ∃ b : Bool, b = false := ⟨_, rfl⟩
              have HWH := Lib.hid hwh
              rw [← hwh] at HR
              clear hin hb2 hwh
              go_wp2_with fail
            all_goals
              obtain ⟨wo, rfl⟩ : ∃ wo : World, wo = wr := ⟨_, rfl⟩
              go_loopw [13] (fun j wi => ∃ (i : Nat) (s : St), i ≤ N.length ∧ j = .int .i64 (i : Int) ∧ Rd whole (numsB (N.drop i) ++ strsB TT) s ∧ InAt wi g s ∧ Below wo.heap.size wo wi) (fun j _ => N.length - (intOf j).toNat)
              case atStart => exact ⟨0, s0, by omega, rfl, by rw [List.drop_zero, ← HY.out]; exact HR.out.1, HR.out.2.1, HR.out.2.2⟩
              case round =>
                obtain ⟨i, s, hi, rfl, hrd, hin, hbel⟩ := hrel
                have hszi := hbel.size
                by_cases hlt : i < N.length
                · rw [List.drop_eq_getElem_cons hlt, numsB_cons, List.append_assoc] at hrd
                  have hr := HZ.out.1 N[i] (List.getElem_mem hlt)
                  have HRD := Lib.hid (rd_num hrd hr.1 hr.2)
                  have HI := Lib.hid (And.intro hin hbel)
                  clear hrd hin hbel hr
                  go_wp2_with fail
                  refine (inum_any g s _ _ _ HI.out.1).mono ?_
                  rintro x w3 ⟨rfl, hin3, hgr⟩
                  have hb3 : Below wo.heap.size wo w3 := HI.out.2.grown hgr hszi (fun k hk => by cases hk; exact hg)
                  have HI3 := Lib.hid (And.intro hin3 hb3)
                  obtain ⟨b, o, rfl, hcell⟩ := At.exv (HAT.out.1.below (HW.out.1.trans (hb3.mono hszr))) i (by simpa using hlt)
                  rw [List.getElem_map] at hcell
                  generalize numR (-9223372036854775808) 9223372036854775807 s = R at *
                  obtain ⟨z, s'⟩ := R
                  have HRD2 := Lib.hid (show Rd whole (numsB (N.drop (i + 1)) ++ strsB TT) s' ∧ (whole = true → z = N[i]) from HRD.out)
                  clear hin3 hb3 hgr HRD
                  first
                    | (have hzz : z = N[i] := HRD2.out.2 HWH.out; subst hzz)
                    | skip
                  go_wp2_with fail
                  go_roundw
                  case rel => exact ⟨i + 1, s', by omega, by simp, HRD2.out.1, HI3.out.1, HI3.out.2⟩
                  case measure => simp [intOf]; omega
                · obtain rfl : i = N.length := by omega
                  rw [List.drop_length] at hrd
                  have hrd' : Rd whole (strsB TT) s := hrd
                  have HRD := Lib.hid (And.intro hrd' (And.intro hin hbel))
                  clear hrd hrd' hin hbel
                  go_wp2_with fail
                  go_loopw [15] (fun j wi => ∃ (i : Nat) (s : St), i ≤ T.length ∧ j = .int .i64 (i : Int) ∧ Rd whole (strsB (TT.drop i)) s ∧ InAt wi g s ∧ Below wo.heap.size wo wi) (fun j _ => T.length - (intOf j).toNat)
                  case atStart => exact ⟨0, s, by omega, rfl, HRD.out.1, HRD.out.2.1, HRD.out.2.2⟩
                  case round =>
                    obtain ⟨i, s, hi, rfl, hrd, hin, hbel⟩ := hrel
                    have hszi := hbel.size
                    have hTL : TT.length = T.length := by rw [← HTM.out, List.length_map]
                    by_cases hlt : i < T.length
                    · have hTi : TT[i]'(by omega) = T[i].take 200 := by simp only [← HTM.out, List.getElem_map]
                      rw [List.drop_eq_getElem_cons (by omega), strsB_cons, hTi] at hrd
                      have HRD := Lib.hid (rd_str hrd (by simp; omega))
                      have HI := Lib.hid (And.intro hin hbel)
                      clear hrd hin hbel hTi hTL
                      go_wp2_with fail
                      refine (istr_any g s 200 _ HI.out.1).mono ?_
                      rintro x w3 ⟨rfl, hin3, hgr⟩
                      have hb3 : Below wo.heap.size wo w3 := HI.out.2.grown hgr hszi (fun k hk => by cases hk; exact hg)
                      have HI3 := Lib.hid (And.intro hin3 hb3)
                      obtain ⟨b, o, rfl, hcell⟩ := At.exv (HAT.out.2.below (HW.out.1.trans (hb3.mono hszr))) i (by simpa using hlt)
                      rw [List.getElem_map, strV] at hcell
                      generalize strR 200 s = R at *
                      obtain ⟨z, s'⟩ := R
                      have HRD2 := Lib.hid (show Rd whole (strsB (TT.drop (i + 1))) s' ∧ (whole = true → z = T[i].take 200) from HRD.out)
                      have htl := HZ.out.2 T[i] (List.getElem_mem hlt)
                      clear hin3 hb3 hgr HRD
                      generalize T[i] = t at *
                      obtain ⟨m, hm⟩ : ∃ m, min t.length 200 = m := ⟨_, rfl⟩
                      have hmt : m ≤ t.length := by omega
                      have hm2 : m ≤ 200 := by omega
                      have hmin : min (t.length : Int) 200 = (m : Int) := by omega
                      have htk : t.take m = t.take 200 := by rw [← hm, List.take_eq_take_iff]; omega
                      have hsz8 : (ByteArray.mk t.toArray).size = t.length := by rw [ByteArray.size]; simp
                      have HU := Lib.hid (And.intro htk hmin)
                      have HC := Lib.hid hcell
                      clear htk hmin hm hcell
                      first
                        | have hwt : whole = true := HWH.out
                          have hzz : z = t.take m := by rw [HU.out.1]; exact HRD2.out.2 hwt
                          subst hzz
                          clear hwt
                          go_wp2_with fail
                          refine seq_start (by kernel_rfl) ?_
                          refine seq_take 0 (v := ?v0_17) rfl (by kernel_rfl) (fun _ _ _ h => h) (by rfl) (fun w' hw' => ?hy0_17) ?_
                          case hy0_17 => go_simp; try with_reducible rfl
                          try simp only [List.getElem_toArray, List.getElem_cons_succ, List.getElem_cons_zero, Act.put, List.setIfInBounds_toArray, List.set_cons_zero, List.set_cons_succ]
                          refine seq_take 1 (v := ?v1_18) rfl (by kernel_rfl) (fun _ _ _ h => h) (by rfl) (fun w' hw' => ?hy1_18) ?_
                          case hy1_18 => go_simp; try with_reducible rfl
                          try simp only [List.getElem_toArray, List.getElem_cons_succ, List.getElem_cons_zero, Act.put, List.setIfInBounds_toArray, List.set_cons_zero, List.set_cons_succ]
                          refine seq_take 2 (v := ?v2_19) rfl (by kernel_rfl) (fun _ _ _ h => h) (by rfl) (fun w' hw' => ?hy2_19) ?_
                          case hy2_19 => go_simp; try with_reducible rfl
                          try simp only [List.getElem_toArray, List.getElem_cons_succ, List.getElem_cons_zero, Act.put, List.setIfInBounds_toArray, List.set_cons_zero, List.set_cons_succ]
                          refine seq_take 3 (v := ?v3_20) rfl (by kernel_rfl) (fun _ _ _ h => h) (by rfl) (fun w' hw' => ?hy3_20) ?_
                          case hy3_20 => go_simp; try with_reducible rfl
                          try simp only [List.getElem_toArray, List.getElem_cons_succ, List.getElem_cons_zero, Act.put, List.setIfInBounds_toArray, List.set_cons_zero, List.set_cons_succ]
                          refine seq_take 4 (v := ?v4_21) rfl (by kernel_rfl) (fun _ _ _ h => h) (by rfl) (fun w' hw' => ?hy4_21) ?_
                          case hy4_21 => go_simp; try with_reducible rfl
                          try simp only [List.getElem_toArray, List.getElem_cons_succ, List.getElem_cons_zero, Act.put, List.setIfInBounds_toArray, List.set_cons_zero, List.set_cons_succ]
                          refine seq_take 5 (v := ?v5_22) rfl (by kernel_rfl) (fun _ _ _ h => h) (by rfl) (fun w' hw' => ?hy5_22) ?_
                          case hy5_22 => go_simp; try with_reducible rfl
                          try simp only [List.getElem_toArray, List.getElem_cons_succ, List.getElem_cons_zero, Act.put, List.setIfInBounds_toArray, List.set_cons_zero, List.set_cons_succ]
                          refine seq_take 6 (v := ?v6_23) rfl (by kernel_rfl) (fun _ _ _ h => h) (by rfl) (fun w' hw' => ?hy6_23) ?_
                          case hy6_23 => go_simp; try with_reducible rfl
                          try simp only [List.getElem_toArray, List.getElem_cons_succ, List.getElem_cons_zero, Act.put, List.setIfInBounds_toArray, List.set_cons_zero, List.set_cons_succ]
                          refine seq_take 7 rfl (by kernel_rfl) (fun _ _ _ h => h) (by rfl) (seq_lds rfl rfl (HC.out)) ?_
                          try simp only [List.getElem_toArray, List.getElem_cons_succ, List.getElem_cons_zero, Act.put, List.setIfInBounds_toArray, List.set_cons_zero, List.set_cons_succ]
                          refine seq_take 8 (v := ?v8_24) rfl (by kernel_rfl) (fun _ _ _ h => h) (by rfl) (fun w' hw' => ?hy8_24) ?_
                          case hy8_24 => go_simp; try with_reducible rfl
                          try simp only [List.getElem_toArray, List.getElem_cons_succ, List.getElem_cons_zero, Act.put, List.setIfInBounds_toArray, List.set_cons_zero, List.set_cons_succ]
                          refine seq_take 9 (v := ?v9_25) rfl (by kernel_rfl) (fun _ _ _ h => h) (by rfl) (fun w' hw' => ?hy9_25) ?_
                          case hy9_25 => go_simp; try with_reducible rfl
                          try simp only [List.getElem_toArray, List.getElem_cons_succ, List.getElem_cons_zero, Act.put, List.setIfInBounds_toArray, List.set_cons_zero, List.set_cons_succ]
                          refine seq_take 10 (v := ?v10_26) rfl (by kernel_rfl) (fun _ _ _ h => h) (by rfl) (fun w' hw' => ?hy10_26) ?_
                          case hy10_26 => go_simp; try with_reducible rfl
                          try simp only [List.getElem_toArray, List.getElem_cons_succ, List.getElem_cons_zero, Act.put, List.setIfInBounds_toArray, List.set_cons_zero, List.set_cons_succ]
                          refine seq_take 11 rfl (by kernel_rfl) (fun _ _ _ h => h) (by rfl) (seq_lds rfl rfl (HC.out)) ?_
                          try simp only [List.getElem_toArray, List.getElem_cons_succ, List.getElem_cons_zero, Act.put, List.setIfInBounds_toArray, List.set_cons_zero, List.set_cons_succ]
                          refine seq_take 12 (v := ?v12_27) rfl (by kernel_rfl) (fun _ _ _ h => h) (by rfl) (fun w' hw' => ?hy12_27) ?_
                          case hy12_27 => go_simp; try with_reducible rfl
                          try simp only [List.getElem_toArray, List.getElem_cons_succ, List.getElem_cons_zero, Act.put, List.setIfInBounds_toArray, List.set_cons_zero, List.set_cons_succ]
                          refine seq_take 13 rfl (by kernel_rfl) (fun _ _ _ h => h) (by rfl) (yields_min2 rfl rfl rfl (HU.out.2)) ?_
                          try simp only [List.getElem_toArray, List.getElem_cons_succ, List.getElem_cons_zero, Act.put, List.setIfInBounds_toArray, List.set_cons_zero, List.set_cons_succ]
                          refine seq_take 14 rfl (by kernel_rfl) (fun _ _ _ h => h) (by rfl) (yields_str_hi (by kernel_rfl) rfl rfl rfl (hmt)) ?_
                          try simp only [List.getElem_toArray, List.getElem_cons_succ, List.getElem_cons_zero, Act.put, List.setIfInBounds_toArray, List.set_cons_zero, List.set_cons_succ]
                          refine seq_take 15 (v := ?v15_28) rfl (by kernel_rfl) (fun _ _ _ h => h) (by rfl) (fun w' hw' => ?hy15_28) ?_
                          case hy15_28 => go_simp; try with_reducible rfl
                          try simp only [List.getElem_toArray, List.getElem_cons_succ, List.getElem_cons_zero, Act.put, List.setIfInBounds_toArray, List.set_cons_zero, List.set_cons_succ]
                          refine seq_take 16 (v := ?v16_29) rfl (by kernel_rfl) (fun _ _ _ h => h) (by rfl) (fun w' hw' => ?hy16_29) ?_
                          case hy16_29 => go_simp; try with_reducible rfl
                          try simp only [List.getElem_toArray, List.getElem_cons_succ, List.getElem_cons_zero, Act.put, List.setIfInBounds_toArray, List.set_cons_zero, List.set_cons_succ]
                          refine seq_done (by kernel_rfl) ?_
                        | have hwf : whole = false := HWH.out
                          clear hwf
                          go_wp2_with fail
                          refine seq_start (by kernel_rfl) ?_
                          refine seq_take 0 (v := ?v0_30) rfl (by kernel_rfl) (fun _ _ _ h => h) (by rfl) (fun w' hw' => ?hy0_30) ?_
                          case hy0_30 => go_simp; try with_reducible rfl
                          try simp only [List.getElem_toArray, List.getElem_cons_succ, List.getElem_cons_zero, Act.put, List.setIfInBounds_toArray, List.set_cons_zero, List.set_cons_succ]
                          refine seq_take 1 (v := ?v1_31) rfl (by kernel_rfl) (fun _ _ _ h => h) (by rfl) (fun w' hw' => ?hy1_31) ?_
                          case hy1_31 => go_simp; try with_reducible rfl
                          try simp only [List.getElem_toArray, List.getElem_cons_succ, List.getElem_cons_zero, Act.put, List.setIfInBounds_toArray, List.set_cons_zero, List.set_cons_succ]
                          refine seq_take 2 (v := ?v2_32) rfl (by kernel_rfl) (fun _ _ _ h => h) (by rfl) (fun w' hw' => ?hy2_32) ?_
                          case hy2_32 => go_simp; try with_reducible rfl
                          try simp only [List.getElem_toArray, List.getElem_cons_succ, List.getElem_cons_zero, Act.put, List.setIfInBounds_toArray, List.set_cons_zero, List.set_cons_succ]
                          refine seq_skip 3 rfl (by kernel_rfl) (fun _ _ _ h => h) (by rfl) ?_
                          try simp only [List.getElem_toArray, List.getElem_cons_succ, List.getElem_cons_zero, Act.put, List.setIfInBounds_toArray, List.set_cons_zero, List.set_cons_succ]
                          refine seq_skip 4 rfl (by kernel_rfl) (fun _ _ _ h => h) (by rfl) ?_
                          try simp only [List.getElem_toArray, List.getElem_cons_succ, List.getElem_cons_zero, Act.put, List.setIfInBounds_toArray, List.set_cons_zero, List.set_cons_succ]
                          refine seq_skip 5 rfl (by kernel_rfl) (fun _ _ _ h => h) (by rfl) ?_
                          try simp only [List.getElem_toArray, List.getElem_cons_succ, List.getElem_cons_zero, Act.put, List.setIfInBounds_toArray, List.set_cons_zero, List.set_cons_succ]
                          refine seq_skip 6 rfl (by kernel_rfl) (fun _ _ _ h => h) (by rfl) ?_
                          try simp only [List.getElem_toArray, List.getElem_cons_succ, List.getElem_cons_zero, Act.put, List.setIfInBounds_toArray, List.set_cons_zero, List.set_cons_succ]
                          refine seq_skip 7 rfl (by kernel_rfl) (fun _ _ _ h => h) (by rfl) ?_
                          try simp only [List.getElem_toArray, List.getElem_cons_succ, List.getElem_cons_zero, Act.put, List.setIfInBounds_toArray, List.set_cons_zero, List.set_cons_succ]
                          refine seq_skip 8 rfl (by kernel_rfl) (fun _ _ _ h => h) (by rfl) ?_
                          try simp only [List.getElem_toArray, List.getElem_cons_succ, List.getElem_cons_zero, Act.put, List.setIfInBounds_toArray, List.set_cons_zero, List.set_cons_succ]
                          refine seq_skip 9 rfl (by kernel_rfl) (fun _ _ _ h => h) (by rfl) ?_
                          try simp only [List.getElem_toArray, List.getElem_cons_succ, List.getElem_cons_zero, Act.put, List.setIfInBounds_toArray, List.set_cons_zero, List.set_cons_succ]
                          refine seq_skip 10 rfl (by kernel_rfl) (fun _ _ _ h => h) (by rfl) ?_
                          try simp only [List.getElem_toArray, List.getElem_cons_succ, List.getElem_cons_zero, Act.put, List.setIfInBounds_toArray, List.set_cons_zero, List.set_cons_succ]
                          refine seq_skip 11 rfl (by kernel_rfl) (fun _ _ _ h => h) (by rfl) ?_
                          try simp only [List.getElem_toArray, List.getElem_cons_succ, List.getElem_cons_zero, Act.put, List.setIfInBounds_toArray, List.set_cons_zero, List.set_cons_succ]
                          refine seq_skip 12 rfl (by kernel_rfl) (fun _ _ _ h => h) (by rfl) ?_
                          try simp only [List.getElem_toArray, List.getElem_cons_succ, List.getElem_cons_zero, Act.put, List.setIfInBounds_toArray, List.set_cons_zero, List.set_cons_succ]
                          refine seq_skip 13 rfl (by kernel_rfl) (fun _ _ _ h => h) (by rfl) ?_
                          try simp only [List.getElem_toArray, List.getElem_cons_succ, List.getElem_cons_zero, Act.put, List.setIfInBounds_toArray, List.set_cons_zero, List.set_cons_succ]
                          refine seq_skip 14 rfl (by kernel_rfl) (fun _ _ _ h => h) (by rfl) ?_
                          try simp only [List.getElem_toArray, List.getElem_cons_succ, List.getElem_cons_zero, Act.put, List.setIfInBounds_toArray, List.set_cons_zero, List.set_cons_succ]
                          refine seq_skip 15 rfl (by kernel_rfl) (fun _ _ _ h => h) (by rfl) ?_
                          try simp only [List.getElem_toArray, List.getElem_cons_succ, List.getElem_cons_zero, Act.put, List.setIfInBounds_toArray, List.set_cons_zero, List.set_cons_succ]
                          refine seq_take 16 (v := ?v16_33) rfl (by kernel_rfl) (fun _ _ _ h => h) (by rfl) (fun w' hw' => ?hy16_33) ?_
                          case hy16_33 => go_simp; try with_reducible rfl
                          try simp only [List.getElem_toArray, List.getElem_cons_succ, List.getElem_cons_zero, Act.put, List.setIfInBounds_toArray, List.set_cons_zero, List.set_cons_succ]
                          refine seq_done (by kernel_rfl) ?_
                      go_wp2_with fail
                      go_roundw
                      case rel => exact ⟨i + 1, s', by omega, by simp, HRD2.out.1, HI3.out.1, HI3.out.2.drew⟩
                      case measure => simp [intOf]; omega
                    · obtain rfl : i = T.length := by omega
                      rw [List.drop_of_length_le (by omega)] at hrd
                      have hee := rd_end (show Rd whole [] s from hrd)
                      simp only [HWH.out, if_true, Bool.false_eq_true, if_false] at hee
                      have HI := Lib.hid (And.intro hin hbel)
                      have HEE := Lib.hid hee
                      clear hrd hin hbel hTL hee
                      go_wp2_with fail
                      refine (end_any g s _ HI.out.1).mono ?_
                      rintro x w3 ⟨rfl, hin3, hgr⟩
                      have hb3 : Below wo.heap.size wo w3 := HI.out.2.grown hgr hszi (fun k hk => by cases hk; exact hg)
                      have HI3 := Lib.hid hb3
                      rw [HEE.out]
                      clear hin3 hb3 hgr
                      go_wp2_with fail
                      go_roundw
                      case rel =>
                        have hb4 := HI3.out
                        have h1 := HW.out.1.trans (hb4.mono hszr)
                        have h2 := HW.out.2.below hb4
                        first
                          | exact ⟨1, by omega, rfl, h1, h2⟩
                          | exact ⟨2, by omega, rfl, h1, h2⟩
                      case measure => simp [intOf]

set_option maxRecDepth 100000 in
theorem lifted (os : Os) (started : os.Started) (H : Type) (enc : TypeId × Value → H) :
    ReturnsInHanded {} Try.checked os 6 .any (Rows.wireBackSpec.pre6 enc Try.prog Try.f6 Rows.wireBackRow.domain false) (Rows.wireBackSpec.post enc Try.prog Try.f6 false true false false) := by
  refine returnsInHanded_of_change (C := Try.checked) own started (by kernel_rfl) Try.func6
    (ChangeSpec.witness6 (enc := enc) (C := Try.checked) false ⟨#[], #[.slice none 0 0, .slice none 0 0, .int .i64 0], []⟩ 8 (by kernel_rfl) (by kernel_rfl) (by kernel_rfl) (by kernel_rfl)) ?_
  intro W base args ds gs before hval0 hW hcnd _
  have hval : ∀ (j : Nat) t v, Try.f6.params[j]? = some t → args[j]? = some v → Value.okWide Try.prog W .any base t v := hval0
  have hW' := hW
  obtain ⟨p, q, hA0, hV, rfl, hfz, hnd⟩ := hW
  have hA : DataW.TrodAll enc Try.prog W 0 (fun _ => true) true Try.f6.params.toList args.toList ds p := hA0
  rw [Try.params6] at hA hval
  obtain ⟨v0, v1, v2, d0, d1, d2, p0, p1, p2, rfl, rfl, rfl, h0, h1, h2⟩ := trodAll_three hA
  obtain ⟨rfl, rfl⟩ := trodVars_none hV
  obtain ⟨ao, cap, l, rfl, hc, hm, hat, hz⟩ := open_intsl Try.underlying38 Try.underlying3 (by kernel_rfl) (hval 0 38 v0 rfl rfl) h0
  obtain ⟨to, tcap, ts, rfl, htc, htm, htt, hts⟩ := open_strsl Try.underlying39 Try.underlying9 (by kernel_rfl) (hval 1 39 v1 rfl rfl) h1
  obtain ⟨c, rfl, rfl, rfl, wc⟩ := open_int Try.underlying3 (hval 2 3 v2 rfl rfl) h2
  refine (walk ao to l ts cap tcap hc htc c hz hts W hat htt).mono fun e W' ⟨he, hb⟩ => ?_
  subst he
  exact ⟨_, rfl, post_law laidOut rfl rfl Try.underlying4 readable rfl rfl rfl hW' hb⟩

theorem proved : Rows.WireBackSaid :=
  OpenClaim.holds_of_wide 6 Try.f6 rfl rfl rfl rfl rfl rfl rfl ⟨rfl, rfl, rfl, rfl, rfl⟩ rfl rfl rfl rfl rfl (by kernel_rfl) Try.func6 (by kernel_rfl)
    (of_decide_eq_true (by kernel_rfl)) (by unfold Func.isWrapper; first | (rw [if_pos (by decide +kernel)]; kernel_rfl) | (rw [if_neg (by decide +kernel)]; exact ⟨rfl, rfl⟩))
    (fun os started H enc _ => lifted os started H enc)
end Go.Proofs.Ytmnaomdnjaiggaa.wireBack
