/- The walks of the bytes of heads and of records' first sectors; is a sector just these bytes; the age that a head says. -/
import Derived.Test.YtpeehagaiofobaaDoorWal1
namespace Go.Proofs.YtpeehagaiofobaaDoor
open Go.RowKit

/-- An append of bytes for which there is no room. -/
theorem app_grow {w : World} {ops : Array Oper} {rest : List Oper} {o : Oper} {a : Act} {Q : Exit → Act → World → Prop} (hgd : Region.wanted o (yielded ops a.tmps) = true) (s x : Operand)
    (ho : o.op = .call { callee := .builtin .append, args := #[s, x], argTypes := #[40, 40] })
    (ao : Option Addr) (cap n : Nat) (l : List UInt8) (hs : a.eval s = .slice ao n cap) (hn : n = l.length) (hat0 : At w ao (bytesV l))
    (bo : Option Addr) (m c : Nat) (l' : List UInt8) (hx : a.eval x = .slice bo m c) (hat : At w bo (bytesV l')) (hm : m = l'.length) (hg : cap < n + m) (hb : n + m ≤ 70368744177664) (X : List UInt8) (hX : l ++ l' = X)
    (h : ∀ ao' cap' w', w'.ownsRow w.heap.size 5 1 (.slice ao' X.length cap') X.length (bytesV X) → Below w.heap.size w w' → wpList Tryd.prog ops Q rest (a.put o.dst (.slice ao' X.length cap')) w') : wpList Tryd.prog ops Q (o :: rest) a w := by
  obtain ⟨i0, hi, hz0, hz1, hz2⟩ := info_parts infoU8
  refine wpList_go hgd fun K hK => ?_
  have hlen : n + m = X.length := by rw [← hX]; simp [hn, hm]
  have hbX : bytesV l ++ bytesV l' = bytesV X := by rw [← hX, bytesV_append]
  have hold : (Builtin.firstCells i0.size n (.slice ao n cap)).run Tryd.prog w.drew = .ok (bytesV l).toArray w.drew := by
    rw [hz1]
    rcases hat0 with h0 | ⟨b, o, rfl, hc⟩
    · have hl0 : l = [] := by simpa [bytesV] using h0
      subst hl0
      subst hn
      cases ao with
      | none => simp [Builtin.firstCells]
      | some ad => exact run_firstCells_some w.drew 1 0 ad 0 cap [] (by simp) (fun j u hj => by simp at hj)
    · exact run_firstCells_some w.drew 1 n ⟨b, o, none⟩ n cap (bytesV l) (by simp [hn]) (fun j u hj => by rw [Addr.add_lit]; exact hc j u hj)
  have hsrc : Src Tryd.prog i0.size 40 (.slice bo m c) m (bytesV l') w := by rw [hz1]; exact src_bytes hat hm
  have hr := run_append_grow_src (P := Tryd.prog) w 40 40 o.type 5 i0 (.int .u8 0) Tryd.underlying40 hi hz0 ao n cap (bytesV l) hold _ m (bytesV l') hsrc hg (by omega) (growslice_fits hg (by rw [hz2]; omega))
  have hge := grownCap_ge w (n + m) cap 5
  have hcm := grownCap_le_maxLen w (n + m) cap 5 (by unfold maxLen; omega)
  have hsz : (Value.int IntKind.u8 0).cells.size = 1 := rfl
  unfold Oper.wp execOp
  simp only [ho, resolve, invoke, builtin, Sem.run_bind, Sem.run_pure, Result.andThen_ok, List.map_toArray, List.map_cons, List.map_nil, hs, hx, hr]
  rw [hlen]
  refine hK _ _ (h _ _ _ ⟨by simp, .inr ⟨w.heap.size, _, _, rfl, Nat.le_refl _, heap_alloc_new w.drew _, ?_, ?_, ?_, ?_⟩⟩ ((Below.refl _ w).drew.alloc (Nat.le_refl _) _))
  · rw [← hlen]; exact hge
  · rw [← hlen]; exact hcm
  · rw [Array.size_append, List.size_toArray, size_zeroCells, hsz, hbX, bytesV_length, ← hlen]
    omega
  · rw [Array.toList_append, hbX]
    exact List.take_left' (by simp)

set_option maxRecDepth 100000 in
set_option maxHeartbeats 1000000 in
theorem head_any (a : Nat) (ha : a ≤ 4611686018427387904) (w : World) (ht : Tab w) :
    Calls Tryd.prog 19 #[.int .i64 (a : Int)] w (NewBytes w (headL a)) := by
  have HT := Lib.hid ht
  have HB := Lib.hid (show (-9223372036854775808 : Int) ≤ a ∧ (a : Int) ≤ 9223372036854775807 by omega)
  have hel := enc_len (a : Int) HB.out.1 HB.out.2
  have hep : 0 < (enc (a : Int)).length := numB_pos _
  obtain ⟨X, hX⟩ : ∃ X, [76, 71] ++ enc (a : Int) = X := ⟨_, rfl⟩
  have HL := Lib.hid (show headL a = X ++ four (crc X) by rw [← hX]; rfl)
  have HXl := Lib.hid (show X.length = 2 + (enc (a : Int)).length by rw [← hX, List.length_append]; rfl)
  have HX := Lib.hid hX
  clear hX
  have kc := conv_const
  clear ht ha
  go_enter Tryd.func19, Tryd.ntmps19
  go_wp2_with fail
  have hat0 : At (w.alloc (.cells #[.int .u8 76, .int .u8 71] 5 (2, 3))) (some ⟨w.heap.size, 0, none⟩) (bytesV [76, 71]) := At.new w _ _ (2, 3)
  generalize hW : w.alloc (.cells #[.int .u8 76, .int .u8 71] 5 (2, 3)) = W at *
  have hbW : Below w.heap.size w W := by rw [← hW]; exact (Below.refl _ w).alloc (Nat.le_refl _) _
  have HA := Lib.hid (And.intro hat0 hbW)
  clear kc hat0 hW hbW
  refine (num_any (a : Int) HB.out.1 HB.out.2 W).mono ?_
  rintro e w2 ⟨co, capc, rfl, hown, hb2⟩
  have H2 := Lib.hid (And.intro (At.own hown) hb2)
  have hsz2 := hb2.size
  clear hown hb2
  go_wp2_with (at_builtin; refine app_grow rfl _ _ rfl (some ⟨w.heap.size, 0, none⟩) 2 2 [76, 71] rfl rfl (HA.out.1.below H2.out.2) co _ capc (enc a) rfl H2.out.1 rfl (by omega) (by omega) X HX.out ?_; rintro ao3 cap3 w3 hown3 hb3)
  have hszW := HA.out.2.size
  have hb03 : Below w.heap.size w w3 := HA.out.2.trans ((H2.out.2.mono hszW).trans (hb3.mono (by omega)))
  have H3 := Lib.hid (And.intro (At.own hown3) hb03)
  clear hown3 hb3 hb03
  refine (close_any ao3 X _ cap3 rfl (by have := HXl.out; omega) w3 H3.out.1 (HT.out.below H3.out.2)).mono ?_
  rintro e w4 ⟨do_, capd, rfl, hown4, hb4⟩
  have H4 := Lib.hid (And.intro hown4 (H3.out.2.trans (hb4.mono H3.out.2.size)))
  clear hown4 hb4
  go_wp2_with fail
  go_ret
  have hs3 := H3.out.2.size
  rw [HL.out]
  exact ⟨do_, capd, by simp, owns_mono H4.out.1 hs3, H4.out.2⟩

set_option maxRecDepth 100000 in
set_option maxHeartbeats 1000000 in
theorem first_any (a n : Nat) (ha : a ≤ 4611686018427387904) (hn : n ≤ 4611686018427387904) (bo : Option Addr) (k cap : Nat) (b : List UInt8) (hk : k = b.length) (hb : b.length ≤ 1000000) (w : World) (hat : At w bo (bytesV b)) (ht : Tab w) :
    Calls Tryd.prog 27 #[.int .i64 (a : Int), .int .i64 (n : Int), .slice bo k cap] w (NewBytes w (firstL a n b)) := by
  subst hk
  have HT := Lib.hid ht
  have HA := Lib.hid hat
  have hcl := crc_lt b
  have HB := Lib.hid (show ((-9223372036854775808 : Int) ≤ a ∧ (a : Int) ≤ 9223372036854775807) ∧ ((-9223372036854775808 : Int) ≤ n ∧ (n : Int) ≤ 9223372036854775807) ∧ ((-9223372036854775808 : Int) ≤ (crc b : Nat) ∧ ((crc b : Nat) : Int) ≤ 9223372036854775807) by omega)
  have HFL := Lib.hid (firstC_length a n b (by omega) (by omega) (by omega))
  obtain ⟨Y, hY⟩ : ∃ Y, firstC a n b ++ four (crc (firstC a n b)) = Y := ⟨_, rfl⟩
  have HL := Lib.hid (show firstL a n b = [72] ++ Y by rw [← hY]; rfl)
  have HYl := Lib.hid (show 0 < Y.length ∧ Y.length ≤ 44 by rw [← hY, List.length_append, four_length]; have := firstC_length a n b (by omega) (by omega) (by omega); omega)
  have HY := Lib.hid hY
  clear hY
  obtain ⟨X, hX⟩ : ∃ X, [72] ++ Y = X := ⟨_, rfl⟩
  rw [hX] at HL
  have HX := Lib.hid hX
  clear hX
  have hcw : IntKind.i64.wrap ((crc b : Nat) : Int) = ((crc b : Nat) : Int) := by rw [IntKind.wrap_i64]; omega
  clear ht hat ha hn
  go_enter Tryd.func27, Tryd.ntmps27
  go_wp2_with fail
  refine (num_any (a : Int) HB.out.1.1 HB.out.1.2 w).mono ?_
  rintro e w1 ⟨ao1, cap1, rfl, hown1, hb1⟩
  have H1 := Lib.hid (And.intro (At.own hown1) hb1)
  have hs1 := hb1.size
  clear hown1 hb1
  go_wp2_with fail
  refine (num_any (n : Int) HB.out.2.1.1 HB.out.2.1.2 w1).mono ?_
  rintro e w2 ⟨ao2, cap2, rfl, hown2, hb2⟩
  have H2 := Lib.hid (And.intro (At.own hown2) hb2)
  have hs2 := hb2.size
  clear hown2 hb2
  go_wp2_with fail
  refine (num_any (b.length : Int) (by omega) (by omega) w2).mono ?_
  rintro e w3 ⟨ao3, cap3, rfl, hown3, hb3⟩
  have H3 := Lib.hid (And.intro (At.own hown3) hb3)
  have hs3 := hb3.size
  clear hown3 hb3
  have hb13 : Below w.heap.size w w3 := H1.out.2.trans ((H2.out.2.mono hs1).trans (H3.out.2.mono (by omega)))
  have HB3 := Lib.hid hb13
  clear hb13
  go_wp2_with fail
  refine (sum_one bo _ cap b rfl (by omega) w3 _ rfl (HA.out.below HB3.out) (HT.out.below HB3.out)).mono ?_
  rintro e w4 ⟨rfl, rfl⟩
  go_wp2_with fail
  refine (num_any ((crc b : Nat) : Int) HB.out.2.2.1 HB.out.2.2.2 _).mono ?_
  rintro e w5 ⟨ao5, cap5, rfl, hown5, hb5⟩
  have hb35 : Below w3.heap.size w3 w5 := ((Below.refl _ w3).alloc (Nat.le_refl _) _).trans (hb5.mono (by simp))
  have H5 := Lib.hid (And.intro (At.own hown5) hb35)
  have hs5 := hb35.size
  clear hown5 hb5 hb35
  go_wp2_with fail
  have hl1 := enc_len (a : Int) HB.out.1.1 HB.out.1.2
  have hl2 := enc_len (n : Int) HB.out.2.1.1 HB.out.2.1.2
  have hl3 := enc_len (b.length : Int) (by omega) (by omega)
  have hl5 := enc_len ((crc b : Nat) : Int) HB.out.2.2.1 HB.out.2.2.2
  refine (concat_any _ 4 4 [enc a, enc n, enc b.length, enc (crc b : Nat)] rfl (by omega) (by simp; omega) _ (parts_new rfl ?_)).mono ?_
  · exact ⟨⟨by omega, ao1, _, cap1, rfl, rfl, ((H1.out.1.below H2.out.2).below H3.out.2).below H5.out.2⟩, ⟨by omega, ao2, _, cap2, rfl, rfl, (H2.out.1.below H3.out.2).below H5.out.2⟩, ⟨by omega, ao3, _, cap3, rfl, rfl, H3.out.1.below H5.out.2⟩, ⟨by omega, ao5, _, cap5, rfl, rfl, H5.out.1⟩, trivial⟩
  rintro e w6 ⟨ao6, cap6, rfl, hown6, hb6⟩
  have e6 : [enc a, enc n, enc b.length, enc (crc b : Nat)].flatten = firstC a n b := by simp [firstC]
  rw [e6] at hown6 ⊢
  have hb06 : Below w.heap.size w w6 := HB3.out.trans ((H5.out.2.mono (by omega)).trans (((Below.refl w5.heap.size w5).alloc (Nat.le_refl _) _ |>.trans (hb6.mono (by simp))).mono (by omega)))
  have H6 := Lib.hid (And.intro (At.own hown6) hb06)
  have hs6 := hb06.size
  clear hown6 hb6 hb06 e6 hl1 hl2 hl3 hl5
  go_wp2_with fail
  have hb67 : Below w.heap.size w (w6.alloc (.cells #[.int .u8 72] 5)) := H6.out.2.alloc hs6 _
  refine (close_any ao6 (firstC a n b) _ cap6 rfl (by have := HFL.out; omega) _ (H6.out.1.below ((Below.refl _ _).alloc (Nat.le_refl _) _)) (HT.out.below hb67)).mono ?_
  rintro e w7 ⟨ao7, cap7, rfl, hown7, hb7⟩
  rw [HY.out] at hown7 ⊢
  have hat72 : At w7 (some ⟨w6.heap.size, 0, none⟩) (bytesV [72]) := (At.new w6 #[.int .u8 72] 5).below hb7
  have H7 := Lib.hid (And.intro (At.own hown7) (And.intro hat72 (hb67.trans (hb7.mono (by simp; omega)))))
  have hs7 := H7.out.2.2.size
  clear hown7 hat72 hb7 hb67
  have hYl := HYl.out
  go_wp2_with (at_builtin; refine app_grow rfl _ _ rfl (some ⟨w6.heap.size, 0, none⟩) 1 1 [72] rfl rfl H7.out.2.1 ao7 _ cap7 Y rfl H7.out.1 rfl (by omega) (by omega) X HX.out ?_; rintro ao8 cap8 w8 hown8 hb8)
  go_ret
  rw [HL.out]
  exact ⟨ao8, cap8, rfl, owns_mono hown8 hs7, H7.out.2.2.trans (hb8.mono hs7)⟩

theorem is_iff (c b : List UInt8) (hc : c.length = 512) (hb : b.length ≤ 512) : (c.take b.length = b ∧ c.drop b.length = List.replicate (512 - b.length) 0) ↔ c = padZ b := by
  constructor
  · rintro ⟨h1, h2⟩
    rw [← List.take_append_drop b.length c, h1, h2]
    rfl
  · rintro rfl
    exact ⟨by simp [padZ], by simp [padZ]⟩

set_option maxRecDepth 100000 in
set_option maxHeartbeats 1000000 in
theorem is_any (so bo : Option Addr) (scap bcap n : Nat) (c b : List UInt8) (hc : c.length = 512) (hs : 512 ≤ scap) (hn : n = b.length) (hb : b.length ≤ 512) (w : World) (hat : At w so (bytesV c)) (hbt : At w bo (bytesV b)) :
    Calls Tryd.prog 46 #[.slice so 512 scap, .slice bo n bcap] w (Says w (.bool (decide (c = padZ b)))) := by
  subst hn
  have HA := Lib.hid (And.intro hat hbt)
  have HI := Lib.hid (is_iff c b hc hb)
  have HC := Lib.hid hc
  have HD := Lib.hid (show decide (c = padZ b) = decide (c = padZ b) from rfl)
  generalize hr : decide (c = padZ b) = r at *
  have HR := Lib.hid hr
  have hsub : IntKind.i64.wrap (512 - (b.length : Int)) = ((512 - b.length : Nat) : Int) := by rw [IntKind.wrap_i64]; omega
  have hle : decide ((b.length : Int) ≤ 512) = true := decide_eq_true (by omega)
  clear hat hbt hr hc
  go_enter Tryd.func46, Tryd.ntmps46
  go_wp2_with fail
  refine seq_start (by kernel_rfl) ?_
  refine seq_take 0 (v := ?_) rfl (by kernel_rfl) (fun _ _ _ h => h) (by rfl) (fun w' hw' => ?_) ?_
  rotate_left
  · go_simp; try with_reducible rfl
  try simp only [List.getElem_toArray, List.getElem_cons_succ, List.getElem_cons_zero, Act.put, List.setIfInBounds_toArray, List.set_cons_zero, List.set_cons_succ]
  refine seq_take 1 (v := ?_) rfl (by kernel_rfl) (fun _ _ _ h => h) (by rfl) (fun w' hw' => ?_) ?_
  rotate_left
  · go_simp; try with_reducible rfl
  try simp only [List.getElem_toArray, List.getElem_cons_succ, List.getElem_cons_zero, Act.put, List.setIfInBounds_toArray, List.set_cons_zero, List.set_cons_succ]
  refine seq_take 2 (v := ?_) rfl (by kernel_rfl) (fun _ _ _ h => h) (by rfl) (fun w' hw' => ?_) ?_
  rotate_left
  · go_simp; try with_reducible rfl
  try simp only [List.getElem_toArray, List.getElem_cons_succ, List.getElem_cons_zero, Act.put, List.setIfInBounds_toArray, List.set_cons_zero, List.set_cons_succ]
  refine seq_take 3 (v := ?_) rfl (by kernel_rfl) (fun _ _ _ h => h) (by rfl) (fun w' hw' => ?_) ?_
  rotate_left
  · go_simp; try with_reducible rfl
  try simp only [List.getElem_toArray, List.getElem_cons_succ, List.getElem_cons_zero, Act.put, List.setIfInBounds_toArray, List.set_cons_zero, List.set_cons_succ]
  refine seq_take 4 (v := ?_) rfl (by kernel_rfl) (fun _ _ _ h => h) (by rfl) (fun w' hw' => ?_) ?_
  rotate_left
  · go_simp; try with_reducible rfl
  try simp only [List.getElem_toArray, List.getElem_cons_succ, List.getElem_cons_zero, Act.put, List.setIfInBounds_toArray, List.set_cons_zero, List.set_cons_succ]
  refine seq_take 5 (v := ?_) rfl (by kernel_rfl) (fun _ _ _ h => h) (by rfl) (fun w' hw' => ?_) ?_
  rotate_left
  · go_simp; try with_reducible rfl
  try simp only [List.getElem_toArray, List.getElem_cons_succ, List.getElem_cons_zero, Act.put, List.setIfInBounds_toArray, List.set_cons_zero, List.set_cons_succ]
  refine seq_take 6 (v := ?_) rfl (by kernel_rfl) (fun _ _ _ h => h) (by rfl) (fun w' hw' => ?_) ?_
  rotate_left
  · go_simp; try with_reducible rfl
  try simp only [List.getElem_toArray, List.getElem_cons_succ, List.getElem_cons_zero, Act.put, List.setIfInBounds_toArray, List.set_cons_zero, List.set_cons_succ]
  refine seq_take 7 (v := ?_) rfl (by kernel_rfl) (fun _ _ _ h => h) (by rfl) (fun w' hw' => ?_) ?_
  rotate_left
  · go_simp; try with_reducible rfl
  try simp only [List.getElem_toArray, List.getElem_cons_succ, List.getElem_cons_zero, Act.put, List.setIfInBounds_toArray, List.set_cons_zero, List.set_cons_succ]
  refine seq_take 8 (v := ?_) rfl (by kernel_rfl) (fun _ _ _ h => h) (by rfl) (fun w' hw' => ?_) ?_
  rotate_left
  · go_simp; try with_reducible rfl
  try simp only [List.getElem_toArray, List.getElem_cons_succ, List.getElem_cons_zero, Act.put, List.setIfInBounds_toArray, List.set_cons_zero, List.set_cons_succ]
  refine seq_take 9 rfl (by kernel_rfl) (fun _ _ _ h => h) (by rfl) (seq_hi rfl rfl rfl ((by omega))) ?_
  try simp only [List.getElem_toArray, List.getElem_cons_succ, List.getElem_cons_zero, Act.put, List.setIfInBounds_toArray, List.set_cons_zero, List.set_cons_succ]
  refine seq_take 10 (v := ?_) rfl (by kernel_rfl) (fun _ _ _ h => h) (by rfl) (fun w' hw' => ?_) ?_
  rotate_left
  · go_simp; try with_reducible rfl
  try simp only [List.getElem_toArray, List.getElem_cons_succ, List.getElem_cons_zero, Act.put, List.setIfInBounds_toArray, List.set_cons_zero, List.set_cons_succ]
  refine seq_run 11 rfl (by kernel_rfl) (by rfl) (fun KK hKK => ?_)
  go_wp2_with fail
  refine (bytesEq_any so bo (c.take b.length) b scap bcap b.length b.length w.drew (by simp [HC.out]; omega) rfl (show At w.drew so _ from HA.out.1.takeB b.length) (show At w.drew bo _ from HA.out.2)).mono ?_
  rintro e w1 ⟨rfl, rfl⟩
  by_cases h1 : c.take b.length = b
  · rw [decide_eq_true h1]
    have H1 := Lib.hid h1
    clear h1
    go_wp2_with fail
    refine ⟨Below.refl _ _, ?_⟩
    refine seq_take 12 (v := ?_) rfl (by kernel_rfl) (fun _ _ _ h => h) (by rfl) (fun w' hw' => ?_) ?_
    rotate_left
    · go_simp; try with_reducible rfl
    try simp only [List.getElem_toArray, List.getElem_cons_succ, List.getElem_cons_zero, Act.put, List.setIfInBounds_toArray, List.set_cons_zero, List.set_cons_succ]
    refine seq_take 13 (v := ?_) rfl (by kernel_rfl) (fun _ _ _ h => h) (by rfl) (fun w' hw' => ?_) ?_
    rotate_left
    · go_simp; try with_reducible rfl
    try simp only [List.getElem_toArray, List.getElem_cons_succ, List.getElem_cons_zero, Act.put, List.setIfInBounds_toArray, List.set_cons_zero, List.set_cons_succ]
    refine seq_take 14 (v := ?_) rfl (by kernel_rfl) (fun _ _ _ h => h) (by rfl) (fun w' hw' => ?_) ?_
    rotate_left
    · go_simp; try with_reducible rfl
    try simp only [List.getElem_toArray, List.getElem_cons_succ, List.getElem_cons_zero, Act.put, List.setIfInBounds_toArray, List.set_cons_zero, List.set_cons_succ]
    refine seq_take 15 (v := ?_) rfl (by kernel_rfl) (fun _ _ _ h => h) (by rfl) (fun w' hw' => ?_) ?_
    rotate_left
    · go_simp; try with_reducible rfl
    try simp only [List.getElem_toArray, List.getElem_cons_succ, List.getElem_cons_zero, Act.put, List.setIfInBounds_toArray, List.set_cons_zero, List.set_cons_succ]
    refine seq_take 16 (v := ?_) rfl (by kernel_rfl) (fun _ _ _ h => h) (by rfl) (fun w' hw' => ?_) ?_
    rotate_left
    · go_simp; try with_reducible rfl
    try simp only [List.getElem_toArray, List.getElem_cons_succ, List.getElem_cons_zero, Act.put, List.setIfInBounds_toArray, List.set_cons_zero, List.set_cons_succ]
    refine seq_take 17 rfl (by kernel_rfl) (fun _ _ _ h => h) (by rfl) (seq_lo rfl rfl rfl (hb)) ?_
    try simp only [List.getElem_toArray, List.getElem_cons_succ, List.getElem_cons_zero, Act.put, List.setIfInBounds_toArray, List.set_cons_zero, List.set_cons_succ]
    refine seq_take 18 (v := ?_) rfl (by kernel_rfl) (fun _ _ _ h => h) (by rfl) (fun w' hw' => ?_) ?_
    rotate_left
    · go_simp; try with_reducible rfl
    try simp only [List.getElem_toArray, List.getElem_cons_succ, List.getElem_cons_zero, Act.put, List.setIfInBounds_toArray, List.set_cons_zero, List.set_cons_succ]
    refine seq_take 19 (v := ?_) rfl (by kernel_rfl) (fun _ _ _ h => h) (by rfl) (fun w' hw' => ?_) ?_
    rotate_left
    · go_simp; try with_reducible rfl
    try simp only [List.getElem_toArray, List.getElem_cons_succ, List.getElem_cons_zero, Act.put, List.setIfInBounds_toArray, List.set_cons_zero, List.set_cons_succ]
    refine seq_take 20 (v := ?_) rfl (by kernel_rfl) (fun _ _ _ h => h) (by rfl) (fun w' hw' => ?_) ?_
    rotate_left
    · go_simp; try with_reducible rfl
    try simp only [List.getElem_toArray, List.getElem_cons_succ, List.getElem_cons_zero, Act.put, List.setIfInBounds_toArray, List.set_cons_zero, List.set_cons_succ]
    refine seq_take 21 (v := ?_) rfl (by kernel_rfl) (fun _ _ _ h => h) (by rfl) (fun w' hw' => ?_) ?_
    rotate_left
    · go_simp; try with_reducible rfl
    try simp only [List.getElem_toArray, List.getElem_cons_succ, List.getElem_cons_zero, Act.put, List.setIfInBounds_toArray, List.set_cons_zero, List.set_cons_succ]
    refine seq_take 22 (v := ?_) rfl (by kernel_rfl) (fun _ _ _ h => h) (by rfl) (fun w' hw' => ?_) ?_
    rotate_left
    · go_simp; try with_reducible rfl
    try simp only [List.getElem_toArray, List.getElem_cons_succ, List.getElem_cons_zero, Act.put, List.setIfInBounds_toArray, List.set_cons_zero, List.set_cons_succ]
    refine seq_run 23 rfl (by kernel_rfl) (by rfl) (fun KK hKK => ?_)
    refine wp_make _ _ rfl (512 - b.length) rfl rfl (by omega) ?_
    rintro w2 q1 q2
    refine hKK _ _ ⟨grown_below q2, ?_⟩
    have hb2 := grown_below q2
    have H2 := Lib.hid (And.intro (At.own q1) hb2)
    clear q1 q2 hb2
    refine seq_run 24 rfl (by kernel_rfl) (by rfl) (fun KK hKK => ?_)
    go_wp2_with fail
    refine (bytesEq_any _ _ (c.drop b.length) (List.replicate (512 - b.length) 0) _ _ _ _ w2 (by simp [HC.out]) (by simp) ((show At w.drew _ _ from HA.out.1.dropB scap b.length (by rw [HC.out]; exact hs)).below H2.out.2) H2.out.1).mono ?_
    rintro e w3 ⟨rfl, rfl⟩
    have hres : decide (c.drop b.length = List.replicate (512 - b.length) 0) = r := by
      rw [← HR.out, Bool.eq_iff_iff]
      simp only [decide_eq_true_eq]
      rw [← HI.out]
      exact ⟨fun h => ⟨H1.out, h⟩, fun h => h.2⟩
    rw [hres]
    clear hres
    go_wp2_with fail
    refine ⟨Below.refl _ _, ?_⟩
    refine seq_take 25 (v := ?_) rfl (by kernel_rfl) (fun _ _ _ h => h) (by rfl) (fun w' hw' => ?_) ?_
    rotate_left
    · go_simp; try with_reducible rfl
    try simp only [List.getElem_toArray, List.getElem_cons_succ, List.getElem_cons_zero, Act.put, List.setIfInBounds_toArray, List.set_cons_zero, List.set_cons_succ]
    refine seq_take 26 (v := ?_) rfl (by kernel_rfl) (fun _ _ _ h => h) (by rfl) (fun w' hw' => ?_) ?_
    rotate_left
    · go_simp; try with_reducible rfl
    try simp only [List.getElem_toArray, List.getElem_cons_succ, List.getElem_cons_zero, Act.put, List.setIfInBounds_toArray, List.set_cons_zero, List.set_cons_succ]
    refine seq_done (by kernel_rfl) ?_
    go_wp2_with fail
    go_ret
    exact ⟨rfl, (Below.refl _ w).drew.trans H2.out.2⟩
  · rw [decide_eq_false h1]
    have hrf : r = false := by rw [← HR.out]; exact decide_eq_false fun h => h1 (HI.out.2 h).1
    have H1 := Lib.hid hrf
    clear h1 hrf
    go_wp2_with fail
    refine ⟨Below.refl _ _, ?_⟩
    refine seq_take 12 (v := ?_) rfl (by kernel_rfl) (fun _ _ _ h => h) (by rfl) (fun w' hw' => ?_) ?_
    rotate_left
    · go_simp; try with_reducible rfl
    try simp only [List.getElem_toArray, List.getElem_cons_succ, List.getElem_cons_zero, Act.put, List.setIfInBounds_toArray, List.set_cons_zero, List.set_cons_succ]
    refine seq_take 13 (v := ?_) rfl (by kernel_rfl) (fun _ _ _ h => h) (by rfl) (fun w' hw' => ?_) ?_
    rotate_left
    · go_simp; try with_reducible rfl
    try simp only [List.getElem_toArray, List.getElem_cons_succ, List.getElem_cons_zero, Act.put, List.setIfInBounds_toArray, List.set_cons_zero, List.set_cons_succ]
    refine seq_skip 14 rfl (by kernel_rfl) (fun _ _ _ h => h) (by rfl) ?_
    try simp only [List.getElem_toArray, List.getElem_cons_succ, List.getElem_cons_zero, Act.put, List.setIfInBounds_toArray, List.set_cons_zero, List.set_cons_succ]
    refine seq_skip 15 rfl (by kernel_rfl) (fun _ _ _ h => h) (by rfl) ?_
    try simp only [List.getElem_toArray, List.getElem_cons_succ, List.getElem_cons_zero, Act.put, List.setIfInBounds_toArray, List.set_cons_zero, List.set_cons_succ]
    refine seq_skip 16 rfl (by kernel_rfl) (fun _ _ _ h => h) (by rfl) ?_
    try simp only [List.getElem_toArray, List.getElem_cons_succ, List.getElem_cons_zero, Act.put, List.setIfInBounds_toArray, List.set_cons_zero, List.set_cons_succ]
    refine seq_skip 17 rfl (by kernel_rfl) (fun _ _ _ h => h) (by rfl) ?_
    try simp only [List.getElem_toArray, List.getElem_cons_succ, List.getElem_cons_zero, Act.put, List.setIfInBounds_toArray, List.set_cons_zero, List.set_cons_succ]
    refine seq_skip 18 rfl (by kernel_rfl) (fun _ _ _ h => h) (by rfl) ?_
    try simp only [List.getElem_toArray, List.getElem_cons_succ, List.getElem_cons_zero, Act.put, List.setIfInBounds_toArray, List.set_cons_zero, List.set_cons_succ]
    refine seq_skip 19 rfl (by kernel_rfl) (fun _ _ _ h => h) (by rfl) ?_
    try simp only [List.getElem_toArray, List.getElem_cons_succ, List.getElem_cons_zero, Act.put, List.setIfInBounds_toArray, List.set_cons_zero, List.set_cons_succ]
    refine seq_skip 20 rfl (by kernel_rfl) (fun _ _ _ h => h) (by rfl) ?_
    try simp only [List.getElem_toArray, List.getElem_cons_succ, List.getElem_cons_zero, Act.put, List.setIfInBounds_toArray, List.set_cons_zero, List.set_cons_succ]
    refine seq_skip 21 rfl (by kernel_rfl) (fun _ _ _ h => h) (by rfl) ?_
    try simp only [List.getElem_toArray, List.getElem_cons_succ, List.getElem_cons_zero, Act.put, List.setIfInBounds_toArray, List.set_cons_zero, List.set_cons_succ]
    refine seq_skip 22 rfl (by kernel_rfl) (fun _ _ _ h => h) (by rfl) ?_
    try simp only [List.getElem_toArray, List.getElem_cons_succ, List.getElem_cons_zero, Act.put, List.setIfInBounds_toArray, List.set_cons_zero, List.set_cons_succ]
    refine seq_skip 23 rfl (by kernel_rfl) (fun _ _ _ h => h) (by rfl) ?_
    try simp only [List.getElem_toArray, List.getElem_cons_succ, List.getElem_cons_zero, Act.put, List.setIfInBounds_toArray, List.set_cons_zero, List.set_cons_succ]
    refine seq_skip 24 rfl (by kernel_rfl) (fun _ _ _ h => h) (by rfl) ?_
    try simp only [List.getElem_toArray, List.getElem_cons_succ, List.getElem_cons_zero, Act.put, List.setIfInBounds_toArray, List.set_cons_zero, List.set_cons_succ]
    refine seq_take 25 (v := ?_) rfl (by kernel_rfl) (fun _ _ _ h => h) (by rfl) (fun w' hw' => ?_) ?_
    rotate_left
    · go_simp; try with_reducible rfl
    try simp only [List.getElem_toArray, List.getElem_cons_succ, List.getElem_cons_zero, Act.put, List.setIfInBounds_toArray, List.set_cons_zero, List.set_cons_succ]
    refine seq_take 26 (v := ?_) rfl (by kernel_rfl) (fun _ _ _ h => h) (by rfl) (fun w' hw' => ?_) ?_
    rotate_left
    · go_simp; try with_reducible rfl
    try simp only [List.getElem_toArray, List.getElem_cons_succ, List.getElem_cons_zero, Act.put, List.setIfInBounds_toArray, List.set_cons_zero, List.set_cons_succ]
    refine seq_done (by kernel_rfl) ?_
    go_wp2_with fail
    go_ret
    exact ⟨by rw [H1.out]; rfl, (Below.refl _ w).drew⟩

end Go.Proofs.YtpeehagaiofobaaDoor
