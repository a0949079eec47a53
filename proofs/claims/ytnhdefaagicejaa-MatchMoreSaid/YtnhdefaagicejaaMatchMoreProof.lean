/- THE LAW MatchMore: rows behind one that matches everything are never come to; a row that stands twice is come to first. -/
import Derived.Test.YtnhdefaagicejaaRows
import Derived.Test.YtnhdefaagicejaaMatI
import Derived.Test.YtnhdefaagicejaaLaw
namespace Go.Proofs.Ytnhdefaagicejaa.matchMore
set_option linter.unusedSimpArgs false
set_option linter.unusedVariables false
open Go.ChangeShapes Go.WideShapes Go.ChangeAt Go.RowKit

theorem own : ownKnob Try.prog.godebug = none := by kernel_rfl
theorem laidOut : laidOutB Try.prog = true := by kernel_rfl
theorem readable : ∀ t ∈ Try.f4.params.toList, Try.prog.readableRec t = true ∧ t < Try.prog.types.size := by
  rw [Try.params4]
  intro t ht
  simp at ht
  rcases ht with rfl | rfl
  · exact ⟨by kernel_rfl, of_decide_eq_true (by kernel_rfl)⟩
  · exact ⟨by kernel_rfl, of_decide_eq_true (by kernel_rfl)⟩

/-- The row that matches everything. -/
def anyX : PV := .mk 1 0 [120] []
theorem sizeVs_bound (B : Nat) : ∀ l : List PV, (∀ y ∈ l, sizeV y ≤ B) → sizeVs l ≤ l.length * B
  | [], _ => by simp [sizeVs]
  | x :: xs, h => by
    have h1 := h x (by simp)
    have h2 := sizeVs_bound B xs (fun y hy => h y (by simp [hy]))
    rw [sizeVs, List.length_cons, Nat.succ_mul]
    omega
theorem steps_bound (l : List PV) (hl : l.length ≤ 20) (h : ∀ y ∈ l, sizeV y ≤ 30) : stepsM l ≤ 1000000 := by
  have h1 := initR_meas l 0
  have h2 := sizeVs_bound 30 l h
  have h3 : l.length * 30 ≤ 20 * 30 := Nat.mul_le_mul hl (Nat.le_refl _)
  unfold stepsM
  omega
theorem more_first (v : PV) (l more : List PV) (x : PV) (hx : openP x = true) :
    (0 ≤ firstR v (initR 0 (l ++ [x] ++ more)) ∧ firstR v (initR 0 (l ++ [x] ++ more)) ≤ l.length) ∧ firstR v (initR 0 (l ++ l)) < l.length ∧ ((firstR v (initR 0 (l ++ l)) < 0) ↔ firstR v (initR 0 (l ++ [x] ++ more)) = l.length) ∧ (0 ≤ firstR v (initR 0 (l ++ l)) → firstR v (initR 0 (l ++ l)) = firstR v (initR 0 (l ++ [x] ++ more))) := by
  rw [first_init, first_init]
  exact more_law v l more x hx
theorem anyX_in (w : World) (D : Nat → Prop) (n : Nat) : VIn w D (n + 1) [.int .i64 1, .int .i64 0, .string ⟨#[120]⟩, .slice none 0 0] anyX :=
  VIn.row.2 ⟨none, 0, rfl, Nat.le_refl _, ⟨by decide, r64_small _ (by decide) (by decide), r64_small _ (by decide) (by decide), by decide⟩, VsIn.nil _ _ _ _⟩
set_option maxRecDepth 100000 in
set_option maxHeartbeats 16000000 in
theorem walk (n : Nat) (lo mo vo : Option Addr) (lcap mcap vcap : Nat) (ps ms vals : List PV) (W : World) (hps : VsIn W (fun b => b < W.heap.size) (n + 1) lo ps) (hms : VsIn W (fun b => b < W.heap.size) (n + 1) mo ms) (hvs : VsIn W (fun b => b < W.heap.size) (n + 1) vo vals)
    (h1 : ps.length ≤ 9223372036854775807) (h2 : ms.length ≤ 9223372036854775807) (h3 : vals.length ≤ 9223372036854775807) :
    Calls Try.prog 4 #[.slice lo ps.length lcap, .slice mo ms.length mcap, .slice vo vals.length vcap] W (fun e w' => e = .returned (.bool true) ∧ Below W.heap.size W w') := by
  have H := Lib.hid (And.intro (few_any (lcap := lcap) hps (fun _ h => h) h1) (And.intro hms (And.intro hvs h2)))
  clear hps hms hvs h1 h2
  go_enter Try.func4, Try.ntmps4
  go_wp2_with fail
  refine H.out.1.mono ?_
  rintro e w1 ⟨ao, acap, ys, rfl, hyc, hy8, hysz, hys, hb1⟩
  have hf2 := few_any (lcap := mcap) (H.out.2.1.below hb1) (fun _ h => Nat.lt_of_lt_of_le h hb1.size) H.out.2.2.2
  have hs1 := hb1.size
  have H1 := Lib.hid (And.intro hf2 (And.intro hysz (And.intro hys (And.intro hb1 hyc))))
  clear hf2 hysz hys hb1 hyc
  go_wp2_with fail
  refine H1.out.1.mono ?_
  rintro e w2 ⟨bo, bcap, zs, rfl, hzc, hz8, hzsz, hzs, hb2⟩
  have hs2 := hb2.size
  obtain ⟨L, hL⟩ : ∃ L, w2.alloc (.cells #[] 37) = L := ⟨_, rfl⟩
  have H2 := Lib.hid (And.intro hzsz (And.intro ((H1.out.2.2.1.below hb2).mono (fun b hb => (show W.heap.size ≤ b ∧ b < w2.heap.size from ⟨hb.1, by have := hb.2; omega⟩))) (And.intro (hzs.mono (fun b hb => (show W.heap.size ≤ b ∧ b < w2.heap.size from ⟨by have := hb.1; omega, hb.2⟩))) (And.intro (H1.out.2.2.2.1.trans (hb2.mono hs1)) hzc))))
  clear hzsz hzs hzc hb2
  go_upto_region 2 with (fail)
  obtain ⟨i0, hi0, hz0, hz1', hz2'⟩ := info_parts infoRP
  have hLs : L.heap.size = w2.heap.size + 1 := by rw [← hL]; simp
  have hLb : Below w2.heap.size w2 L := by rw [← hL]; exact (Below.refl _ _).alloc (Nat.le_refl _) _
  have hLo : OwnL 37 4 (VP (n + 1)) L w2.heap.size (fun b => W.heap.size ≤ b ∧ b < w2.heap.size) (some ⟨w2.heap.size, 0, none⟩) 0 [] := by rw [← hL]; exact OwnL.lit w2 _ (fun j hj => hj.2)
  have HL := Lib.hid (And.intro hLs (And.intro hLb (And.intro hLo hL)))
  clear hLs hLb hLo hL
  go_wp2_with (first | (at_builtin; rw [HL.out.2.2.2]; refine app_ownm (elemV (n + 1)) (by decide) rfl _ _ 22 rfl i0 _ 56 Try.underlying22 hi0 hz0 hz1' hz2' rfl (by decide) w2.heap.size (fun b => W.heap.size ≤ b ∧ b < w2.heap.size) (some ⟨w2.heap.size, 0, none⟩) 0 0 [] rfl rfl HL.out.2.2.1 ao acap ys.length ys rfl rfl (InL.below (elemV _) H2.out.2.1 HL.out.2.1) (fun j hj => by have := hj.2; have := HL.out.1; omega) (by omega) (by have := HL.out.1; omega) ?_; rintro ao3 cap3 w3 q1 q2 q3; rw [List.nil_append] at q1; have hs3 := q2.size; have h3b : Below w2.heap.size w2 w3 := (HL.out.2.1).trans (q2.below (fun b hb h => by simp [blk] at h; omega) (by have := HL.out.1; omega)); have HQ3 := Lib.hid (And.intro q1 h3b); clear q1 q2 q3 h3b; obtain ⟨wa, hwa⟩ : ∃ wa, w3.alloc (.cells #[.int .i64 1, .int .i64 0, .string ⟨#[120]⟩, .slice none 0 0] 37) = wa := ⟨_, rfl⟩; have hba : Below w3.heap.size w3 wa := (by rw [← hwa]; exact (Below.refl _ _).alloc (Nat.le_refl _) _); have hata : At wa (some ⟨w3.heap.size, 0, none⟩) [.int .i64 1, .int .i64 0, .string ⟨#[120]⟩, .slice none 0 0] := (by rw [← hwa]; exact At.new w3 #[.int .i64 1, .int .i64 0, .string ⟨#[120]⟩, .slice none 0 0] _); have hsa := hba.size; have HWA := Lib.hid (And.intro hba (And.intro hata hwa)); clear hba hata hwa) | (at_builtin; rw [HWA.out.2.2]; refine app_own (elemV (n + 1)) (by decide) rfl _ _ 22 rfl i0 _ 56 Try.underlying22 hi0 hz0 hz1' hz2' rfl (by decide) w2.heap.size (fun b => W.heap.size ≤ b ∧ b < w2.heap.size) ao3 cap3 _ ys (by simp) rfl (HQ3.out.1.below (elemV _) HWA.out.1) [.int .i64 1, .int .i64 0, .string ⟨#[120]⟩, .slice none 0 0] anyX (anyX_in _ _ _) w3.heap.size rfl HWA.out.2.1 (fun j hj => by have := hj.2; have := HQ3.out.2.size; omega) (by omega) (by have := HQ3.out.2.size; omega) ?_; rintro ao4 cap4 w4 p1 p2 p3; have hs4 := p2.size; have h4b : Below w2.heap.size w2 w4 := HQ3.out.2.trans ((HWA.out.1.mono HQ3.out.2.size).trans (p2.below (fun b hb h => by have := (HQ3.out.1.lt b h).1; omega) (by have := HQ3.out.2.size; omega))); have HQ4 := Lib.hid (And.intro p1 h4b); clear p1 p2 p3 h4b) | (at_builtin; refine app_ownm (elemV (n + 1)) (by decide) rfl _ _ 22 rfl i0 _ 56 Try.underlying22 hi0 hz0 hz1' hz2' rfl (by decide) w2.heap.size (fun b => W.heap.size ≤ b ∧ b < w2.heap.size) ao4 cap4 _ (ys ++ [anyX]) (by simp) rfl HQ4.out.1 bo bcap zs.length zs rfl rfl (InL.below (elemV _) H2.out.2.2.1 HQ4.out.2) (fun j hj => by have := hj.2; have := HQ4.out.2.size; omega) (by omega) (by have := HQ4.out.2.size; omega) ?_; rintro ao5 cap5 w5 r1 r2 r3; have hs5 := r2.size; have h5b : Below w2.heap.size w2 w5 := HQ4.out.2.trans (r2.below (fun b hb h => by have := (HQ4.out.1.lt b h).1; omega) (by have := HQ4.out.2.size; omega)); have HQ5 := Lib.hid (And.intro r1 h5b); clear r1 r2 r3 h5b))
  obtain ⟨A1, hA1⟩ : ∃ A1, ys ++ [anyX] ++ zs = A1 := ⟨_, rfl⟩
  have hA1l : A1.length = ys.length + 1 + zs.length := by rw [← hA1, List.length_append, List.length_append, List.length_singleton]
  have hA1s : ∀ p ∈ A1, sizeV p ≤ 30 := by
    intro p hp
    rw [← hA1] at hp
    rcases List.mem_append.1 hp with hp | hp
    · rcases List.mem_append.1 hp with hp | hp
      · have := H1.out.2.1 p hp; omega
      · rw [List.mem_singleton.1 hp]; simp [anyX, sizeV, sizeVs]
    · have := H2.out.1 p hp; omega
  have hA1v : VsIn w5 _ (n + 1) ao5 (ys ++ [anyX] ++ zs) := HQ5.out.1.inl (elemV _) (by decide)
  rw [hA1] at hA1v
  have htr1 := tree_any (lcap := cap5) hA1v (fun b hb => by
    rcases hb with hb | hb
    · have := hb.2; have := HQ5.out.2.size; omega
    · exact (HQ5.out.1.lt b hb).2) (by omega) (fun p hp => by have := hA1s p hp; omega)
  rw [hA1l] at htr1
  have HT1 := Lib.hid (And.intro htr1 (And.intro hA1 (And.intro hA1l hA1s)))
  clear hA1 hA1l hA1s hA1v htr1
  refine HT1.out.1.mono ?_
  rintro e w6 ⟨hb6, k1, num1, po1, to1, ko1, pn1, pc1, tn1, tc1, kn1, kc1, ok1, fine1, rfl, hok1⟩
  have hs6 := hb6.size
  have HT6 := Lib.hid (And.intro hb6 hok1)
  clear hb6 hok1
  go_upto_region 4 with (fail)
  obtain ⟨w7, hw7⟩ : ∃ w7, w6.alloc (.cells #[.bool k1, .int .i64 num1, .slice po1 pn1 pc1, .slice to1 tn1 tc1, .slice ko1 kn1 kc1] 29) = w7 := ⟨_, rfl⟩
  have hb67 : Below w6.heap.size w6 w7 := by rw [← hw7]; exact (Below.refl _ _).alloc (Nat.le_refl _) _
  have hT7 : TreeAt w7 w6.heap.size (.bool k1) (.int .i64 num1) (.slice po1 pn1 pc1) (.slice to1 tn1 tc1) (.slice ko1 kn1 kc1) := by rw [← hw7]; exact heap_alloc_new w6 _
  rw [hw7]
  clear hw7
  have hs67 := hb67.size
  have h27 : Below w2.heap.size w2 w7 := HQ5.out.2.trans ((HT6.out.1.trans (hb67.mono hs6)).mono HQ5.out.2.size)
  obtain ⟨M, hM⟩ : ∃ M, w7.alloc (.cells #[] 37) = M := ⟨_, rfl⟩
  have hMs : M.heap.size = w7.heap.size + 1 := by rw [← hM]; simp
  have hMb : Below w7.heap.size w7 M := by rw [← hM]; exact (Below.refl _ _).alloc (Nat.le_refl _) _
  have hMo : OwnL 37 4 (VP (n + 1)) M w7.heap.size (fun b => W.heap.size ≤ b ∧ b < w2.heap.size) (some ⟨w7.heap.size, 0, none⟩) 0 [] := by rw [← hM]; exact OwnL.lit w7 _ (fun j hj => by have := hj.2; have := h27.size; omega)
  have H7 := Lib.hid (And.intro hMs (And.intro hMb (And.intro hMo (And.intro hM (And.intro hT7 (And.intro hb67 (And.intro h27 (h27.trans (hMb.mono h27.size)))))))))
  clear hMs hMb hMo hM hT7 hb67 h27
  go_wp2_with (first | (at_builtin; rw [H7.out.2.2.2.1]; refine app_ownm (elemV (n + 1)) (by decide) rfl _ _ 22 rfl i0 _ 56 Try.underlying22 hi0 hz0 hz1' hz2' rfl (by decide) w7.heap.size (fun b => W.heap.size ≤ b ∧ b < w2.heap.size) (some ⟨w7.heap.size, 0, none⟩) 0 0 [] rfl rfl H7.out.2.2.1 ao acap ys.length ys rfl rfl (InL.below (elemV _) H2.out.2.1 H7.out.2.2.2.2.2.2.2) (fun j hj => by have := hj.2; have := H7.out.2.2.2.2.2.2.2.size; omega) (by omega) (by have := H7.out.1; omega) ?_; rintro ao8 cap8 w8 q1 q2 q3; rw [List.nil_append] at q1; have hs8 := q2.size; have h8b : Below w7.heap.size w7 w8 := (H7.out.2.1).trans (q2.below (fun b hb h => by simp [blk] at h; omega) (by have := H7.out.1; omega)); have HQ8 := Lib.hid (And.intro q1 h8b); clear q1 q2 q3 h8b) | (at_builtin; refine app_ownm (elemV (n + 1)) (by decide) rfl _ _ 22 rfl i0 _ 56 Try.underlying22 hi0 hz0 hz1' hz2' rfl (by decide) w7.heap.size (fun b => W.heap.size ≤ b ∧ b < w2.heap.size) ao8 cap8 _ ys (by simp) rfl HQ8.out.1 ao acap ys.length ys rfl rfl (InL.below (elemV _) H2.out.2.1 (H7.out.2.2.2.2.2.2.1.trans (HQ8.out.2.mono H7.out.2.2.2.2.2.2.1.size))) (fun j hj => by have := hj.2; have := HQ8.out.2.size; have := H7.out.2.2.2.2.2.2.1.size; omega) (by omega) (by have := HQ8.out.2.size; omega) ?_; rintro ao9 cap9 w9 r1 r2 r3; have hs9 := r2.size; have h9b : Below w7.heap.size w7 w9 := HQ8.out.2.trans (r2.below (fun b hb h => by have := (HQ8.out.1.lt b h).1; omega) (by have := HQ8.out.2.size; omega)); have HQ9 := Lib.hid (And.intro r1 h9b); clear r1 r2 r3 h9b))
  obtain ⟨A2, hA2⟩ : ∃ A2, ys ++ ys = A2 := ⟨_, rfl⟩
  have hA2l : A2.length = ys.length + ys.length := by rw [← hA2, List.length_append]
  have hA2s : ∀ p ∈ A2, sizeV p ≤ 30 := by
    intro p hp
    rw [← hA2] at hp
    rcases List.mem_append.1 hp with hp | hp
    · exact H1.out.2.1 p hp
    · exact H1.out.2.1 p hp
  have hA2v : VsIn w9 _ (n + 1) ao9 (ys ++ ys) := HQ9.out.1.inl (elemV _) (by decide)
  rw [hA2] at hA2v
  have htr2 := tree_any (lcap := cap9) hA2v (fun b hb => by
    rcases hb with hb | hb
    · have := hb.2; have := HQ9.out.2.size; have := H7.out.2.2.2.2.2.2.1.size; omega
    · exact (HQ9.out.1.lt b hb).2) (by omega) (fun p hp => by have := hA2s p hp; omega)
  rw [hA2l] at htr2
  have HT2 := Lib.hid (And.intro htr2 (And.intro hA2 (And.intro hA2l hA2s)))
  clear hA2 hA2l hA2s hA2v htr2
  refine HT2.out.1.mono ?_
  rintro e w10 ⟨hb10, k2, num2, po2, to2, ko2, pn2, pc2, tn2, tc2, kn2, kc2, ok2, fine2, rfl, hok2⟩
  have hs10 := hb10.size
  have HT10 := Lib.hid (And.intro hb10 hok2)
  clear hb10 hok2
  go_upto_region 5 with (fail)
  obtain ⟨w11, hw11⟩ : ∃ w11, w10.alloc (.cells #[.bool k2, .int .i64 num2, .slice po2 pn2 pc2, .slice to2 tn2 tc2, .slice ko2 kn2 kc2] 29) = w11 := ⟨_, rfl⟩
  have hb1011 : Below w10.heap.size w10 w11 := by rw [← hw11]; exact (Below.refl _ _).alloc (Nat.le_refl _) _
  have hT11 : TreeAt w11 w10.heap.size (.bool k2) (.int .i64 num2) (.slice po2 pn2 pc2) (.slice to2 tn2 tc2) (.slice ko2 kn2 kc2) := by rw [← hw11]; exact heap_alloc_new w10 _
  rw [hw11]
  clear hw11
  have hs1011 := hb1011.size
  have h711 : Below w7.heap.size w7 w11 := HQ9.out.2.trans ((HT10.out.1.trans (hb1011.mono hs10)).mono HQ9.out.2.size)
  have hW11 : Below W.heap.size W w11 := H2.out.2.2.2.1.trans ((H7.out.2.2.2.2.2.2.1.trans (h711.mono H7.out.2.2.2.2.2.2.1.size)).mono (by omega))
  have H11 := Lib.hid (And.intro h711 (And.intro hW11 (And.intro hT11 hb1011)))
  clear hb1011 hT11 h711 hW11
  by_cases hok : ok1 = true ∧ ok2 = true
  · obtain ⟨rfl, rfl⟩ := hok
    go_wp2_with fail
    refine (matches_any _).mono ?_
    rintro e w12 ⟨rfl, hb12⟩
    have hs12 := hb12.size
    have H12 := Lib.hid hb12
    clear hb12
    go_wp2_with fail
    obtain ⟨W8, hW8⟩ : ∃ W8, w12 = W8 := ⟨_, rfl⟩
    rw [hW8] at H12 hs12 ⊢
    clear hW8
    have hr1 := HT6.out.2 (by trivial)
    have hr2 := HT10.out.2 (by trivial)
    have h68 : Below w6.heap.size w6 W8 := H7.out.2.2.2.2.2.1.trans ((H11.out.1.trans (H12.out.mono H11.out.1.size)).mono hs67)
    have h108 : Below w10.heap.size w10 W8 := H11.out.2.2.2.trans (H12.out.mono hs1011)
    have hW8b : Below W.heap.size W W8 := H11.out.2.1.trans (H12.out.mono H11.out.2.1.size)
    have h78 : Below w7.heap.size w7 W8 := H11.out.1.trans (H12.out.mono H11.out.1.size)
    have h118 : Below w11.heap.size w11 W8 := H12.out
    have HM := Lib.hid (And.intro hr1.1 (And.intro (hr1.2.below' h68 rfl) (And.intro hr2.1 (And.intro (hr2.2.below' h108 rfl) (And.intro (H7.out.2.2.2.2.1.keeps (Keeps.of_below (X := fun _ => False) h78) (fun h => h)) (And.intro (H11.out.2.2.1.keeps (Keeps.of_below (X := fun _ => False) h118) (fun h => h)) (And.intro hW8b (And.intro (H.out.2.2.1.below hW8b) (And.intro h68.size h108.size)))))))))
    clear hr1 hr2 h68 h108 hW8b h78 h118
    go_loopw [14] (fun v14 wr => ∃ i : Nat, i ≤ vals.length ∧ i ≤ 8 ∧ v14 = .int .i64 (i : Int) ∧ Below W8.heap.size W8 wr) (fun v14 _ => 8 - (intOf v14).toNat)
    case atStart => exact ⟨0, by omega, by omega, rfl, Below.refl _ _⟩
    case round =>
      obtain ⟨i, hi, hi8, rfl, hbr⟩ := hrel
      have hsr := hbr.size
      have HO := Lib.hid hbr
      clear hbr
      by_cases hil : i < vals.length
      · have hd1 : decide ((i : Int) < (vals.length : Int)) = true := decide_eq_true (by omega)
        by_cases h8 : i < 8
        · have hd8 : decide ((i : Int) < 8) = true := decide_eq_true (by omega)
          have hilz : (i : Int) < (vals.length : Int) := by omega
          obtain ⟨b, o, kv, mv, tv, kao, kks, kcap, rfl, hx, hv, c0, c1, c2, c3, hblt⟩ := (HM.out.2.2.2.2.2.2.2.1.below HO.out).cells i hil
          have ht := vtame_any _ _ wr _ _ hv (fun b hb => by have := HM.out.2.2.2.2.2.2.1.size; omega) 8 60 (by omega) (by omega) (by omega) (by omega)
          have HT := Lib.hid ht
          clear ht hv hx
          go_wp2_with fail
          refine HT.out.mono ?_
          rintro e w14 ⟨cs', y, z2, rfl, hz2, hy, hb14⟩
          obtain ⟨ky, my, ty, kys⟩ := y
          obtain ⟨yo, ycap, hyv, hycs, _⟩ := hy.val
          rw [hyv]
          rw [hycs] at hy
          unfold patV
          have hs14 := hb14.size
          obtain ⟨wa, hwa⟩ : ∃ wa, w14.alloc (.cells #[.int .i64 ky, .int .i64 my, .string ⟨ty.toArray⟩, .slice yo kys.length ycap] 34) = wa := ⟨_, rfl⟩
          have hba : Below w14.heap.size w14 wa := by rw [← hwa]; exact (Below.refl _ _).alloc (Nat.le_refl _) _
          have hya : Row4 wa w14.heap.size 34 ky my ty yo kys.length ycap := by rw [← hwa]; exact heap_alloc_new w14 _
          have hsa := hba.size
          have hra : Below W8.heap.size W8 wa := HO.out.trans ((hb14.trans (hba.mono hs14)).mono hsr)
          have hvy := (hy.below hba).mono (fun b hb => (show b < w14.heap.size from hb.2))
          have hT1 := HM.out.2.2.2.2.1.keeps (Keeps.of_below (X := fun _ => False) hra) (fun h => h)
          have hT2 := HM.out.2.2.2.2.2.1.keeps (Keeps.of_below (X := fun _ => False) hra) (fun h => h)
          have hN1 := steps_bound A1 (by rw [HT1.out.2.2.1]; omega) HT1.out.2.2.2
          have hN2 := steps_bound A2 (by rw [HT2.out.2.2.1]; omega) HT2.out.2.2.2
          have hszy : sizeV (.mk ky my ty kys) ≤ 900000 := by omega
          have hrun1 := run_any (rows := initR 0 A1) (N := stepsM A1) (HM.out.2.1.below' hra rfl) (fun b hb => by have := HM.out.2.2.2.2.2.2.2.2.1; omega) hvy (fun b hb => by omega) (RunI.first (by unfold stepsM; omega) (inv_init _ (rightPs_get HM.out.1))) hN1 hszy
          obtain ⟨x0, x1, x2, x3, x4, -⟩ := hT1.cells
          obtain ⟨u0, u1, u2, u3⟩ := hya.pat
          have HA := Lib.hid (And.intro hrun1 (And.intro hra (And.intro hvy (And.intro hya (And.intro hT2 (And.intro hN2 (And.intro hszy hwa)))))))
          clear hrun1 hra hvy hya hT1 hT2 hN1 hN2 hszy hwa hba hb14 hy hyv hycs hz2 c0 c1 c2 c3
          go_upto_region 11 with (fail)
          rw [HA.out.2.2.2.2.2.2.2]
          go_wp2_with fail
          refine HA.out.1.mono ?_
          rintro e w15 ⟨hb15, asked1, q1o, q1c, rfl, -⟩
          have hs15 := hb15.size
          have hT2 := HA.out.2.2.2.2.1.keeps (Keeps.of_below (X := fun _ => False) hb15) (fun h => h)
          have hya := HA.out.2.2.2.1.keeps (Keeps.of_below (X := fun _ => False) hb15) (fun h => h)
          have hr15 : Below W8.heap.size W8 w15 := HA.out.2.1.trans (hb15.mono (by omega))
          have hrun2 := run_any (rows := initR 0 A2) (N := stepsM A2) (HM.out.2.2.2.1.below' hr15 rfl) (fun b hb => by have := HM.out.2.2.2.2.2.2.2.2.2; omega) (HA.out.2.2.1.below hb15) (fun b hb => by omega) (RunI.first (by unfold stepsM; omega) (inv_init _ (rightPs_get HM.out.2.2.1))) HA.out.2.2.2.2.2.1 HA.out.2.2.2.2.2.2.1
          obtain ⟨x0, x1, x2, x3, x4, -⟩ := hT2.cells
          obtain ⟨u0, u1, u2, u3⟩ := hya.pat
          have hlaw := more_first (.mk ky my ty kys) ys zs anyX rfl
          rw [HT1.out.2.1, HT2.out.2.1] at hlaw
          obtain ⟨K, hK⟩ : ∃ K, firstR (.mk ky my ty kys) (initR 0 A1) = K := ⟨_, rfl⟩
          rw [hK] at hlaw ⊢
          have HB := Lib.hid (And.intro hrun2 (And.intro hr15 hlaw))
          clear hrun2 hr15 hlaw hK hT2 hya hb15
          go_wp2_with fail
          refine HB.out.1.mono ?_
          rintro e w16 ⟨hb16, asked2, q2o, q2c, rfl, -⟩
          have hlaw := HB.out.2.2
          obtain ⟨M2, hM2⟩ : ∃ M2, firstR (.mk ky my ty kys) (initR 0 A2) = M2 := ⟨_, rfl⟩
          rw [hM2] at hlaw ⊢
          have H16 := Lib.hid (HB.out.2.1.trans (hb16.mono (by have := HB.out.2.1.size; omega)))
          clear hM2 hb16
          obtain ⟨⟨hk0, hkL⟩, hmL, hiff, himp⟩ := hlaw
          have d1 : decide (K < 0) = false := decide_eq_false (by omega)
          have d2 : decide ((ys.length : Int) < K) = false := decide_eq_false (by omega)
          have d3 : decide ((ys.length : Int) ≤ M2) = false := decide_eq_false (by omega)
          by_cases hm : M2 < 0
          · have hKL := hiff.1 hm
            subst hKL
            have d4 : decide (M2 < 0) = true := decide_eq_true hm
            have d5 : decide (0 ≤ M2) = false := decide_eq_false (by omega)
            clear hiff himp hk0 hkL hmL hm
            go_wp2_with fail
            go_roundw
            case rel => exact ⟨i + 1, by omega, by omega, by simp, H16.out⟩
            case measure => simp [intOf]; omega
          · have hMK := himp (by omega)
            subst hMK
            have d4 : decide (M2 < 0) = false := decide_eq_false hm
            have d5 : decide (0 ≤ M2) = true := decide_eq_true (by omega)
            have d6 : decide (M2 = (ys.length : Int)) = false := decide_eq_false (by omega)
            have d7 : (M2 == (ys.length : Int)) = false := by rw [beq_eq_false_iff_ne]; omega
            clear hiff himp hk0 hkL hmL hm
            go_wp2_with fail
            go_roundw
            case rel => exact ⟨i + 1, by omega, by omega, by simp, H16.out⟩
            case measure => simp [intOf]; omega
        · obtain rfl : i = 8 := by omega
          have hd8 : decide (((8 : Nat) : Int) < 8) = false := decide_eq_false (by omega)
          go_wp2_with fail
          go_ret
          exact ⟨rfl, HM.out.2.2.2.2.2.2.1.trans (HO.out.mono HM.out.2.2.2.2.2.2.1.size)⟩
      · have hd1 : decide ((i : Int) < (vals.length : Int)) = false := decide_eq_false (by omega)
        go_wp2_with fail
        go_ret
        exact ⟨rfl, HM.out.2.2.2.2.2.2.1.trans (HO.out.mono HM.out.2.2.2.2.2.2.1.size)⟩
  · cases ok1
    · go_wp2_with fail
      refine (matches_any _).mono ?_
      rintro e w12 ⟨rfl, hb12⟩
      have hs12 := hb12.size
      have H12 := Lib.hid hb12
      clear hb12
      go_wp2_with fail
      refine (matches_any _).mono ?_
      rintro e w13 ⟨rfl, hb13⟩
      have H13 := Lib.hid hb13
      clear hb13
      go_wp2_with fail
      go_ret
      exact ⟨rfl, (H11.out.2.1.trans (H12.out.mono H11.out.2.1.size)).trans (H13.out.mono (by have := H11.out.2.1.size; omega))⟩
    · obtain rfl : ok2 = false := by simpa using hok
      go_wp2_with fail
      refine (matches_any _).mono ?_
      rintro e w12 ⟨rfl, hb12⟩
      have hs12 := hb12.size
      have H12 := Lib.hid hb12
      clear hb12
      go_wp2_with fail
      refine (matches_any _).mono ?_
      rintro e w13 ⟨rfl, hb13⟩
      have H13 := Lib.hid hb13
      clear hb13
      go_wp2_with fail
      go_ret
      exact ⟨rfl, (H11.out.2.1.trans (H12.out.mono H11.out.2.1.size)).trans (H13.out.mono (by have := H11.out.2.1.size; omega))⟩

set_option maxRecDepth 100000 in
theorem lifted (os : Os) (started : os.Started) (H : Type) (enc : TypeId × Value → H) :
    ReturnsInHanded {} Try.checked os 4 .any (Rows.matchMoreSpec.pre6 enc Try.prog Try.f4 Rows.matchMoreRow.domain false) (Rows.matchMoreSpec.post enc Try.prog Try.f4 false true false false) := by
  refine returnsInHanded_of_change (C := Try.checked) own started (by kernel_rfl) Try.func4
    (ChangeSpec.witness6 (enc := enc) (C := Try.checked) false ⟨#[], #[.slice none 0 0, .slice none 0 0, .slice none 0 0], []⟩ 8 (by kernel_rfl) (by kernel_rfl) (by kernel_rfl) (by kernel_rfl)) ?_
  intro W base args ds gs before hval0 hW hcnd _
  have hval : ∀ (j : Nat) t v, Try.f4.params[j]? = some t → args[j]? = some v → Value.okWide Try.prog W .any base t v := hval0
  have hW' := hW
  obtain ⟨p, q, hA0, hV, rfl, hfz, hnd⟩ := hW
  have hA : DataW.TrodAll enc Try.prog W 0 (fun _ => true) true Try.f4.params.toList args.toList ds p := hA0
  rw [Try.params4] at hA hval
  obtain ⟨v0, v1, v2, d0, d1, d2, p0, p1, p2, rfl, rfl, rfl, h0, h1, h2⟩ := trodAll_three hA
  obtain ⟨rfl, rfl⟩ := trodVars_none hV
  obtain ⟨lo, lcap, N0, ps, rfl, hl0, hv0⟩ := open_vs Try.underlying22 Try.underlying37 (by kernel_rfl) Try.underlying3 Try.underlying9 Try.underlying22 (by kernel_rfl) (by kernel_rfl) (by kernel_rfl) (by kernel_rfl) (hval 0 22 v0 rfl rfl) h0
  obtain ⟨mo, mcap, N1, ms, rfl, hl1, hv1⟩ := open_vs Try.underlying22 Try.underlying37 (by kernel_rfl) Try.underlying3 Try.underlying9 Try.underlying22 (by kernel_rfl) (by kernel_rfl) (by kernel_rfl) (by kernel_rfl) (hval 1 22 v1 rfl rfl) h1
  obtain ⟨vo, vcap, N2, vals, rfl, hl2, hv2⟩ := open_vs Try.underlying23 Try.underlying34 (by kernel_rfl) Try.underlying3 Try.underlying9 Try.underlying23 (by kernel_rfl) (by kernel_rfl) (by kernel_rfl) (by kernel_rfl) (hval 2 23 v2 rfl rfl) h2
  refine (walk (N0 + N1 + N2) lo mo vo lcap mcap vcap ps ms vals W (hv0.deep (by omega)) (hv1.deep (by omega)) (hv2.deep (by omega)) hl0 hl1 hl2).mono fun e W' ⟨he, hb⟩ => ?_
  subst he
  exact ⟨_, rfl, post_law laidOut rfl rfl Try.underlying4 readable rfl rfl rfl hW' hb⟩

theorem proved : Rows.MatchMoreSaid :=
  OpenClaim.holds_of_wide 4 Try.f4 rfl rfl rfl rfl rfl rfl rfl ⟨rfl, rfl, rfl, rfl, rfl⟩ rfl rfl rfl rfl rfl (by kernel_rfl) Try.func4 (by kernel_rfl)
    (of_decide_eq_true (by kernel_rfl)) (by unfold Func.isWrapper; first | (rw [if_pos (by decide +kernel)]; kernel_rfl) | (rw [if_neg (by decide +kernel)]; exact ⟨rfl, rfl⟩))
    (fun os started H enc _ => lifted os started H enc)
end Go.Proofs.Ytnhdefaagicejaa.matchMore
