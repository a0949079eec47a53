/- THE LAW MatchOnce: no place is asked twice of one value; each that is asked is there. -/
import Derived.Test.YtnhdefaagicejaaRows
import Derived.Test.YtnhdefaagicejaaMatI
import Derived.Test.YtnhdefaagicejaaMatE
import Derived.Test.YtnhdefaagicejaaLaw
namespace Go.Proofs.Ytnhdefaagicejaa.matchOnce
set_option linter.unusedSimpArgs false
set_option linter.unusedVariables false
open Go.ChangeShapes Go.WideShapes Go.ChangeAt Go.RowKit

theorem own : ownKnob Try.prog.godebug = none := by kernel_rfl
theorem laidOut : laidOutB Try.prog = true := by kernel_rfl
theorem readable : ∀ t ∈ Try.f3.params.toList, Try.prog.readableRec t = true ∧ t < Try.prog.types.size := by
  rw [Try.params3]
  intro t ht
  simp at ht
  rcases ht with rfl | rfl
  · exact ⟨by kernel_rfl, of_decide_eq_true (by kernel_rfl)⟩
  · exact ⟨by kernel_rfl, of_decide_eq_true (by kernel_rfl)⟩

theorem sizeVs_bound (B : Nat) : ∀ l : List PV, (∀ y ∈ l, sizeV y ≤ B) → sizeVs l ≤ l.length * B
  | [], _ => by simp [sizeVs]
  | x :: xs, h => by
    have h1 := h x (by simp)
    have h2 := sizeVs_bound B xs (fun y hy => h y (by simp [hy]))
    rw [sizeVs, List.length_cons, Nat.succ_mul]
    omega
theorem steps_bound (l : List PV) (hl : l.length ≤ 20) (h : ∀ y ∈ l, sizeV y ≤ 30) : stepsM l ≤ 1000000 := by
  have h1 := initR_meas l 0
  have h2 := sizeVs_bound 30 l h
  have h3 : l.length * 30 ≤ 20 * 30 := Nat.mul_le_mul hl (Nat.le_refl _)
  unfold stepsM
  omega
/-- One place of those that were asked, where it lies. -/
theorem asked_at {w : World} {D : Nat → Prop} {ao : Option Addr} {asked : List (List Nat)} (h : InL 1 PathE w D ao asked) (a : Nat) (ha : a < asked.length) :
    ∃ b o po pc, ao = some ⟨b, o, none⟩ ∧ w.cell? ⟨b, o + a, none⟩ = some (.slice po asked[a].length pc) ∧ PathIn w D (.slice po asked[a].length pc) asked[a] ∧ asked[a].length ≤ 9223372036854775807 ∧ b < w.heap.size := by
  obtain ⟨b, o, cs, rfl, ⟨v, rfl, hp⟩, hc, _, hlt⟩ := h.get elemP (by decide) a ha
  obtain ⟨po, pc, rfl, h1, h2, _⟩ := id hp
  have := hc 0 _ rfl
  rw [Nat.mul_one, Nat.add_zero] at this
  exact ⟨b, o, po, pc, rfl, this, hp, by omega, hlt⟩
theorem seq_ldIs {o : Oper} {x : Operand} {a : Act} {w : World} (ho : o.op = .load 25 x) {ad : Addr} {v : Value} (hx : a.eval x = .pointer (some ad)) (hc : w.cell? ad = some v) :
    ∀ w', Below w.heap.size w w' → (execOp a.eval o).run Try.prog w' = .ok (.value v) w' := by
  intro w' hb
  have hc' : w'.cell? ad = some v := (World.cell?_of_block (hb.block ad.block (World.block_lt_of_cell? (a := ad) w hc))).trans hc
  have hu := Try.underlying25
  unfold execOp
  simp only [ho, hx]
  go_simp
set_option maxRecDepth 100000 in
set_option maxHeartbeats 16000000 in
theorem walk (n : Nat) (lo vo : Option Addr) (lcap vcap : Nat) (ps vals : List PV) (W : World) (hps : VsIn W (fun b => b < W.heap.size) (n + 1) lo ps) (hvs : VsIn W (fun b => b < W.heap.size) (n + 1) vo vals)
    (h1 : ps.length ≤ 9223372036854775807) (h3 : vals.length ≤ 9223372036854775807) :
    Calls Try.prog 3 #[.slice lo ps.length lcap, .slice vo vals.length vcap] W (fun e w' => e = .returned (.bool true) ∧ Below W.heap.size W w') := by
  have H := Lib.hid (And.intro (few_any (lcap := lcap) hps (fun _ h => h) h1) hvs)
  clear hps hvs h1
  go_enter Try.func3, Try.ntmps3
  go_wp2_with fail
  refine H.out.1.mono ?_
  rintro e w1 ⟨ao, acap, ys, rfl, hyc, hy8, hysz, hys, hb1⟩
  have hs1 := hb1.size
  have htr := tree_any (lcap := acap) hys (fun b hb => hb.2) (by omega) (fun p hp => by have := hysz p hp; omega)
  have H1 := Lib.hid (And.intro htr (And.intro hysz (And.intro hys (And.intro hb1 hyc))))
  clear htr hysz hys hb1 hyc
  go_wp2_with fail
  refine H1.out.1.mono ?_
  rintro e w6 ⟨hb6, k1, num1, po1, to1, ko1, pn1, pc1, tn1, tc1, kn1, kc1, ok1, fine1, rfl, hok1⟩
  have hs6 := hb6.size
  obtain ⟨w7, hw7⟩ : ∃ w7, w6.alloc (.cells #[.bool k1, .int .i64 num1, .slice po1 pn1 pc1, .slice to1 tn1 tc1, .slice ko1 kn1 kc1] 29) = w7 := ⟨_, rfl⟩
  have hb67 : Below w6.heap.size w6 w7 := by rw [← hw7]; exact (Below.refl _ _).alloc (Nat.le_refl _) _
  have hT7 : TreeAt w7 w6.heap.size (.bool k1) (.int .i64 num1) (.slice po1 pn1 pc1) (.slice to1 tn1 tc1) (.slice ko1 kn1 kc1) := by rw [← hw7]; exact heap_alloc_new w6 _
  have hs67 := hb67.size
  have hb17 : Below w1.heap.size w1 w7 := hb6.trans (hb67.mono hs6)
  have hbW7 : Below W.heap.size W w7 := H1.out.2.2.2.1.trans (hb17.mono hs1)
  have H7 := Lib.hid (And.intro hw7 (And.intro hb67 (And.intro hT7 (And.intro hb17 (And.intro hbW7 (And.intro hb6 hok1))))))
  clear hw7 hb67 hT7 hb17 hbW7 hb6 hok1
  go_upto_region 3 with (fail)
  rw [H7.out.1]
  cases ok1
  · go_wp2_with fail
    refine (matches_any _).mono ?_
    rintro e w12 ⟨rfl, hb12⟩
    have hs12 := hb12.size
    have H12 := Lib.hid hb12
    clear hb12
    go_wp2_with fail
    refine (matches_any _).mono ?_
    rintro e w13 ⟨rfl, hb13⟩
    have H13 := Lib.hid hb13
    clear hb13
    go_wp2_with fail
    go_ret
    have := H7.out.2.2.2.2.1.size
    exact ⟨rfl, (H7.out.2.2.2.2.1.trans (H12.out.mono this)).trans (H13.out.mono (by omega))⟩
  · go_wp2_with fail
    refine (matches_any _).mono ?_
    rintro e w12 ⟨rfl, hb12⟩
    have hs12 := hb12.size
    have hr1 := H7.out.2.2.2.2.2.2 (by trivial)
    have hb612 : Below w6.heap.size w6 w12 := H7.out.2.1.trans (hb12.mono hs67)
    have hbW12 : Below W.heap.size W w12 := H7.out.2.2.2.2.1.trans (hb12.mono H7.out.2.2.2.2.1.size)
    have hN := steps_bound ys (by omega) H1.out.2.1
    have HM := Lib.hid (And.intro hr1.1 (And.intro (hr1.2.below' hb612 rfl) (And.intro (H7.out.2.2.1.keeps (Keeps.of_below (X := fun _ => False) hb12) (fun h => h)) (And.intro hbW12 (And.intro (H.out.2.below hbW12) (And.intro (H1.out.2.2.1.below (H7.out.2.2.2.1.trans (hb12.mono H7.out.2.2.2.1.size))) (And.intro hN (And.intro hb612.size H1.out.2.1))))))))
    clear hr1 hb12 hb612 hbW12 hN
    have hs1_12 : w1.heap.size ≤ w12.heap.size := by omega
    go_wp2_with fail
    by_cases hsum : ys.length + vals.length ≤ 9223372036854775807
    · go_loopw [8] (fun v8 wr => ∃ i : Nat, i ≤ 16 ∧ v8 = .int .i64 (i : Int) ∧ Below w12.heap.size w12 wr) (fun v8 _ => 16 - (intOf v8).toNat)
      case atStart => exact ⟨0, by omega, rfl, Below.refl _ _⟩
      case round =>
        obtain ⟨i, hi16, rfl, hbr⟩ := hrel
        rename World => wo
        have hsr := hbr.size
        have HO := Lib.hid hbr
        clear hbr
        by_cases hil : i < ys.length + vals.length
        · have hd1 : decide ((i : Int) < (ys.length : Int) + (vals.length : Int)) = true := decide_eq_true (by omega)
          by_cases h16 : i < 16
          · have hd16 : decide ((i : Int) < 16) = true := decide_eq_true (by omega)
            go_upto_if 50 with (fail)
            obtain ⟨wv, hwv⟩ : ∃ wv, wo.alloc (.cells #[.int .i64 6, .int .i64 0, .string ⟨#[]⟩, .slice none 0 0] 34) = wv := ⟨_, rfl⟩
            have hbv : Below wo.heap.size wo wv := by rw [← hwv]; exact (Below.refl _ _).alloc (Nat.le_refl _) _
            have hrv : Row4 wv wo.heap.size 34 6 0 [] none 0 0 := by rw [← hwv]; exact heap_alloc_new wo _
            have hsv : wv.heap.size = wo.heap.size + 1 := by rw [← hwv]; simp
            rw [hwv]
            have HV := Lib.hid (And.intro hbv (And.intro hrv hsv))
            clear hwv hbv hrv hsv
            go_cut [] from 50 to 67 (fun w' => ∃ (ky my : Int) (ty : List UInt8) (yo : Option Addr) (kys : List PV) (ycap : Nat), Row4 w' wo.heap.size 34 ky my ty yo kys.length ycap ∧ VIn w' (fun b => wo.heap.size < b ∧ b < w'.heap.size) (n + 1) [.int .i64 ky, .int .i64 my, .string ⟨ty.toArray⟩, .slice yo kys.length ycap] (.mk ky my ty kys) ∧ sizeV (.mk ky my ty kys) ≤ 100000 ∧ Below wo.heap.size wo w')
            case first =>
              by_cases hiy : i < ys.length
              · have hdy : decide ((i : Int) < (ys.length : Int)) = true := decide_eq_true (by omega)
                have hiyz : (i : Int) < (ys.length : Int) := by omega
                have hbwv : Below w12.heap.size w12 wv := HO.out.trans (HV.out.1.mono hsr)
                obtain ⟨b, o, kv, mv, tv, kao, kks, kcap, rfl, hx, hv, c0, c1, c2, c3, hblt⟩ := (HM.out.2.2.2.2.2.1.below hbwv).cells i hiy
                have hf := fake_any _ _ (i : Int) wv _ _ hv (fun b hb => by have := hb.2; have := HV.out.2.2; omega) (by rw [← hx]; have := H1.out.2.1 _ (List.getElem_mem hiy); omega) (by rw [← hx]; exact rightPs_get HM.out.1 _ (List.getElem_mem hiy))
                have HF := Lib.hid (And.intro hf (by rw [← hx]; exact H1.out.2.1 _ (List.getElem_mem hiy) : sizeV (.mk kv mv tv kks) ≤ 30))
                clear hf hv hx hbwv
                go_wp2_with fail
                refine HF.out.1.mono ?_
                rintro e w2 ⟨cs', y, rfl, hysz, hy, hb2⟩
                obtain ⟨ky, my, ty, kys⟩ := y
                obtain ⟨yo, ycap, hyv, hycs, _⟩ := hy.val
                rw [hyv]
                rw [hycs] at hy
                unfold patV
                have hs2 := hb2.size
                have hr2 := HV.out.2.1.keeps (Keeps.of_below (X := fun _ => False) hb2) (fun h => h)
                obtain ⟨e0, e1, e2, e3⟩ := hr2.pat
                have hef := hr2.frozen
                have H2 := Lib.hid (And.intro hy (And.intro hysz (And.intro hb2 hr2)))
                clear hy hysz hb2 hr2 hyv hycs c0 c1 c2 c3
                go_wp2_with fail
                go_meet
                case rel =>
                  have hk4 := keep4 (X := fun b => b = wo.heap.size) w2 rfl (.int .i64 ky) (.int .i64 my) (.string ⟨ty.toArray⟩) (.slice yo kys.length ycap)
                  have hs4 := hk4.size
                  have hsv := HV.out.2.2
                  refine ⟨ky, my, ty, yo, kys, ycap, H2.out.2.2.2.put ky my ty yo kys.length ycap, (H2.out.1.keeps hk4 (fun b hb h => by have := hb.1; omega)).mono (fun b hb => ⟨by have := hb.1; omega, by have := hb.2; omega⟩), by have := H2.out.2.1; have := HF.out.2; omega, ?_⟩
                  exact HV.out.1.trans ((H2.out.2.2.1.mono (by omega)).trans (hk4.below (fun i hi h => by omega) (by omega)))
              · obtain ⟨j, rfl⟩ : ∃ j, i = ys.length + j := ⟨i - ys.length, by omega⟩
                have hdy : decide (((ys.length + j : Nat) : Int) < (ys.length : Int)) = false := decide_eq_false (by omega)
                have hjl : j < vals.length := by omega
                have hjlz : (j : Int) < (vals.length : Int) := by omega
                have hbwv : Below w12.heap.size w12 wv := HO.out.trans (HV.out.1.mono hsr)
                obtain ⟨b, o, kv, mv, tv, kao, kks, kcap, rfl, hx, hv, c0, c1, c2, c3, hblt⟩ := (HM.out.2.2.2.2.1.below hbwv).cells j hjl
                have ht := vtame_any _ _ wv _ _ hv (fun b hb => by have := HV.out.2.2; have := HM.out.2.2.2.1.size; omega) 8 60 (by omega) (by omega) (by omega) (by omega)
                have HF := Lib.hid ht
                clear ht hv hx hbwv
                go_wp2_with fail
                refine HF.out.mono ?_
                rintro e w2 ⟨cs', y, z2, rfl, hz2, hy, hb2⟩
                obtain ⟨ky, my, ty, kys⟩ := y
                obtain ⟨yo, ycap, hyv, hycs, _⟩ := hy.val
                rw [hyv]
                rw [hycs] at hy
                unfold patV
                have hs2 := hb2.size
                have hr2 := HV.out.2.1.keeps (Keeps.of_below (X := fun _ => False) hb2) (fun h => h)
                obtain ⟨e0, e1, e2, e3⟩ := hr2.pat
                have hef := hr2.frozen
                have H2 := Lib.hid (And.intro hy (And.intro hz2 (And.intro hb2 hr2)))
                clear hy hz2 hb2 hr2 hyv hycs c0 c1 c2 c3
                go_wp2_with fail
                go_meet
                case rel =>
                  have hk4 := keep4 (X := fun b => b = wo.heap.size) w2 rfl (.int .i64 ky) (.int .i64 my) (.string ⟨ty.toArray⟩) (.slice yo kys.length ycap)
                  have hs4 := hk4.size
                  have hsv := HV.out.2.2
                  refine ⟨ky, my, ty, yo, kys, ycap, H2.out.2.2.2.put ky my ty yo kys.length ycap, (H2.out.1.keeps hk4 (fun b hb h => by have := hb.1; omega)).mono (fun b hb => ⟨by have := hb.1; omega, by have := hb.2; omega⟩), by have := H2.out.2.1; omega, ?_⟩
                  exact HV.out.1.trans ((H2.out.2.2.1.mono (by omega)).trans (hk4.below (fun i hi h => by omega) (by omega)))
            case rest =>
              obtain ⟨ky, my, ty, yo, kys, ycap, hrc, hvc, hszc, hbc⟩ := hcut
              have hsc := hbc.size
              have h12c : Below w12.heap.size w12 wc := HO.out.trans (hbc.mono hsr)
              have hrun := run_any (rows := initR 0 ys) (N := stepsM ys) (HM.out.2.1.below' h12c rfl) (fun b hb => by have := HM.out.2.2.2.2.2.2.2.1; omega) hvc (fun b hb => hb.2) (RunI.first (by unfold stepsM; omega) (inv_init _ (rightPs_get HM.out.1))) HM.out.2.2.2.2.2.2.1 (by omega)
              obtain ⟨x0, x1, x2, x3, x4, -⟩ := (HM.out.2.2.1.keeps (Keeps.of_below (X := fun _ => False) h12c) (fun h => h)).cells
              obtain ⟨u0, u1, u2, u3⟩ := hrc.pat
              have HR := Lib.hid (And.intro hrun (And.intro hrc (And.intro hvc (And.intro hszc h12c))))
              clear hrun hrc hvc hszc h12c hbc HV
              go_wp2_with fail
              refine HR.out.1.mono ?_
              rintro e wx ⟨hbx, asked, qo, qcap, rfl, hqc, hask, hnd, hthere, haN⟩
              have hsx := hbx.size
              have hal : asked.length ≤ 1000000 := by have := HM.out.2.2.2.2.2.2.1; omega
              obtain ⟨num, hnum⟩ : ∃ num, firstR (.mk ky my ty kys) (initR 0 ys) = num := ⟨_, rfl⟩
              rw [hnum]
              have HX := Lib.hid (And.intro hask (And.intro hnd (And.intro hthere (And.intro (HR.out.2.1.keeps (Keeps.of_below (X := fun _ => False) hbx) (fun h => h)) (And.intro (HR.out.2.2.1.below hbx) (And.intro (HR.out.2.2.2.2.trans (hbx.mono (by omega))) HR.out.2.2.2.1))))))
              clear hask hnd hthere hbx hnum haN x0 x1 x2 x3 x4 u0 u1 u2 u3
              go_wp2_with fail
              go_loopw [12] (fun v12 wr => ∃ a : Nat, a ≤ asked.length ∧ v12 = .int .i64 (a : Int) ∧ Below wx.heap.size wx wr) (fun v12 _ => asked.length - (intOf v12).toNat)
              case atStart => exact ⟨0, by omega, rfl, Below.refl _ _⟩
              case round =>
                obtain ⟨a, ha, rfl, hbr⟩ := hrel
                rename World => wa
                have hsa := hbr.size
                have HA := Lib.hid hbr
                clear hbr
                by_cases hlt : a < asked.length
                · have hda : decide ((a : Int) < (asked.length : Int)) = true := decide_eq_true (by omega)
                  have haz : (a : Int) < (asked.length : Int) := by omega
                  go_upto_region 16 with (fail)
                  obtain ⟨qb, qof, po, pc, hqo, hqcell, hpth, hplen, hqlt⟩ := asked_at (HX.out.1.below elemP HA.out) a hlt
                  obtain ⟨path, hpath⟩ : ∃ path, asked[a] = path := ⟨_, rfl⟩
                  obtain ⟨ux, hux⟩ := HX.out.2.2.1 _ (List.getElem_mem hlt)
                  rw [hpath] at hqcell hpth hux hplen
                  have hpl : path.length ≤ 1000000 := by have := at_len path hux; have := HX.out.2.2.2.2.2.2; omega
                  have hrat : ∀ W', Below wa.heap.size wa W' → Calls Try.prog 11 #[.agg #[.int .i64 ky, .int .i64 my, .string ⟨ty.toArray⟩, .slice yo kys.length ycap], .slice po path.length pc] W' (VAts (n + 1) W' (fun b => wo.heap.size < b ∧ b < wc.heap.size) (.mk ky my ty kys) path) := fun W' hW' =>
                    rat_any ((HX.out.2.2.2.2.1.below HA.out).below hW') (fun b hb => by have := hb.2; have := hW'.size; omega) hpl (hpth.below hW')
                  have hrow := HX.out.2.2.2.1.keeps (Keeps.of_below (X := fun _ => False) HA.out) (fun h => h)
                  have HQ := Lib.hid (And.intro hrat (And.intro hrow.pat (And.intro hqcell (And.intro hux (And.intro hrow.lt hqlt)))))
                  have HPL := Lib.hid (And.intro hpath (And.intro hpth (And.intro hpl hplen)))
                  subst hqo
                  clear hrat hrow hqcell hux hpath hpth hqlt hpl hplen
                  go_cut [13, 14] from 80 to 88 (fun _ v14 w' => v14 = .bool true ∧ Below wa.heap.size wa w')
                  case first =>
                    refine seqx_start (fun b => wa.heap.size ≤ b) (by kernel_rfl) ?_
                    refine seqx_take 0 rfl (by kernel_rfl) (fun _ _ _ h => h) (by rfl) (fun w' hw' => (seq_ldVal rfl rfl ((show PatAt wa.drew wo.heap.size ky my ty yo kys.length ycap from HQ.out.2.1).keeps hw' (fun hx => by have := HQ.out.2.2.2.2.1; omega))) w' (Below.refl _ _)) ?_
                    unfold patV
                    try simp only [List.getElem_toArray, List.getElem_cons_succ, List.getElem_cons_zero, Act.put, List.setIfInBounds_toArray, List.set_cons_zero, List.set_cons_succ]
                    refine seqx_take 1 (v := ?_) rfl (by kernel_rfl) (fun _ _ _ h => h) (by rfl) (fun w' hw' => ?_) ?_
                    rotate_left
                    · go_simp; try with_reducible rfl
                    try simp only [List.getElem_toArray, List.getElem_cons_succ, List.getElem_cons_zero, Act.put, List.setIfInBounds_toArray, List.set_cons_zero, List.set_cons_succ]
                    refine seqx_take 2 (v := ?_) rfl (by kernel_rfl) (fun _ _ _ h => h) (by rfl) (fun w' hw' => ?_) ?_
                    rotate_left
                    · go_simp; try with_reducible rfl
                    try simp only [List.getElem_toArray, List.getElem_cons_succ, List.getElem_cons_zero, Act.put, List.setIfInBounds_toArray, List.set_cons_zero, List.set_cons_succ]
                    refine seqx_take 3 (v := ?_) rfl (by kernel_rfl) (fun _ _ _ h => h) (by rfl) (fun w' hw' => ?_) ?_
                    rotate_left
                    · go_simp; try with_reducible rfl
                    try simp only [List.getElem_toArray, List.getElem_cons_succ, List.getElem_cons_zero, Act.put, List.setIfInBounds_toArray, List.set_cons_zero, List.set_cons_succ]
                    refine seqx_take 4 rfl (by kernel_rfl) (fun _ _ _ h => h) (by rfl) (fun w' hw' => (seq_ldIs rfl rfl (keeps_cell hw' (by intro h; have := HQ.out.2.2.2.2.2; have h2 : wa.heap.size ≤ qb := h; omega) (HQ.out.2.2.1))) w' (Below.refl _ _)) ?_
                    try simp only [List.getElem_toArray, List.getElem_cons_succ, List.getElem_cons_zero, Act.put, List.setIfInBounds_toArray, List.set_cons_zero, List.set_cons_succ]
                    refine seqx_two 5 9 rfl rfl (by kernel_rfl) (by rfl) (by rfl) (fun KK hKK => ?_) (fun KK hKK => ?_)
                    · go_wp2_with fail
                      refine (HQ.out.1 _ (Below.refl _ wa).drew).mono ?_
                      rintro e w2 ⟨hb2, hres⟩
                      obtain ⟨u', ucs, rfl, hvu⟩ : ∃ u' ucs, e = .returned (.tuple #[.agg ucs.toArray, .bool true]) ∧ VIn w2 (fun b => wo.heap.size < b ∧ b < wc.heap.size) (n + 1) ucs u' := by
                        rcases hres with ⟨u', ucs, _, he, hvu⟩ | ⟨hno, _⟩
                        · exact ⟨u', ucs, he, hvu⟩
                        · rw [HQ.out.2.2.2.1] at hno
                          cases hno
                      obtain ⟨k4, m4, t4, ks4⟩ := u'
                      obtain ⟨uo, ucap, hpe, hucs, _⟩ := hvu.val
                      rw [hpe]
                      unfold patV
                      simp only [World.size_drew] at hb2
                      have hb2' : Below wa.heap.size wa w2 := (Below.refl _ wa).drew.trans hb2
                      have HK := Lib.hid (show Keeps (fun b => wa.heap.size ≤ b) wa.drew w2 from Keeps.of_below (by simpa using hb2))
                      have H2 := Lib.hid hb2'
                      clear hres hvu hpe hucs hb2 hb2'
                      go_wp2_with fail
                      refine ⟨HK.out, ?_⟩
                      refine seqx_take 6 (v := ?_) rfl (by kernel_rfl) (fun _ _ _ h => h) (by rfl) (fun w' hw' => ?_) ?_
                      rotate_left
                      · go_simp; try with_reducible rfl
                      try simp only [List.getElem_toArray, List.getElem_cons_succ, List.getElem_cons_zero, Act.put, List.setIfInBounds_toArray, List.set_cons_zero, List.set_cons_succ]
                      refine seqx_take 7 (v := ?_) rfl (by kernel_rfl) (fun _ _ _ h => h) (by rfl) (fun w' hw' => ?_) ?_
                      rotate_left
                      · go_simp; try with_reducible rfl
                      try simp only [List.getElem_toArray, List.getElem_cons_succ, List.getElem_cons_zero, Act.put, List.setIfInBounds_toArray, List.set_cons_zero, List.set_cons_succ]
                      refine seqx_take 8 (v := ?_) rfl (by kernel_rfl) (fun _ _ _ h => h) (by rfl) (fun w' hw' => ?_) ?_
                      rotate_left
                      · go_simp; try with_reducible rfl
                      try simp only [List.getElem_toArray, List.getElem_cons_succ, List.getElem_cons_zero, Act.put, List.setIfInBounds_toArray, List.set_cons_zero, List.set_cons_succ]
                      refine seqx_run 9 rfl (by kernel_rfl) (by rfl) (fun KK hKK => ?_)
                      go_wp2_with fail
                      refine ⟨Keeps.alloc _ _ _, ?_⟩
                      obtain ⟨w3, hw3⟩ : ∃ w3, w2.alloc (.cells #[.int .i64 0, .int .i64 0, .string ⟨#[]⟩, .slice none 0 0] 34) = w3 := ⟨_, rfl⟩
                      have hr3 : Row4 w3 w2.heap.size 34 0 0 [] none 0 0 := by rw [← hw3]; exact heap_alloc_new w2 _
                      have hb3 : Below wa.heap.size wa w3 := by rw [← hw3]; exact H2.out.alloc H2.out.size _
                      obtain ⟨e0, e1, e2, e3⟩ := hr3.pat
                      have hef := hr3.frozen
                      have hs2 := H2.out.size
                      rw [hw3]
                      have H3 := Lib.hid (And.intro hb3 hs2)
                      clear hw3 hr3 hb3 hs2
                      refine seqx_run 10 rfl (by kernel_rfl) (by rfl) (fun KK hKK => ?_)
                      go_wp2_with fail
                      refine ⟨keep4 (X := fun b => wa.heap.size ≤ b) w3 H3.out.2 _ _ _ _, ?_⟩
                      refine seqx_take 11 (v := ?_) rfl (by kernel_rfl) (fun _ _ _ h => h) (by rfl) (fun w' hw' => ?_) ?_
                      rotate_left
                      · go_simp; try with_reducible rfl
                      try simp only [List.getElem_toArray, List.getElem_cons_succ, List.getElem_cons_zero, Act.put, List.setIfInBounds_toArray, List.set_cons_zero, List.set_cons_succ]
                      refine seqx_done (by kernel_rfl) ?_
                      clear e0 e1 e2 e3 hef
                      go_wp2_with fail
                      go_meet
                      case rel => exact ⟨rfl, H3.out.1.trans ((keep4 (X := fun b => wa.heap.size ≤ b) w3 H3.out.2 _ _ _ _).below (fun i hi h => by omega) H3.out.1.size)⟩
                    · go_wp2_with fail
                      refine ⟨Keeps.alloc _ _ _, ?_⟩
                      obtain ⟨w3, hw3⟩ : ∃ w3, (wa.alloc (.cells #[.int .i64 0, .int .i64 0, .string ⟨#[]⟩, .slice none 0 0] 34)).drew = w3 := ⟨_, rfl⟩
                      have hr3 : Row4 w3 wa.heap.size 34 0 0 [] none 0 0 := by rw [← hw3]; exact heap_alloc_new wa _
                      have hb3 : Below wa.heap.size wa w3 := by rw [← hw3]; exact ((Below.refl _ wa).alloc (Nat.le_refl _) _).drew
                      rw [hw3]
                      have H3 := Lib.hid (And.intro hb3 hr3)
                      clear hw3 hr3 hb3
                      refine seqx_run 5 rfl (by kernel_rfl) (by rfl) (fun KK hKK => ?_)
                      go_wp2_with fail
                      refine (HQ.out.1 _ H3.out.1).mono ?_
                      rintro e w2 ⟨hb2, hres⟩
                      obtain ⟨u', ucs, rfl, hvu⟩ : ∃ u' ucs, e = .returned (.tuple #[.agg ucs.toArray, .bool true]) ∧ VIn w2 (fun b => wo.heap.size < b ∧ b < wc.heap.size) (n + 1) ucs u' := by
                        rcases hres with ⟨u', ucs, _, he, hvu⟩ | ⟨hno, _⟩
                        · exact ⟨u', ucs, he, hvu⟩
                        · rw [HQ.out.2.2.2.1] at hno
                          cases hno
                      obtain ⟨k4, m4, t4, ks4⟩ := u'
                      obtain ⟨uo, ucap, hpe, hucs, _⟩ := hvu.val
                      rw [hpe]
                      unfold patV
                      have hr2 := H3.out.2.keeps (Keeps.of_below (X := fun _ => False) hb2) (fun h => h)
                      obtain ⟨e0, e1, e2, e3⟩ := hr2.pat
                      have hef := hr2.frozen
                      have HK := Lib.hid (show Keeps (fun b => wa.heap.size ≤ b) w3 w2 from Keeps.of_below hb2)
                      have H2 := Lib.hid (H3.out.1.trans (hb2.mono H3.out.1.size))
                      clear hres hvu hpe hucs hb2 hr2
                      go_wp2_with fail
                      refine ⟨HK.out, ?_⟩
                      refine seqx_take 6 (v := ?_) rfl (by kernel_rfl) (fun _ _ _ h => h) (by rfl) (fun w' hw' => ?_) ?_
                      rotate_left
                      · go_simp; try with_reducible rfl
                      try simp only [List.getElem_toArray, List.getElem_cons_succ, List.getElem_cons_zero, Act.put, List.setIfInBounds_toArray, List.set_cons_zero, List.set_cons_succ]
                      refine seqx_take 7 (v := ?_) rfl (by kernel_rfl) (fun _ _ _ h => h) (by rfl) (fun w' hw' => ?_) ?_
                      rotate_left
                      · go_simp; try with_reducible rfl
                      try simp only [List.getElem_toArray, List.getElem_cons_succ, List.getElem_cons_zero, Act.put, List.setIfInBounds_toArray, List.set_cons_zero, List.set_cons_succ]
                      refine seqx_take 8 (v := ?_) rfl (by kernel_rfl) (fun _ _ _ h => h) (by rfl) (fun w' hw' => ?_) ?_
                      rotate_left
                      · go_simp; try with_reducible rfl
                      try simp only [List.getElem_toArray, List.getElem_cons_succ, List.getElem_cons_zero, Act.put, List.setIfInBounds_toArray, List.set_cons_zero, List.set_cons_succ]
                      refine seqx_run 10 rfl (by kernel_rfl) (by rfl) (fun KK hKK => ?_)
                      go_wp2_with fail
                      refine ⟨keep4 (X := fun b => wa.heap.size ≤ b) w2 (Nat.le_refl _) _ _ _ _, ?_⟩
                      refine seqx_take 11 (v := ?_) rfl (by kernel_rfl) (fun _ _ _ h => h) (by rfl) (fun w' hw' => ?_) ?_
                      rotate_left
                      · go_simp; try with_reducible rfl
                      try simp only [List.getElem_toArray, List.getElem_cons_succ, List.getElem_cons_zero, Act.put, List.setIfInBounds_toArray, List.set_cons_zero, List.set_cons_succ]
                      refine seqx_done (by kernel_rfl) ?_
                      clear e0 e1 e2 e3 hef
                      go_wp2_with fail
                      go_meet
                      case rel => exact ⟨rfl, H2.out.trans ((keep4 (X := fun b => wa.heap.size ≤ b) w2 (Nat.le_refl _) _ _ _ _).below (fun i hi h => by omega) H2.out.size)⟩
                  case rest =>
                    obtain ⟨rfl, hbd⟩ := hcut
                    rename World => wd
                    have hsd := hbd.size
                    have HD := Lib.hid (HA.out.trans (hbd.mono hsa))
                    clear hbd
                    go_wp2_with fail
                    go_loopw [15] (fun v15 wr => ∃ b : Nat, b ≤ a ∧ v15 = .int .i64 (b : Int) ∧ Below wx.heap.size wx wr) (fun v15 _ => a - (intOf v15).toNat)
                    case atStart => exact ⟨0, by omega, rfl, HD.out⟩
                    case round =>
                      obtain ⟨b, hb, rfl, hbr⟩ := hrel
                      rename World => we
                      have HE := Lib.hid hbr
                      clear hbr
                      by_cases hba : b < a
                      · have hdb : decide ((b : Int) < (a : Int)) = true := decide_eq_true (by omega)
                        have hbz : (b : Int) < (asked.length : Int) := by omega
                        obtain ⟨qb1, qof1, po1, pc1, hqo1, hcA, hpA, hlA, hqlt1⟩ := asked_at (HX.out.1.below elemP HE.out) a hlt
                        obtain ⟨qb2, qof2, po2, pc2, hqo2, hcB, hpB, hlB, hqlt2⟩ := asked_at (HX.out.1.below elemP HE.out) b (by omega)
                        cases hqo1
                        cases hqo2
                        have hne : asked[a] ≠ asked[b]'(by omega) := fun h => by
                          have := (List.getElem_inj HX.out.2.1).1 h
                          omega
                        obtain ⟨A, hA⟩ : ∃ A, asked[a] = A := ⟨_, rfl⟩
                        obtain ⟨B, hB⟩ : ∃ B, asked[b]'(by omega) = B := ⟨_, rfl⟩
                        rw [hA] at hcA hpA hlA hne
                        rw [hB] at hcB hpB hlB hne
                        obtain ⟨q, hq⟩ : ∃ q, decide (A.length = B.length) = q := ⟨_, rfl⟩
                        have hq1 : decide ((A.length : Int) = (B.length : Int)) = q := by rw [← hq]; exact decide_eq_decide.2 (by omega)
                        have hq2 : ((A.length : Int) == (B.length : Int)) = q := by rw [← hq1]; rfl
                        have HF := Lib.hid (And.intro hcA (And.intro hcB (And.intro hpA (And.intro hpB (And.intro hne (And.intro hA (And.intro hB hq)))))))
                        clear hcA hcB hpA hpB hne hA hB hq hqlt1 hqlt2
                        go_wp2_with fail
                        refine seq_start (by kernel_rfl) ?_
                        refine seq_take 0 (v := ?_) rfl (by kernel_rfl) (fun _ _ _ h => h) (by rfl) (fun w' hw' => ?_) ?_
                        rotate_left
                        · go_simp; try with_reducible rfl
                        try simp only [List.getElem_toArray, List.getElem_cons_succ, List.getElem_cons_zero, Act.put, List.setIfInBounds_toArray, List.set_cons_zero, List.set_cons_succ]
                        refine seq_take 1 (v := ?_) rfl (by kernel_rfl) (fun _ _ _ h => h) (by rfl) (fun w' hw' => ?_) ?_
                        rotate_left
                        · go_simp; try with_reducible rfl
                        try simp only [List.getElem_toArray, List.getElem_cons_succ, List.getElem_cons_zero, Act.put, List.setIfInBounds_toArray, List.set_cons_zero, List.set_cons_succ]
                        refine seq_take 2 (v := ?_) rfl (by kernel_rfl) (fun _ _ _ h => h) (by rfl) (fun w' hw' => ?_) ?_
                        rotate_left
                        · go_simp; try with_reducible rfl
                        try simp only [List.getElem_toArray, List.getElem_cons_succ, List.getElem_cons_zero, Act.put, List.setIfInBounds_toArray, List.set_cons_zero, List.set_cons_succ]
                        refine seq_take 3 rfl (by kernel_rfl) (fun _ _ _ h => h) (by rfl) (seq_ldIs rfl rfl (HF.out.1)) ?_
                        try simp only [List.getElem_toArray, List.getElem_cons_succ, List.getElem_cons_zero, Act.put, List.setIfInBounds_toArray, List.set_cons_zero, List.set_cons_succ]
                        refine seq_take 4 (v := ?_) rfl (by kernel_rfl) (fun _ _ _ h => h) (by rfl) (fun w' hw' => ?_) ?_
                        rotate_left
                        · go_simp; try with_reducible rfl
                        try simp only [List.getElem_toArray, List.getElem_cons_succ, List.getElem_cons_zero, Act.put, List.setIfInBounds_toArray, List.set_cons_zero, List.set_cons_succ]
                        refine seq_take 5 (v := ?_) rfl (by kernel_rfl) (fun _ _ _ h => h) (by rfl) (fun w' hw' => ?_) ?_
                        rotate_left
                        · go_simp; try with_reducible rfl
                        try simp only [List.getElem_toArray, List.getElem_cons_succ, List.getElem_cons_zero, Act.put, List.setIfInBounds_toArray, List.set_cons_zero, List.set_cons_succ]
                        refine seq_take 6 (v := ?_) rfl (by kernel_rfl) (fun _ _ _ h => h) (by rfl) (fun w' hw' => ?_) ?_
                        rotate_left
                        · go_simp; try with_reducible rfl
                        try simp only [List.getElem_toArray, List.getElem_cons_succ, List.getElem_cons_zero, Act.put, List.setIfInBounds_toArray, List.set_cons_zero, List.set_cons_succ]
                        refine seq_take 7 (v := ?_) rfl (by kernel_rfl) (fun _ _ _ h => h) (by rfl) (fun w' hw' => ?_) ?_
                        rotate_left
                        · go_simp; try with_reducible rfl
                        try simp only [List.getElem_toArray, List.getElem_cons_succ, List.getElem_cons_zero, Act.put, List.setIfInBounds_toArray, List.set_cons_zero, List.set_cons_succ]
                        refine seq_take 8 rfl (by kernel_rfl) (fun _ _ _ h => h) (by rfl) (seq_ldIs rfl rfl (HF.out.2.1)) ?_
                        try simp only [List.getElem_toArray, List.getElem_cons_succ, List.getElem_cons_zero, Act.put, List.setIfInBounds_toArray, List.set_cons_zero, List.set_cons_succ]
                        refine seq_take 9 (v := ?_) rfl (by kernel_rfl) (fun _ _ _ h => h) (by rfl) (fun w' hw' => ?_) ?_
                        rotate_left
                        · go_simp; try with_reducible rfl
                        try simp only [List.getElem_toArray, List.getElem_cons_succ, List.getElem_cons_zero, Act.put, List.setIfInBounds_toArray, List.set_cons_zero, List.set_cons_succ]
                        refine seq_take 10 (v := ?_) rfl (by kernel_rfl) (fun _ _ _ h => h) (by rfl) (fun w' hw' => ?_) ?_
                        rotate_left
                        · go_simp; try with_reducible rfl
                        try simp only [List.getElem_toArray, List.getElem_cons_succ, List.getElem_cons_zero, Act.put, List.setIfInBounds_toArray, List.set_cons_zero, List.set_cons_succ]
                        refine seq_take 11 (v := ?_) rfl (by kernel_rfl) (fun _ _ _ h => h) (by rfl) (fun w' hw' => ?_) ?_
                        rotate_left
                        · go_simp; try with_reducible rfl
                        try simp only [List.getElem_toArray, List.getElem_cons_succ, List.getElem_cons_zero, Act.put, List.setIfInBounds_toArray, List.set_cons_zero, List.set_cons_succ]
                        refine seq_done (by kernel_rfl) ?_
                        go_wp2_with fail
                        go_loopw [16, 17] (fun v16 v17 wr => ∃ (z : Bool) (k : Nat), v16 = .bool z ∧ v17 = .int .i64 (k : Int) ∧ k ≤ A.length ∧ (z = true → A.length = B.length ∧ A.take k = B.take k) ∧ Below wx.heap.size wx wr) (fun _ v17 _ => A.length - (intOf v17).toNat)
                        case atStart => exact ⟨q, 0, rfl, rfl, by omega, fun h => ⟨of_decide_eq_true (HF.out.2.2.2.2.2.2.2.trans h), rfl⟩, HE.out.drew⟩
                        case round =>
                          obtain ⟨z, k, rfl, rfl, hk, hz, hbr⟩ := hrel
                          rename World => wf
                          have HG := Lib.hid hbr
                          have HZ := Lib.hid hz
                          clear hbr hz
                          obtain ⟨qb1, qof1, po1', pc1', hqo1, hcA, hpA, hlA', hqlt1⟩ := asked_at (HX.out.1.below elemP HG.out) a hlt
                          obtain ⟨qb2, qof2, po2', pc2', hqo2, hcB, hpB, hlB', hqlt2⟩ := asked_at (HX.out.1.below elemP HG.out) b (by omega)
                          cases hqo1
                          cases hqo2
                          have hA := HF.out.2.2.2.2.2.1
                          have hB := HF.out.2.2.2.2.2.2.1
                          rw [hA] at hcA hpA
                          rw [hB] at hcB hpB
                          clear hA hB hqlt1 hqlt2 hlA' hlB'
                          have HC := Lib.hid (And.intro hcA (And.intro hcB (And.intro hpA hpB)))
                          by_cases hkA : k < A.length
                          · have hdk : decide ((k : Int) < (A.length : Int)) = true := decide_eq_true (by omega)
                            cases z
                            · go_wp2_with fail
                              go_roundw
                              case rel => exact ⟨b + 1, by omega, by simp, HG.out⟩
                              case measure => simp [intOf]; omega
                            · obtain ⟨hAB, htk⟩ := HZ.out rfl
                              have hkB : k < B.length := by omega
                              obtain ⟨cb1, co1, hpo1, hx1⟩ := HC.out.2.2.1.cell k hkA
                              obtain ⟨cb2, co2, hpo2, hx2⟩ := HC.out.2.2.2.cell k hkB
                              subst hpo1 hpo2
                              obtain ⟨x, hx⟩ : ∃ x, A[k] = x := ⟨_, rfl⟩
                              obtain ⟨y, hy⟩ : ∃ y, B[k]'hkB = y := ⟨_, rfl⟩
                              rw [hx] at hx1
                              rw [hy] at hx2
                              have hkz : (k : Int) < (A.length : Int) := by omega
                              have hkz2 : (k : Int) < (B.length : Int) := by omega
                              obtain ⟨r, hr⟩ : ∃ r, decide (x = y) = r := ⟨_, rfl⟩
                              have hr1 : decide ((x : Int) = (y : Int)) = r := by rw [← hr]; exact decide_eq_decide.2 (by omega)
                              have hr2 : ((x : Int) == (y : Int)) = r := by rw [← hr1]; rfl
                              have hr3 : (x == y) = r := by rw [← hr]; rfl
                              have HR2 := Lib.hid (And.intro hAB (And.intro htk (And.intro hx (And.intro hy (And.intro hr (And.intro HC.out.1 (And.intro HC.out.2.1 (And.intro hx1 hx2))))))))
                              clear hAB htk hx hy hpA hpB hx1 hx2 HC hr
                              go_wp2_with fail
                              refine seq_start (by kernel_rfl) ?_
                              refine seq_take 0 (v := ?_) rfl (by kernel_rfl) (fun _ _ _ h => h) (by rfl) (fun w' hw' => ?_) ?_
                              rotate_left
                              · go_simp; try with_reducible rfl
                              try simp only [List.getElem_toArray, List.getElem_cons_succ, List.getElem_cons_zero, Act.put, List.setIfInBounds_toArray, List.set_cons_zero, List.set_cons_succ]
                              refine seq_take 1 (v := ?_) rfl (by kernel_rfl) (fun _ _ _ h => h) (by rfl) (fun w' hw' => ?_) ?_
                              rotate_left
                              · go_simp; try with_reducible rfl
                              try simp only [List.getElem_toArray, List.getElem_cons_succ, List.getElem_cons_zero, Act.put, List.setIfInBounds_toArray, List.set_cons_zero, List.set_cons_succ]
                              refine seq_take 2 (v := ?_) rfl (by kernel_rfl) (fun _ _ _ h => h) (by rfl) (fun w' hw' => ?_) ?_
                              rotate_left
                              · go_simp; try with_reducible rfl
                              try simp only [List.getElem_toArray, List.getElem_cons_succ, List.getElem_cons_zero, Act.put, List.setIfInBounds_toArray, List.set_cons_zero, List.set_cons_succ]
                              refine seq_take 3 rfl (by kernel_rfl) (fun _ _ _ h => h) (by rfl) (seq_ldIs rfl rfl (HR2.out.2.2.2.2.2.1)) ?_
                              try simp only [List.getElem_toArray, List.getElem_cons_succ, List.getElem_cons_zero, Act.put, List.setIfInBounds_toArray, List.set_cons_zero, List.set_cons_succ]
                              refine seq_take 4 (v := ?_) rfl (by kernel_rfl) (fun _ _ _ h => h) (by rfl) (fun w' hw' => ?_) ?_
                              rotate_left
                              · go_simp; try with_reducible rfl
                              try simp only [List.getElem_toArray, List.getElem_cons_succ, List.getElem_cons_zero, Act.put, List.setIfInBounds_toArray, List.set_cons_zero, List.set_cons_succ]
                              refine seq_take 5 (v := ?_) rfl (by kernel_rfl) (fun _ _ _ h => h) (by rfl) (fun w' hw' => ?_) ?_
                              rotate_left
                              · go_simp; try with_reducible rfl
                              try simp only [List.getElem_toArray, List.getElem_cons_succ, List.getElem_cons_zero, Act.put, List.setIfInBounds_toArray, List.set_cons_zero, List.set_cons_succ]
                              refine seq_take 6 rfl (by kernel_rfl) (fun _ _ _ h => h) (by rfl) (seq_ldi rfl rfl (HR2.out.2.2.2.2.2.2.2.1)) ?_
                              try simp only [List.getElem_toArray, List.getElem_cons_succ, List.getElem_cons_zero, Act.put, List.setIfInBounds_toArray, List.set_cons_zero, List.set_cons_succ]
                              refine seq_take 7 (v := ?_) rfl (by kernel_rfl) (fun _ _ _ h => h) (by rfl) (fun w' hw' => ?_) ?_
                              rotate_left
                              · go_simp; try with_reducible rfl
                              try simp only [List.getElem_toArray, List.getElem_cons_succ, List.getElem_cons_zero, Act.put, List.setIfInBounds_toArray, List.set_cons_zero, List.set_cons_succ]
                              refine seq_take 8 (v := ?_) rfl (by kernel_rfl) (fun _ _ _ h => h) (by rfl) (fun w' hw' => ?_) ?_
                              rotate_left
                              · go_simp; try with_reducible rfl
                              try simp only [List.getElem_toArray, List.getElem_cons_succ, List.getElem_cons_zero, Act.put, List.setIfInBounds_toArray, List.set_cons_zero, List.set_cons_succ]
                              refine seq_take 9 (v := ?_) rfl (by kernel_rfl) (fun _ _ _ h => h) (by rfl) (fun w' hw' => ?_) ?_
                              rotate_left
                              · go_simp; try with_reducible rfl
                              try simp only [List.getElem_toArray, List.getElem_cons_succ, List.getElem_cons_zero, Act.put, List.setIfInBounds_toArray, List.set_cons_zero, List.set_cons_succ]
                              refine seq_take 10 rfl (by kernel_rfl) (fun _ _ _ h => h) (by rfl) (seq_ldIs rfl rfl (HR2.out.2.2.2.2.2.2.1)) ?_
                              try simp only [List.getElem_toArray, List.getElem_cons_succ, List.getElem_cons_zero, Act.put, List.setIfInBounds_toArray, List.set_cons_zero, List.set_cons_succ]
                              refine seq_take 11 (v := ?_) rfl (by kernel_rfl) (fun _ _ _ h => h) (by rfl) (fun w' hw' => ?_) ?_
                              rotate_left
                              · go_simp; try with_reducible rfl
                              try simp only [List.getElem_toArray, List.getElem_cons_succ, List.getElem_cons_zero, Act.put, List.setIfInBounds_toArray, List.set_cons_zero, List.set_cons_succ]
                              refine seq_take 12 (v := ?_) rfl (by kernel_rfl) (fun _ _ _ h => h) (by rfl) (fun w' hw' => ?_) ?_
                              rotate_left
                              · go_simp; try with_reducible rfl
                              try simp only [List.getElem_toArray, List.getElem_cons_succ, List.getElem_cons_zero, Act.put, List.setIfInBounds_toArray, List.set_cons_zero, List.set_cons_succ]
                              refine seq_take 13 rfl (by kernel_rfl) (fun _ _ _ h => h) (by rfl) (seq_ldi rfl rfl (HR2.out.2.2.2.2.2.2.2.2)) ?_
                              try simp only [List.getElem_toArray, List.getElem_cons_succ, List.getElem_cons_zero, Act.put, List.setIfInBounds_toArray, List.set_cons_zero, List.set_cons_succ]
                              refine seq_take 14 (v := ?_) rfl (by kernel_rfl) (fun _ _ _ h => h) (by rfl) (fun w' hw' => ?_) ?_
                              rotate_left
                              · go_simp; try with_reducible rfl
                              try simp only [List.getElem_toArray, List.getElem_cons_succ, List.getElem_cons_zero, Act.put, List.setIfInBounds_toArray, List.set_cons_zero, List.set_cons_succ]
                              refine seq_take 15 (v := ?_) rfl (by kernel_rfl) (fun _ _ _ h => h) (by rfl) (fun w' hw' => ?_) ?_
                              rotate_left
                              · go_simp; try with_reducible rfl
                              try simp only [List.getElem_toArray, List.getElem_cons_succ, List.getElem_cons_zero, Act.put, List.setIfInBounds_toArray, List.set_cons_zero, List.set_cons_succ]
                              refine seq_done (by kernel_rfl) ?_
                              go_wp2_with fail
                              go_roundw
                              case rel =>
                                refine ⟨r, k + 1, rfl, by simp, by omega, fun h => ⟨HR2.out.1, ?_⟩, HG.out.drew⟩
                                have hxy : x = y := of_decide_eq_true (HR2.out.2.2.2.2.1.trans h)
                                rw [List.take_succ_eq_append_getElem hkA, List.take_succ_eq_append_getElem hkB, HR2.out.2.1, HR2.out.2.2.1, HR2.out.2.2.2.1, hxy]
                              case measure => simp [intOf]; omega
                          · have hdk : decide ((k : Int) < (A.length : Int)) = false := decide_eq_false (by omega)
                            cases z
                            · go_wp2_with fail
                              go_roundw
                              case rel => exact ⟨b + 1, by omega, by simp, HG.out⟩
                              case measure => simp [intOf]; omega
                            · exfalso
                              obtain ⟨h1, h2⟩ := HZ.out rfl
                              have h3 := HF.out.2.2.2.2.1
                              rw [List.take_of_length_le (by omega), List.take_of_length_le (by omega)] at h2
                              exact h3 h2
                      · have hdb : decide ((b : Int) < (a : Int)) = false := decide_eq_false (by omega)
                        obtain rfl : b = a := by omega
                        go_wp2_with fail
                        go_roundw
                        case rel => exact ⟨b + 1, by omega, by simp, HE.out⟩
                        case measure => simp [intOf]; omega
                · have hda : decide ((a : Int) < (asked.length : Int)) = false := decide_eq_false (by omega)
                  go_wp2_with fail
                  go_roundw
                  case rel => exact ⟨i + 1, by omega, by simp, HX.out.2.2.2.2.2.1.trans (HA.out.mono (by have := HX.out.2.2.2.2.2.1.size; omega))⟩
                  case measure => simp [intOf]; omega
          · obtain rfl : i = 16 := by omega
            have hd16 : decide (((16 : Nat) : Int) < 16) = false := decide_eq_false (by omega)
            go_wp2_with fail
            go_ret
            exact ⟨rfl, HM.out.2.2.2.1.trans (HO.out.mono HM.out.2.2.2.1.size)⟩
        · have hd1 : decide ((i : Int) < (ys.length : Int) + (vals.length : Int)) = false := decide_eq_false (by omega)
          go_wp2_with fail
          go_ret
          exact ⟨rfl, HM.out.2.2.2.1.trans (HO.out.mono HM.out.2.2.2.1.size)⟩
    · go_loopw [8] (fun v8 wr => v8 = .int .i64 0 ∧ Below w12.heap.size w12 wr) (fun v8 _ => 0)
      case atStart => exact ⟨rfl, Below.refl _ _⟩
      case round =>
        obtain ⟨rfl, hbr⟩ := hrel
        have hw : decide ((0 : Int) < wrap64 ((ys.length : Int) + (vals.length : Int))) = false := decide_eq_false (by unfold wrap64; omega)
        have HBR := Lib.hid hbr
        clear hbr hsum
        go_wp2_with fail
        go_ret
        exact ⟨rfl, HM.out.2.2.2.1.trans (HBR.out.mono HM.out.2.2.2.1.size)⟩

set_option maxRecDepth 100000 in
theorem lifted (os : Os) (started : os.Started) (H : Type) (enc : TypeId × Value → H) :
    ReturnsInHanded {} Try.checked os 3 .any (Rows.matchOnceSpec.pre6 enc Try.prog Try.f3 Rows.matchOnceRow.domain false) (Rows.matchOnceSpec.post enc Try.prog Try.f3 false true false false) := by
  refine returnsInHanded_of_change (C := Try.checked) own started (by kernel_rfl) Try.func3
    (ChangeSpec.witness6 (enc := enc) (C := Try.checked) false ⟨#[], #[.slice none 0 0, .slice none 0 0], []⟩ 8 (by kernel_rfl) (by kernel_rfl) (by kernel_rfl) (by kernel_rfl)) ?_
  intro W base args ds gs before hval0 hW hcnd _
  have hval : ∀ (j : Nat) t v, Try.f3.params[j]? = some t → args[j]? = some v → Value.okWide Try.prog W .any base t v := hval0
  have hW' := hW
  obtain ⟨p, q, hA0, hV, rfl, hfz, hnd⟩ := hW
  have hA : DataW.TrodAll enc Try.prog W 0 (fun _ => true) true Try.f3.params.toList args.toList ds p := hA0
  rw [Try.params3] at hA hval
  obtain ⟨v0, v1, d0, d1, p0, p1, rfl, rfl, rfl, h0, h1⟩ := trodAll_two hA
  obtain ⟨rfl, rfl⟩ := trodVars_none hV
  obtain ⟨lo, lcap, N0, ps, rfl, hl0, hv0⟩ := open_vs Try.underlying22 Try.underlying37 (by kernel_rfl) Try.underlying3 Try.underlying9 Try.underlying22 (by kernel_rfl) (by kernel_rfl) (by kernel_rfl) (by kernel_rfl) (hval 0 22 v0 rfl rfl) h0
  obtain ⟨vo, vcap, N2, vals, rfl, hl2, hv2⟩ := open_vs Try.underlying23 Try.underlying34 (by kernel_rfl) Try.underlying3 Try.underlying9 Try.underlying23 (by kernel_rfl) (by kernel_rfl) (by kernel_rfl) (by kernel_rfl) (hval 1 23 v1 rfl rfl) h1
  refine (walk (N0 + N2) lo vo lcap vcap ps vals W (hv0.deep (by omega)) (hv2.deep (by omega)) hl0 hl2).mono fun e W' ⟨he, hb⟩ => ?_
  subst he
  exact ⟨_, rfl, post_law laidOut rfl rfl Try.underlying4 readable rfl rfl rfl hW' hb⟩

theorem proved : Rows.MatchOnceSaid :=
  OpenClaim.holds_of_wide 3 Try.f3 rfl rfl rfl rfl rfl rfl rfl ⟨rfl, rfl, rfl, rfl, rfl⟩ rfl rfl rfl rfl rfl (by kernel_rfl) Try.func3 (by kernel_rfl)
    (of_decide_eq_true (by kernel_rfl)) (by unfold Func.isWrapper; first | (rw [if_pos (by decide +kernel)]; kernel_rfl) | (rw [if_neg (by decide +kernel)]; exact ⟨rfl, rfl⟩))
    (fun os started H enc _ => lifted os started H enc)
end Go.Proofs.Ytnhdefaagicejaa.matchOnce
