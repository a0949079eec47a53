/- The walk of the law's fake. -/
import Derived.Test.YtnhdefaagicejaaMatC
namespace Go.Proofs.Ytnhdefaagicejaa
set_option linter.unusedSimpArgs false
set_option linter.unusedVariables false
open Go.RowKit

theorem results_fake (tmps : Array Value) (W : World) (g : Nat) (k m : Int) (t : List UInt8) (ao : Option Addr) (n cap : Nat) (hp : tmps[6]?.getD undef = .pointer (some ⟨g, 0, none⟩)) (hc : PatAt W g k m t ao n cap) :
    (results Try.f8 tmps).run Try.prog W = .ok (patV k m t ao n cap) W := by
  obtain ⟨c0, c1, c2, c3⟩ := hc
  have hu := Try.underlying34
  unfold patV
  simp only [results, Try.results8]
  go_simp
/-- What a call to fake leaves. -/
def FakeOk (N : Nat) : Prop := ∀ (x : PV) (z : Int) (w : World) (D : Nat → Prop) (cs : List Value), VIn w D N cs x → (∀ b, D b → b < w.heap.size) → sizeV x ≤ 100000 → rightP x = true →
  Calls Try.prog 8 #[.agg cs.toArray, .slice none 0 0, .int .i64 z] w (fun e w' => ∃ cs' y, e = .returned (.agg cs'.toArray) ∧ sizeV y ≤ sizeV x ∧ VIn w' (fun b => w.heap.size ≤ b ∧ b < w'.heap.size) N cs' y ∧ Below w.heap.size w w')
set_option maxRecDepth 100000 in
set_option maxHeartbeats 8000000 in
theorem fake_any : ∀ N : Nat, FakeOk N
  | 0 => fun _ _ _ _ _ h => h.elim
  | N + 1 => by
    have ih := fake_any N
    rintro ⟨k, m, t, ks⟩ z w D cs h hD hsz hrt
    obtain ⟨g, hg⟩ : ∃ g, w.heap.size = g := ⟨_, rfl⟩
    obtain ⟨ko, kcap, hv, hcs, hkc, hR, hks⟩ := h.val
    rw [hv]
    unfold patV
    obtain ⟨W, hW⟩ : ∃ W, ((w.alloc (.cells #[.int .i64 k, .int .i64 m, .string ⟨t.toArray⟩, .slice ko ks.length kcap] 37)).alloc (.cells #[.int .i64 0, .int .i64 0, .string ⟨#[]⟩, .slice none 0 0] 34)).alloc (.cells #[.int .i64 0, .int .i64 0, .string ⟨#[]⟩, .slice none 0 0] 34) = W := ⟨_, rfl⟩
    have h3 := three w (.cells #[.int .i64 k, .int .i64 m, .string ⟨t.toArray⟩, .slice ko ks.length kcap] 37) (.cells #[.int .i64 0, .int .i64 0, .string ⟨#[]⟩, .slice none 0 0] 34) (.cells #[.int .i64 0, .int .i64 0, .string ⟨#[]⟩, .slice none 0 0] 34)
    rw [hW, hg] at h3
    obtain ⟨hsW, hbW, hr0, hr1, hr2⟩ := h3
    have hkl : ks.length ≤ 100000 := by have := sizeV_kids (.mk k m t ks); have := kids_le ks; simp only [PV.kids] at *; omega
    have hkz : ∀ (i : Nat) (hi : i < ks.length), sizeV ks[i] ≤ 100000 := fun i hi => by have := sizeV_kids (.mk k m t ks); have := sizeVs_mem (List.getElem_mem hi); simp only [PV.kids] at *; omega
    have hrk : 0 ≤ k ∧ k ≤ 6 := right_range hrt
    have hrks : 5 ≤ k → ∀ (i : Nat) (hi : i < ks.length), rightP ks[i] = true := fun h5 i hi => rightPs_get (right_kids hrt h5) _ (List.getElem_mem hi)
    have H := Lib.hid (And.intro hbW (And.intro hsW (And.intro (show Row4 W g _ k m t ko ks.length kcap from hr0) (And.intro (show Row4 W (g + 1) 34 0 0 [] none 0 0 from hr1) (And.intro (show Row4 W (g + 1 + 1) 34 0 0 [] none 0 0 from hr2) (And.intro (hks.below (by rw [hg]; exact hbW)) (And.intro (show ∀ b, D b → b < g by rw [← hg]; exact hD) (And.intro hR (And.intro hkz (And.intro hrks (And.intro hW hg)))))))))))
    clear h hsW hbW hr0 hr1 hr2 hD hR hkz hW hg hsz hv hcs hks hrks hrt
    obtain ⟨a0, a1, a2, a3⟩ := H.out.2.2.1.pat
    obtain ⟨e0, e1, e2, e3⟩ := H.out.2.2.2.1.pat
    obtain ⟨x0, x1, x2, x3⟩ := H.out.2.2.2.2.1.pat
    have he := H.out.2.2.2.1.frozen
    have hx := H.out.2.2.2.2.1.frozen
    go_enter Try.func8, Try.ntmps8
    go_upto_block 0 with (fail)
    rw [H.out.2.2.2.2.2.2.2.2.2.2.1, H.out.2.2.2.2.2.2.2.2.2.2.2]
    have hR := H.out.2.2.2.2.2.2.2.1
    have hcases : k = 0 ∨ k = 1 ∨ k = 2 ∨ k = 3 ∨ k = 4 ∨ k = 5 ∨ k = 6 := by omega
    go_cut [] from 9 to 46 (fun w' => ∃ (k' m' : Int) (t' : List UInt8), (R64 k' ∧ R64 m' ∧ t'.length ≤ 9223372036854775807) ∧ OutI 34 34 N W (g + 1 + 1) k' m' t' [] w')
    case first =>
      have h06 : R64 6 ∧ R64 0 ∧ R64 2 ∧ R64 3 ∧ R64 4 := by unfold R64; decide
      have hnil : ([] : List UInt8).length ≤ 9223372036854775807 := by decide
      have HR := Lib.hid (And.intro hR (And.intro h06 hnil))
      clear hR h06 hnil
      rcases hcases with rfl | rfl | rfl | rfl | rfl | rfl | rfl
      · go_wp2_with fail
        refine bodyPost_ret (v := patV 6 0 [] none 0 0) (results_fake _ _ (g + 1) 6 0 [] none 0 0 (by rfl) (H.out.2.2.2.1.put 6 0 [] none 0 0).pat) rfl ⟨_, .mk 6 0 [] [], rfl, by simp [sizeV, sizeVs], VIn.row.2 ⟨none, 0, rfl, Nat.le_refl _, ⟨by decide, HR.out.2.1.1, HR.out.2.1.2.1, HR.out.2.2⟩, VsIn.nil _ _ _ _⟩, ?_⟩
        rw [H.out.2.2.2.2.2.2.2.2.2.2.2]
        exact H.out.1.trans ((keep4 (X := fun b => b = g + 1) W rfl _ _ _ _).below (fun i hi h => by omega) (by have := H.out.2.1; omega))
      · go_wp2_with fail
        refine bodyPost_ret (v := patV 6 0 [] none 0 0) (results_fake _ _ (g + 1) 6 0 [] none 0 0 (by rfl) (H.out.2.2.2.1.put 6 0 [] none 0 0).pat) rfl ⟨_, .mk 6 0 [] [], rfl, by simp [sizeV, sizeVs], VIn.row.2 ⟨none, 0, rfl, Nat.le_refl _, ⟨by decide, HR.out.2.1.1, HR.out.2.1.2.1, HR.out.2.2⟩, VsIn.nil _ _ _ _⟩, ?_⟩
        rw [H.out.2.2.2.2.2.2.2.2.2.2.2]
        exact H.out.1.trans ((keep4 (X := fun b => b = g + 1) W rfl _ _ _ _).below (fun i hi h => by omega) (by have := H.out.2.1; omega))
      · go_wp2_with fail
        go_meet
        case rel => exact ⟨0, m, [], ⟨HR.out.2.1.2.1, HR.out.1.2.2.1, HR.out.2.2⟩, none, 0, setCell_row0 1 (.int .i64 m) H.out.2.2.2.2.1, OwnL.nil _ _ _, keep1 W (.inl rfl) _⟩
      · go_wp2_with fail
        go_meet
        case rel => exact ⟨2, 0, t, ⟨HR.out.2.1.2.2.1, HR.out.2.1.2.1, HR.out.1.2.2.2⟩, none, 0, H.out.2.2.2.2.1.put 2 0 t none 0 0, OwnL.nil _ _ _, keep4 W (.inl rfl) _ _ _ _⟩
      · go_wp2_with fail
        go_meet
        case rel => exact ⟨6, 0, [], ⟨HR.out.2.1.1, HR.out.2.1.2.1, HR.out.2.2⟩, none, 0, setCell_row0 0 (.int .i64 6) H.out.2.2.2.2.1, OwnL.nil _ _ _, keep1 W (.inl rfl) _⟩
      · go_wp2_with fail
        go_meet
        case rel => exact ⟨3, m, [], ⟨HR.out.2.1.2.2.2.1, HR.out.1.2.2.1, HR.out.2.2⟩, none, 0, H.out.2.2.2.2.1.put 3 m [] none 0 0, OwnL.nil _ _ _, keep4 W (.inl rfl) _ _ _ _⟩
      · go_wp2_with fail
        go_meet
        case rel => exact ⟨4, 0, [], ⟨HR.out.2.1.2.2.2.2, HR.out.2.1.2.1, HR.out.2.2⟩, none, 0, setCell_row0 0 (.int .i64 4) H.out.2.2.2.2.1, OwnL.nil _ _ _, keep1 W (.inl rfl) _⟩
    case rest =>
      obtain ⟨k', m', t', hR', hO⟩ := hcut
      have HV := Lib.hid (And.intro hR' (And.intro hO hR))
      clear hR' hO hR hcases a0 a1 a2 a3 e0 e1 e2 e3 x0 x1 x2 x3 he hx
      go_wp2_with fail
      go_loopw [8] (fun v8 wr => ∃ (i : Nat) (ys : List PV), i ≤ ks.length ∧ v8 = .int .i64 (i : Int) ∧ ys.length = i ∧ sizeVs ys ≤ sizeVs (ks.take i) ∧ OutI 34 34 N W (g + 1 + 1) k' m' t' ys wr) (fun v8 _ => ks.length - (intOf v8).toNat)
      case atStart => exact ⟨0, [], by omega, rfl, rfl, Nat.le_refl _, HV.out.2.1⟩
      case round =>
        obtain ⟨i, ys, hi, rfl, hyl, hysz, ao, cap, hrow, hown, hk⟩ := hrel
        have hsr := hk.size
        have hsW := H.out.2.1
        have hlt := hown.lt
        have hrg := H.out.2.2.1.keeps hk (by omega)
        have hr1 := H.out.2.2.2.1.keeps hk (by omega)
        obtain ⟨a0, a1, a2, a3⟩ := hrg.pat
        obtain ⟨x0, x1, x2, x3⟩ := hrow.pat
        have HO := Lib.hid (And.intro hrow (And.intro hown (And.intro hk (And.intro hlt (And.intro hysz (And.intro hr1 hyl))))))
        have hxf := hrow.frozen
        have hyl5 : ys.length ≤ 1000000 := by omega
        clear hrow hown hk hrg hlt hyl hysz hr1
        by_cases hgo : i < ks.length ∧ 5 ≤ k
        · obtain ⟨hil, h5⟩ := hgo
          have hd1 : decide ((i : Int) < (ks.length : Int)) = true := decide_eq_true (by omega)
          have hd5 : decide (5 ≤ k) = true := decide_eq_true h5
          have hilz : (i : Int) < (ks.length : Int) := by omega
          cases N with
          | zero =>
            obtain ⟨_, _, _, _, hv, _⟩ := H.out.2.2.2.2.2.1.get i hil
            exact hv.elim
          | succ n' =>
          obtain ⟨b, o, k2, m2, t2, kao, kks, kcap2, rfl, hx, hv, c0, c1, c2, c3, hblt⟩ := (H.out.2.2.2.2.2.1.keeps HO.out.2.2.1 (fun b hb h => by have := H.out.2.2.2.2.2.2.1 b hb; omega)).cells i hil
          have hDb : D b := by
            obtain ⟨b', o', _, he, _, _, hb, _⟩ := H.out.2.2.2.2.2.1.get i hil
            cases he
            exact hb
          have hfk := fun z => ih _ z wr.drew _ _ (hv.below (Below.refl _ _).drew) (fun b hb => by have := H.out.2.2.2.2.2.2.1 b hb; simp; omega) (by rw [← hx]; exact H.out.2.2.2.2.2.2.2.2.1 i hil) (by rw [← hx]; exact H.out.2.2.2.2.2.2.2.2.2.1 h5 i hil)
          have hnq : ¬ (blk ao = some (g + 1 + 1) ∨ wr.heap.size ≤ g + 1 + 1) := fun h => by
            rcases h with h | h
            · have := (HO.out.2.2.2.1 _ h).1; omega
            · omega
          have hng : ¬ (blk ao = some g ∨ wr.heap.size ≤ g) := fun h => by
            rcases h with h | h
            · have := (HO.out.2.2.2.1 _ h).1; omega
            · omega
          have hnb : ¬ (blk ao = some b ∨ wr.heap.size ≤ b) := fun h => by
            rcases h with h | h
            · have h1 := (HO.out.2.2.2.1 _ h).1
              have := H.out.2.2.2.2.2.2.1 _ hDb
              omega
            · omega
          have HT := Lib.hid (And.intro hfk (And.intro hnq (And.intro hng (And.intro hnb (And.intro hx (And.intro c0 (And.intro c1 (And.intro c2 c3))))))))
          clear hfk hnq hng hnb hx hv c0 c1 c2 c3
          obtain ⟨i0, hi0, hz0, hz1', hz2⟩ := info_parts infoVal
          go_wp2_with fail
          refine seqk_start (fun b => blk ao = some b ∨ wr.heap.size ≤ b) [16] (by kernel_rfl) ?_
          refine seqk_take 0 (v := ?_) rfl (by kernel_rfl) (fun _ _ _ h => h) (by rfl) (fun w' hw' => ?_) ?_
          rotate_left
          · go_simp; try with_reducible rfl
          try simp only [List.getElem_toArray, List.getElem_cons_succ, List.getElem_cons_zero, Act.put, List.setIfInBounds_toArray, List.set_cons_zero, List.set_cons_succ]
          refine seqk_take 1 rfl (by kernel_rfl) (fun _ _ _ h => h) (by rfl) (fun w' hw' => (seq_ldVs rfl rfl (keeps_cell hw' (by exact HT.out.2.1) (x3))) w' (Below.refl _ _)) ?_
          try simp only [List.getElem_toArray, List.getElem_cons_succ, List.getElem_cons_zero, Act.put, List.setIfInBounds_toArray, List.set_cons_zero, List.set_cons_succ]
          refine seqk_take 2 (v := ?_) rfl (by kernel_rfl) (fun _ _ _ h => h) (by rfl) (fun w' hw' => ?_) ?_
          rotate_left
          · go_simp; try with_reducible rfl
          try simp only [List.getElem_toArray, List.getElem_cons_succ, List.getElem_cons_zero, Act.put, List.setIfInBounds_toArray, List.set_cons_zero, List.set_cons_succ]
          refine seqk_take 3 rfl (by kernel_rfl) (fun _ _ _ h => h) (by rfl) (fun w' hw' => (seq_ldRs rfl rfl (keeps_cell hw' (by exact HT.out.2.2.1) (a3))) w' (Below.refl _ _)) ?_
          try simp only [List.getElem_toArray, List.getElem_cons_succ, List.getElem_cons_zero, Act.put, List.setIfInBounds_toArray, List.set_cons_zero, List.set_cons_succ]
          refine seqk_take 4 (v := ?_) rfl (by kernel_rfl) (fun _ _ _ h => h) (by rfl) (fun w' hw' => ?_) ?_
          rotate_left
          · go_simp; try with_reducible rfl
          try simp only [List.getElem_toArray, List.getElem_cons_succ, List.getElem_cons_zero, Act.put, List.setIfInBounds_toArray, List.set_cons_zero, List.set_cons_succ]
          refine seqk_take 5 (v := ?_) rfl (by kernel_rfl) (fun _ _ _ h => h) (by rfl) (fun w' hw' => ?_) ?_
          rotate_left
          · go_simp; try with_reducible rfl
          try simp only [List.getElem_toArray, List.getElem_cons_succ, List.getElem_cons_zero, Act.put, List.setIfInBounds_toArray, List.set_cons_zero, List.set_cons_succ]
          refine seqk_take 6 rfl (by kernel_rfl) (fun _ _ _ h => h) (by rfl) (fun w' hw' => (seq_ldRP rfl rfl ⟨keeps_cell hw' HT.out.2.2.2.1 HT.out.2.2.2.2.2.1, keeps_cell hw' HT.out.2.2.2.1 HT.out.2.2.2.2.2.2.1, keeps_cell hw' HT.out.2.2.2.1 HT.out.2.2.2.2.2.2.2.1, keeps_cell hw' HT.out.2.2.2.1 HT.out.2.2.2.2.2.2.2.2⟩) w' (Below.refl _ _)) ?_
          try simp only [List.getElem_toArray, List.getElem_cons_succ, List.getElem_cons_zero, Act.put, List.setIfInBounds_toArray, List.set_cons_zero, List.set_cons_succ]
          refine seqk_take 7 (v := ?_) rfl (by kernel_rfl) (fun _ _ _ h => h) (by rfl) (fun w' hw' => ?_) ?_
          rotate_left
          · go_simp; try with_reducible rfl
          try simp only [List.getElem_toArray, List.getElem_cons_succ, List.getElem_cons_zero, Act.put, List.setIfInBounds_toArray, List.set_cons_zero, List.set_cons_succ]
          refine seqk_take 8 (v := ?_) rfl (by kernel_rfl) (fun _ _ _ h => h) (by rfl) (fun w' hw' => ?_) ?_
          rotate_left
          · go_simp; try with_reducible rfl
          try simp only [List.getElem_toArray, List.getElem_cons_succ, List.getElem_cons_zero, Act.put, List.setIfInBounds_toArray, List.set_cons_zero, List.set_cons_succ]
          refine seqk_take 9 (v := ?_) rfl (by kernel_rfl) (fun _ _ _ h => h) (by rfl) (fun w' hw' => ?_) ?_
          rotate_left
          · go_simp; try with_reducible rfl
          try simp only [List.getElem_toArray, List.getElem_cons_succ, List.getElem_cons_zero, Act.put, List.setIfInBounds_toArray, List.set_cons_zero, List.set_cons_succ]
          refine seqk_take 10 (v := ?_) rfl (by kernel_rfl) (fun _ _ _ h => h) (by rfl) (fun w' hw' => ?_) ?_
          rotate_left
          · go_simp; try with_reducible rfl
          try simp only [List.getElem_toArray, List.getElem_cons_succ, List.getElem_cons_zero, Act.put, List.setIfInBounds_toArray, List.set_cons_zero, List.set_cons_succ]
          refine seqk_take 11 (v := ?_) rfl (by kernel_rfl) (fun _ _ _ h => h) (by rfl) (fun w' hw' => ?_) ?_
          rotate_left
          · go_simp; try with_reducible rfl
          try simp only [List.getElem_toArray, List.getElem_cons_succ, List.getElem_cons_zero, Act.put, List.setIfInBounds_toArray, List.set_cons_zero, List.set_cons_succ]
          refine seqk_run 12 rfl (by kernel_rfl) (by rfl) (fun KK hKK => ?_)
          go_wp2_with fail
          refine (HT.out.1 _).mono ?_
          rintro e w2 ⟨cs', y, rfl, hysz2, hv2, hb2⟩
          obtain ⟨k3, m3, t3, ks3⟩ := y
          obtain ⟨yo, ycap, hpe, hcs2, _⟩ := hv2.val
          subst hcs2
          rw [hpe]
          unfold patV
          simp only [World.size_drew] at hb2 hv2
          have hb2' : Below wr.heap.size wr w2 := (Below.refl _ wr).drew.trans hb2
          have hK2 : Keeps (fun b => blk ao = some b ∨ wr.heap.size ≤ b) wr.drew w2 := Keeps.of_below (by simpa using hb2)
          have HB2 := Lib.hid (And.intro hb2' (And.intro hv2 (And.intro hysz2 hK2)))
          clear hb2 hb2' hv2 hK2 hpe hysz2 x0 x1 x2 x3 a0 a1 a2 a3
          go_wp2_with fail
          refine ⟨HB2.out.2.2.2, ?_⟩
          obtain ⟨wa, hwa⟩ : ∃ wa, w2.alloc (.cells #[.int .i64 k3, .int .i64 m3, .string ⟨t3.toArray⟩, .slice yo ks3.length ycap] 34) = wa := ⟨_, rfl⟩
          have hba : Below w2.heap.size w2 wa := by rw [← hwa]; exact (Below.refl _ _).alloc (Nat.le_refl _) _
          have hata : At wa (some ⟨w2.heap.size, 0, none⟩) [.int .i64 k3, .int .i64 m3, .string ⟨t3.toArray⟩, .slice yo ks3.length ycap] := by rw [← hwa]; exact At.new w2 #[.int .i64 k3, .int .i64 m3, .string ⟨t3.toArray⟩, .slice yo ks3.length ycap] _
          have hbra : Below wr.heap.size wr wa := HB2.out.1.trans (hba.mono HB2.out.1.size)
          have hsra := hbra.size
          have hs2a := hba.size
          have HA := Lib.hid (And.intro hba (And.intro hata (And.intro hbra hwa)))
          clear hba hata hbra hwa
          refine seqk_run 13 rfl (by kernel_rfl) (by rfl) (fun KK hKK => ?_)
          go_wp2_with fail
          refine ⟨Keeps.alloc _ _ _, ?_⟩
          rw [HA.out.2.2.2]
          refine seqk_run 14 rfl (by kernel_rfl) (by rfl) (fun KK hKK => ?_)
          refine wp_own (elemV (n' + 1)) (by decide) _ _ 23 rfl i0 _ 56 Try.underlying23 hi0 hz0 hz1' hz2 rfl (by decide) W.heap.size (DD (fun _ => False) W wa ao) ao cap ys.length ys rfl (by rfl) (own_dd (elemV _) (HO.out.2.1.below (elemV _) HA.out.2.2.1) HA.out.2.2.1.size) [.int .i64 k3, .int .i64 m3, .string ⟨t3.toArray⟩, .slice yo ks3.length ycap] (.mk k3 m3 t3 ks3) (HB2.out.2.1.part hsr (fun j hj => (HO.out.2.2.2.1 j hj).2) HA.out.1) w2.heap.size (by rfl) HA.out.2.1 (fun b hb => by rcases hb with h | h; exact h.elim; exact h.2.1) (by omega) (by omega) ?_
          intro ao5 cap5 w5 q1 q2 q3
          refine hKK _ _ ⟨q2.mono (fun b _ h => .inl h), ?_⟩
          have HS5 := Lib.hid (out_step HO.out.1 HO.out.2.2.1 (by omega) HO.out.2.2.2.1 HA.out.2.2.1 q1 q2)
          rw [List.length_append, List.length_singleton] at HS5
          obtain ⟨r1, r2, -⟩ := HS5.out
          clear q1 q2 q3
          refine seqk_take 15 (v := ?_) rfl (by kernel_rfl) (fun _ _ _ h => h) (by rfl) (fun w' hw' => ?_) ?_
          rotate_left
          · go_simp; try with_reducible rfl
          try simp only [List.getElem_toArray, List.getElem_cons_succ, List.getElem_cons_zero, Act.put, List.setIfInBounds_toArray, List.set_cons_zero, List.set_cons_succ]
          refine seqk_last 16 rfl (by kernel_rfl) (by kernel_rfl) (by rfl) (fun KK hKK => ?_)
          go_wp2_with fail
          refine seql_done (by kernel_rfl) ?_
          go_wp2_with fail
          go_roundw
          case rel =>
            refine ⟨i + 1, ys ++ [.mk k3 m3 t3 ks3], by omega, by simp, by rw [List.length_append, HO.out.2.2.2.2.2.2]; rfl, ?_, HS5.out.2.2⟩
            have h1 := HO.out.2.2.2.2.1
            have h2 := HB2.out.2.2.1
            rw [List.take_succ_eq_append_getElem hil, sizeVs_snoc, sizeVs_snoc, HT.out.2.2.2.2.1]
            omega
          case measure => simp [intOf]; omega
        · have HF := Lib.hid (out_done HO.out.1 HO.out.2.1 HO.out.2.2.1 H.out.2.2.2.1 (by omega) (show g ≤ g + 1 + 1 by omega) (by omega) (by omega) HV.out.1 _ rfl)
          obtain ⟨e0, e1, e2, e3⟩ := HO.out.2.2.2.2.2.1.pat
          have hf1 := HO.out.2.2.2.2.2.1.frozen
          have HZ := Lib.hid (show sizeV (.mk k' m' t' ys) ≤ sizeV (.mk k m t ks) by
            have h1 := HO.out.2.2.2.2.1
            have h2 := sizeVs_take ks i
            rw [sizeV, sizeV]
            omega)
          by_cases hil : i < ks.length
          · have hd1 : decide ((i : Int) < (ks.length : Int)) = true := decide_eq_true (by omega)
            have hd5 : decide (5 ≤ k) = false := decide_eq_false (by omega)
            clear hgo
            go_wp2_with fail
            refine bodyPost_ret (v := patV k' m' t' ao ys.length cap) (results_fake _ _ (g + 1) k' m' t' ao ys.length cap (by rfl) HF.out.1) rfl ⟨_, .mk k' m' t' ys, rfl, HZ.out, ?_, ?_⟩
            · rw [H.out.2.2.2.2.2.2.2.2.2.2.2]
              exact HF.out.2.1
            · rw [H.out.2.2.2.2.2.2.2.2.2.2.2]
              exact H.out.1.trans HF.out.2.2
          · have hd1 : decide ((i : Int) < (ks.length : Int)) = false := decide_eq_false (by omega)
            clear hgo
            go_wp2_with fail
            refine bodyPost_ret (v := patV k' m' t' ao ys.length cap) (results_fake _ _ (g + 1) k' m' t' ao ys.length cap (by rfl) HF.out.1) rfl ⟨_, .mk k' m' t' ys, rfl, HZ.out, ?_, ?_⟩
            · rw [H.out.2.2.2.2.2.2.2.2.2.2.2]
              exact HF.out.2.1
            · rw [H.out.2.2.2.2.2.2.2.2.2.2.2]
              exact H.out.1.trans HF.out.2.2
end Go.Proofs.Ytnhdefaagicejaa
