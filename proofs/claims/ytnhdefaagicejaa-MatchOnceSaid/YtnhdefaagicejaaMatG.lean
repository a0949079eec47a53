/- The walk of the law's tree. -/
import Derived.Test.YtnhdefaagicejaaMatF
namespace Go.Proofs.Ytnhdefaagicejaa
set_option linter.unusedSimpArgs false
set_option linter.unusedVariables false
open Go.RowKit

theorem results_tree (tmps : Array Value) (W : World) (g : Nat) (c0 c1 c2 c3 c4 z1 z2 : Value) (hp : tmps[2]?.getD undef = .pointer (some ⟨g, 0, none⟩)) (hz1 : tmps[3]?.getD undef = z1) (hz2 : tmps[4]?.getD undef = z2) (hc : TreeAt W g c0 c1 c2 c3 c4)
    (h0 : ∃ b, c0 = .bool b) (h1 : ∃ z, c1 = .int .i64 z) (h2 : ∃ o n c, c2 = .slice o n c) (h3 : ∃ o n c, c3 = .slice o n c) (h4 : ∃ o n c, c4 = .slice o n c) :
    (results Try.f6 tmps).run Try.prog W = .ok (.tuple #[.agg #[c0, c1, c2, c3, c4], z1, z2]) W := by
  obtain ⟨c0, c1, c2, c3, c4, _⟩ := hc.cells
  obtain ⟨_, rfl⟩ := h0
  obtain ⟨_, rfl⟩ := h1
  obtain ⟨_, _, _, rfl⟩ := h2
  obtain ⟨_, _, _, rfl⟩ := h3
  obtain ⟨_, _, _, rfl⟩ := h4
  have hu := Try.underlying29
  simp only [results, Try.results6]
  go_simp
/-- What a call to tree leaves. -/
def Trees (w : World) (ps : List PV) (e : Ending) (w' : World) : Prop :=
  Below w.heap.size w w' ∧ ∃ (k : Bool) (num : Int) (po to_ ko : Option Addr) (pn pc tn tc kn kc : Nat) (ok fine : Bool), e = .returned (.tuple #[.agg #[.bool k, .int .i64 num, .slice po pn pc, .slice to_ tn tc, .slice ko kn kc], .bool ok, .bool fine]) ∧
    (ok = true → rightPs ps = true ∧ TreeIn w' (fun b => b < w'.heap.size) (stepsM ps) [.bool k, .int .i64 num, .slice po pn pc, .slice to_ tn tc, .slice ko kn kc] (buildM (stepsM ps) (initR 0 ps)))
set_option maxRecDepth 100000 in
set_option maxHeartbeats 8000000 in
theorem tree_any {N : Nat} {w : World} {D : Nat → Prop} {lo : Option Addr} {lcap : Nat} {ps : List PV} (hps : VsIn w D N lo ps) (hD : ∀ b, D b → b < w.heap.size) (hpl : ps.length ≤ 1000) (hsz : ∀ p ∈ ps, sizeV p ≤ 100000) :
    Calls Try.prog 6 #[.slice lo ps.length lcap] w (Trees w ps) := by
  obtain ⟨g, hg⟩ : ∃ g, w.heap.size = g := ⟨_, rfl⟩
  obtain ⟨V, hV⟩ : ∃ V, w.alloc (.cells #[.bool false, .int .i64 0, .slice none 0 0, .slice none 0 0, .slice none 0 0] 29) = V := ⟨_, rfl⟩
  have hbV : Below g w V := by rw [← hV, ← hg]; exact (Below.refl _ _).alloc (Nat.le_refl _) _
  have hTV : TreeAt V g (.bool false) (.int .i64 0) (.slice none 0 0) (.slice none 0 0) (.slice none 0 0) := by rw [← hV, ← hg]; exact heap_alloc_new w _
  have hsV : V.heap.size = g + 1 := by rw [← hV, ← hg]; simp
  have H := Lib.hid (And.intro hbV (And.intro hTV (And.intro hsV (And.intro (hps.below (by rw [hg]; exact hbV)) (And.intro (show ∀ b, D b → b < g by rw [← hg]; exact hD) (And.intro hsz (And.intro hV hg)))))))
  clear hbV hTV hsV hps hD hsz hV hg
  go_enter Try.func6, Try.ntmps6
  go_upto_block 0 with (fail)
  rw [H.out.2.2.2.2.2.2.1, H.out.2.2.2.2.2.2.2]
  go_wp2_with fail
  go_loopw [5, 6, 7] (fun v5 v6 v7 wr => ∃ (i : Nat) (b : Bool), i ≤ ps.length ∧ v7 = .int .i64 (i : Int) ∧ v6 = .bool b ∧ RowsOf 50 N V v5 (ps.take i) wr) (fun _ _ v7 _ => ps.length - (intOf v7).toNat)
  case atStart => exact ⟨0, true, by omega, rfl, rfl, none, 0, rfl, OwnL.nil _ _ _, Below.refl _ _⟩
  case round =>
    obtain ⟨i, bo, hi, rfl, rfl, ao, cap, hv5, hown, hbr⟩ := hrel
    obtain ⟨ys, hys⟩ : ∃ ys, ps.take i = ys := ⟨_, rfl⟩
    rw [hys] at hv5 hown
    subst hv5
    have hyl : ys.length = i := by rw [← hys, List.length_take]; omega
    have hsr := hbr.size
    have hlt := hown.lt
    have hyl8 : ys.length ≤ 1000 := by omega
    have hsV := H.out.2.2.1
    have HO := Lib.hid (And.intro hown (And.intro hbr (And.intro hlt (And.intro hyl (And.intro hys hown.cap_le)))))
    clear hown hbr hlt hyl hys
    by_cases hil : i < ps.length
    · have hd1 : decide ((i : Int) < (ps.length : Int)) = true := decide_eq_true (by omega)
      have hilz : (i : Int) < (ps.length : Int) := by omega
      cases N with
      | zero =>
        obtain ⟨_, _, _, _, hv, _⟩ := H.out.2.2.2.1.get i hil
        exact hv.elim
      | succ n' =>
      obtain ⟨b, o, k2, m2, t2, kao, kks, kcap2, rfl, hx, hv, c0, c1, c2, c3, hblt⟩ := (H.out.2.2.2.1.below HO.out.2.1).cells i hil
      have ht := to_any _ _ wr _ _ hv (fun b hb => by have := H.out.2.2.2.2.1 b hb; omega) (by rw [← hx]; exact H.out.2.2.2.2.2.1 _ (List.getElem_mem hil))
      have HT := Lib.hid (And.intro ht (And.intro hx hv))
      clear ht hv hx
      go_wp2_with fail
      refine HT.out.1.mono ?_
      rintro e w2 ⟨cs', rfl, hy, hb2⟩
      obtain ⟨yo, ycap, hyv, hycs, _⟩ := hy.val
      rw [hyv]
      rw [hycs] at hy
      unfold patV
      obtain ⟨wa, hwa⟩ : ∃ wa, w2.alloc (.cells #[.int .i64 k2, .int .i64 m2, .string ⟨t2.toArray⟩, .slice yo kks.length ycap] 50) = wa := ⟨_, rfl⟩
      have hb2a : Below w2.heap.size w2 wa := by rw [← hwa]; exact (Below.refl _ w2).alloc (Nat.le_refl _) _
      have hs2 := hb2.size
      have hbra : Below wr.heap.size wr wa := hb2.trans (hb2a.mono hs2)
      have hata : At wa (some ⟨w2.heap.size, 0, none⟩) [.int .i64 k2, .int .i64 m2, .string ⟨t2.toArray⟩, .slice yo kks.length ycap] := by rw [← hwa]; exact At.new w2 #[.int .i64 k2, .int .i64 m2, .string ⟨t2.toArray⟩, .slice yo kks.length ycap] _
      have hsra := hbra.size
      have hs2a := hb2a.size
      have HA := Lib.hid (And.intro hb2a (And.intro hata (And.intro hbra (And.intro hwa hy))))
      obtain ⟨i0, hi0, hz0, hz1', hz2'⟩ := info_parts infoPat
      clear hb2a hbra hata hwa hy hb2 hyv hycs c0 c1 c2 c3
      go_wp2_with (first | (at_builtin; rw [HA.out.2.2.2.1]; refine app_own (elemV (n' + 1)) (by decide) rfl _ _ 26 rfl i0 _ 56 Try.underlying26 hi0 hz0 hz1' hz2' rfl (by decide) V.heap.size (DD (fun _ => False) V wa ao) ao cap ys.length ys rfl (by rfl) (own_dd (elemV _) (HO.out.1.below (elemV _) HA.out.2.2.1) HA.out.2.2.1.size) [.int .i64 k2, .int .i64 m2, .string ⟨t2.toArray⟩, .slice yo kks.length ycap] (.mk k2 m2 t2 kks) (HA.out.2.2.2.2.part hsr (fun j hj => (HO.out.2.2.1 j hj).2) HA.out.1) w2.heap.size (by rfl) HA.out.2.1 (fun b hb => by rcases hb with h | h; exact h.elim; exact h.2.1) (by omega) (by omega) ?_; rintro ao5 cap5 w5 q1 q2 q3; have hk5 : Below V.heap.size wr w5 := (HA.out.2.2.1.mono hsr).trans (q2.below (fun b hb h => by have := (HO.out.2.2.1 b h).1; omega) (by omega)); have HS5 := Lib.hid (And.intro (rowsof_step HO.out.2.1 HO.out.2.2.1 HA.out.2.2.1 q1 q2) hk5); rw [List.length_append, List.length_singleton] at HS5; obtain ⟨b3, o3, k3, m3, t3, kao3, kks3, kcap3, he3, hx3, hv3, c0, c1, c2, c3, hblt3⟩ := (H.out.2.2.2.1.below (HO.out.2.1.trans hk5)).cells i hil; cases he3; have HR := Lib.hid (rright_any _ _ w5 _ _ hv3); clear q1 q2 q3 hk5 hx3 hv3))
      · refine HR.out.mono ?_
        rintro e w6 ⟨rfl, hb6⟩
        have H6 := Lib.hid (HS5.out.1.below hb6)
        clear hb6 c0 c1 c2 c3
        obtain ⟨q, hq⟩ : ∃ q, rightP (.mk k3 m3 t3 kks3) = q := ⟨_, rfl⟩
        rw [hq]
        clear hq
        go_wp2_with fail
        go_roundw
        case rel => exact ⟨i + 1, q, by omega, by simp, rfl, by rw [List.take_succ_eq_append_getElem hil, HO.out.2.2.2.2.1, HT.out.2.1]; exact H6.out⟩
        case measure => simp [intOf]; omega
      · go_roundw
        case rel => exact ⟨i + 1, false, by omega, by simp, rfl, by rw [List.take_succ_eq_append_getElem hil, HO.out.2.2.2.2.1, HT.out.2.1]; exact HS5.out.1⟩
        case measure => simp [intOf]; omega
    · obtain rfl : i = ps.length := by omega
      have hd1 : decide ((ps.length : Int) < (ps.length : Int)) = false := decide_eq_false (by omega)
      have hyp : ps = ys := by rw [← HO.out.2.2.2.2.1, List.take_of_length_le (Nat.le_refl _)]
      have hvs := own_vs HO.out.1 (Keeps.refl (fun _ => False) _) (fun _ _ h => h) (Nat.le_refl _)
      have hcomp := compile_any (pcap := cap) hvs (fun b hb => hb.2) hyl8 (fun p hp => H.out.2.2.2.2.2.1 p (by rw [hyp]; exact hp))
      have HC := Lib.hid (And.intro hcomp hyp)
      clear hvs hcomp hyp
      go_wp2_with fail
      refine HC.out.1.mono ?_
      rintro e w5 ⟨hb5, hres⟩
      have hs5 := hb5.size
      have hb5V : Below V.heap.size V w5 := HO.out.2.1.trans (hb5.mono hsr)
      have hfin : ∀ (A : Obj), TreeAt (w5.alloc A) g (.bool false) (.int .i64 0) (.slice none 0 0) (.slice none 0 0) (.slice none 0 0) ∧ ∀ c0 c1 c2 c3 c4, Below w.heap.size w ((((((w5.alloc A).setCell ⟨g, 0, none⟩ c0).setCell ⟨g, 1, none⟩ c1).setCell ⟨g, 2, none⟩ c2).setCell ⟨g, 3, none⟩ c3).setCell ⟨g, 4, none⟩ c4) := fun A => by
        have h1 : Below V.heap.size V (w5.alloc A) := hb5V.alloc (by omega) _
        refine ⟨H.out.2.1.keeps (Keeps.of_below (X := fun j => V.heap.size ≤ j) h1) (by omega), fun c0 c1 c2 c3 c4 => ?_⟩
        rw [H.out.2.2.2.2.2.2.2]
        exact H.out.1.trans ((h1.mono (by omega)).trans ((keep5 (X := fun b => b = g) _ rfl _ _ _ _ _).below (fun i hi h => by omega) (by simp; omega)))
      have HFN := Lib.hid hfin
      have HB5 := Lib.hid hb5V
      clear hfin hb5V hb5
      rcases hres with ⟨_, rfl⟩ | ⟨_, _, rfl⟩ | ⟨hr, cs, rfl, ht⟩
      · obtain ⟨w6, hw6⟩ : ∃ w6, w5.alloc (.cells #[.bool false, .int .i64 0, .slice none 0 0, .slice none 0 0, .slice none 0 0] 29) = w6 := ⟨_, rfl⟩
        have hTn : TreeAt w6 w5.heap.size (.bool false) (.int .i64 0) (.slice none 0 0) (.slice none 0 0) (.slice none 0 0) := by rw [← hw6]; exact heap_alloc_new w5 _
        have hfn := HFN.out (.cells #[.bool false, .int .i64 0, .slice none 0 0, .slice none 0 0, .slice none 0 0] 29)
        rw [hw6] at hfn
        obtain ⟨x0, x1, x2, x3, x4, xf⟩ := hfn.1.cells
        obtain ⟨y0', y1', y2', y3', y4', yf'⟩ := hTn.cells
        have HT := Lib.hid (And.intro hw6 (And.intro hfn.2 hfn.1))
        clear hw6 hTn hfn
        go_upto_region 9 with (fail)
        rw [HT.out.1]
        cases bo
        · go_wp2_with fail
          refine bodyPost_ret (v := .tuple #[.agg #[.bool false, .int .i64 0, .slice none 0 0, .slice none 0 0, .slice none 0 0], .bool false, .bool true]) (results_tree _ _ g _ _ _ _ _ _ _ (by rfl) (by rfl) (by rfl) (HT.out.2.2.put _ _ _ _ _) ⟨_, rfl⟩ ⟨_, rfl⟩ ⟨_, _, _, rfl⟩ ⟨_, _, _, rfl⟩ ⟨_, _, _, rfl⟩) rfl ⟨HT.out.2.1 _ _ _ _ _, _, _, _, _, _, _, _, _, _, _, _, false, true, rfl, fun h => by cases h⟩
        · go_wp2_with fail
          refine bodyPost_ret (v := .tuple #[.agg #[.bool false, .int .i64 0, .slice none 0 0, .slice none 0 0, .slice none 0 0], .bool false, .bool false]) (results_tree _ _ g _ _ _ _ _ _ _ (by rfl) (by rfl) (by rfl) (HT.out.2.2.put _ _ _ _ _) ⟨_, rfl⟩ ⟨_, rfl⟩ ⟨_, _, _, rfl⟩ ⟨_, _, _, rfl⟩ ⟨_, _, _, rfl⟩) rfl ⟨HT.out.2.1 _ _ _ _ _, _, _, _, _, _, _, _, _, _, _, _, false, false, rfl, fun h => by cases h⟩
      · obtain ⟨w6, hw6⟩ : ∃ w6, w5.alloc (.cells #[.bool false, .int .i64 0, .slice none 0 0, .slice none 0 0, .slice none 0 0] 29) = w6 := ⟨_, rfl⟩
        have hTn : TreeAt w6 w5.heap.size (.bool false) (.int .i64 0) (.slice none 0 0) (.slice none 0 0) (.slice none 0 0) := by rw [← hw6]; exact heap_alloc_new w5 _
        have hfn := HFN.out (.cells #[.bool false, .int .i64 0, .slice none 0 0, .slice none 0 0, .slice none 0 0] 29)
        rw [hw6] at hfn
        obtain ⟨x0, x1, x2, x3, x4, xf⟩ := hfn.1.cells
        obtain ⟨y0', y1', y2', y3', y4', yf'⟩ := hTn.cells
        have HT := Lib.hid (And.intro hw6 (And.intro hfn.2 hfn.1))
        clear hw6 hTn hfn
        go_upto_region 9 with (fail)
        rw [HT.out.1]
        cases bo
        · go_wp2_with fail
          refine bodyPost_ret (v := .tuple #[.agg #[.bool false, .int .i64 0, .slice none 0 0, .slice none 0 0, .slice none 0 0], .bool false, .bool false]) (results_tree _ _ g _ _ _ _ _ _ _ (by rfl) (by rfl) (by rfl) (HT.out.2.2.put _ _ _ _ _) ⟨_, rfl⟩ ⟨_, rfl⟩ ⟨_, _, _, rfl⟩ ⟨_, _, _, rfl⟩ ⟨_, _, _, rfl⟩) rfl ⟨HT.out.2.1 _ _ _ _ _, _, _, _, _, _, _, _, _, _, _, _, false, false, rfl, fun h => by cases h⟩
        · go_wp2_with fail
          refine bodyPost_ret (v := .tuple #[.agg #[.bool false, .int .i64 0, .slice none 0 0, .slice none 0 0, .slice none 0 0], .bool false, .bool false]) (results_tree _ _ g _ _ _ _ _ _ _ (by rfl) (by rfl) (by rfl) (HT.out.2.2.put _ _ _ _ _) ⟨_, rfl⟩ ⟨_, rfl⟩ ⟨_, _, _, rfl⟩ ⟨_, _, _, rfl⟩ ⟨_, _, _, rfl⟩) rfl ⟨HT.out.2.1 _ _ _ _ _, _, _, _, _, _, _, _, _, _, _, _, false, false, rfl, fun h => by cases h⟩
      · obtain ⟨y0, y1, y2o, y2n, y2c, y3o, y3n, y3c, y4o, y4n, y4c, rfl⟩ := ht.val
        have HR := Lib.hid (And.intro hr ht)
        clear hr ht
        obtain ⟨w6, hw6⟩ : ∃ w6, w5.alloc (.cells #[.bool y0, .int .i64 y1, .slice y2o y2n y2c, .slice y3o y3n y3c, .slice y4o y4n y4c] 29) = w6 := ⟨_, rfl⟩
        have hTn : TreeAt w6 w5.heap.size (.bool y0) (.int .i64 y1) (.slice y2o y2n y2c) (.slice y3o y3n y3c) (.slice y4o y4n y4c) := by rw [← hw6]; exact heap_alloc_new w5 _
        have hfn := HFN.out (.cells #[.bool y0, .int .i64 y1, .slice y2o y2n y2c, .slice y3o y3n y3c, .slice y4o y4n y4c] 29)
        rw [hw6] at hfn
        obtain ⟨x0, x1, x2, x3, x4, xf⟩ := hfn.1.cells
        obtain ⟨y0', y1', y2', y3', y4', yf'⟩ := hTn.cells
        have HT := Lib.hid (And.intro hw6 (And.intro hfn.2 hfn.1))
        have hk8 := keep5 (X := fun b => b = g) w6 (g := g) rfl (.bool y0) (.int .i64 y1) (.slice y2o y2n y2c) (.slice y3o y3n y3c) (.slice y4o y4n y4c)
        have hsk8 := hk8.size
        have hkw6 : Below w5.heap.size w5 w6 := by rw [← hw6]; exact (Below.refl _ _).alloc (Nat.le_refl _) _
        have HTR := Lib.hid (And.intro (show rightPs ps = true by rw [HC.out.2]; exact HR.out.1) (show TreeIn (((((w6.setCell ⟨g, 0, none⟩ (.bool y0)).setCell ⟨g, 1, none⟩ (.int .i64 y1)).setCell ⟨g, 2, none⟩ (.slice y2o y2n y2c)).setCell ⟨g, 3, none⟩ (.slice y3o y3n y3c)).setCell ⟨g, 4, none⟩ (.slice y4o y4n y4c)) _ (stepsM ps) _ (buildM (stepsM ps) (initR 0 ps)) by
          rw [HC.out.2]
          exact ((HR.out.2.keeps (Keeps.of_below (X := fun _ => False) hkw6) (fun _ _ h => h)).keeps hk8 (fun b hb h => by rcases hb.1 with h1 | h1; (have := h1.1; omega); omega)).mono (fun b hb => Nat.lt_of_lt_of_le hb.2 (Nat.le_trans hkw6.size hsk8))))
        clear hw6 hTn hfn hk8 hsk8 hkw6
        go_upto_region 9 with (fail)
        rw [HT.out.1]
        cases bo
        · go_wp2_with fail
          refine bodyPost_ret (v := .tuple #[.agg #[.bool y0, .int .i64 y1, .slice y2o y2n y2c, .slice y3o y3n y3c, .slice y4o y4n y4c], .bool true, .bool false]) (results_tree _ _ g _ _ _ _ _ _ _ (by rfl) (by rfl) (by rfl) (HT.out.2.2.put _ _ _ _ _) ⟨_, rfl⟩ ⟨_, rfl⟩ ⟨_, _, _, rfl⟩ ⟨_, _, _, rfl⟩ ⟨_, _, _, rfl⟩) rfl ⟨HT.out.2.1 _ _ _ _ _, _, _, _, _, _, _, _, _, _, _, _, true, false, rfl, fun _ => HTR.out⟩
        · go_wp2_with fail
          refine bodyPost_ret (v := .tuple #[.agg #[.bool y0, .int .i64 y1, .slice y2o y2n y2c, .slice y3o y3n y3c, .slice y4o y4n y4c], .bool true, .bool true]) (results_tree _ _ g _ _ _ _ _ _ _ (by rfl) (by rfl) (by rfl) (HT.out.2.2.put _ _ _ _ _) ⟨_, rfl⟩ ⟨_, rfl⟩ ⟨_, _, _, rfl⟩ ⟨_, _, _, rfl⟩ ⟨_, _, _, rfl⟩) rfl ⟨HT.out.2.1 _ _ _ _ _, _, _, _, _, _, _, _, _, _, _, _, true, true, rfl, fun _ => HTR.out⟩
end Go.Proofs.Ytnhdefaagicejaa
