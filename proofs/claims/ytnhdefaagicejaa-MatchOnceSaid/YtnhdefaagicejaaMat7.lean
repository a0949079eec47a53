/- The walk of match.Compile. -/
import Derived.Test.YtnhdefaagicejaaMat6
namespace Go.Proofs.Ytnhdefaagicejaa
set_option linter.unusedSimpArgs false
set_option linter.unusedVariables false
open Go.RowKit

abbrev treeZ : Value := .agg #[.bool false, .int .i64 0, .slice none 0 0, .slice none 0 0, .slice none 0 0]
theorem results_compile (tmps : Array Value) (W : World) (g : Nat) (k : Bool) (num : Int) (po to_ ko : Option Addr) (pn pcap tn tcap kn kcap : Nat) (z : Value) (hp : tmps[2]?.getD undef = .pointer (some ⟨g, 0, none⟩)) (hz : tmps[3]?.getD undef = z) (hc : TreeAt W g (.bool k) (.int .i64 num) (.slice po pn pcap) (.slice to_ tn tcap) (.slice ko kn kcap)) :
    (results Try.f15 tmps).run Try.prog W = .ok (.tuple #[.agg #[.bool k, .int .i64 num, .slice po pn pcap, .slice to_ tn tcap, .slice ko kn kcap], z]) W := by
  obtain ⟨c0, c1, c2, c3, c4, _⟩ := hc.cells
  have hu := Try.underlying29
  simp only [results, Try.results15]
  go_simp
/-- How far a tree of these patterns may go. -/
def stepsM (ps : List PV) : Nat := measM (initR 0 ps) + 1
/-- What a call to Compile leaves. -/
def Compiles (w : World) (D : Nat → Prop) (ps : List PV) (e : Ending) (w' : World) : Prop :=
  Below w.heap.size w w' ∧ ((rightPs ps = false ∧ e = .returned (.tuple #[treeZ, .int .i64 1])) ∨ (rightPs ps = true ∧ 200000 < cntM (stepsM ps) (initR 0 ps) ∧ e = .returned (.tuple #[treeZ, .int .i64 4])) ∨ (rightPs ps = true ∧ ∃ cs, e = .returned (.tuple #[.agg cs.toArray, .int .i64 0]) ∧ TreeIn w' (fun b => (D b ∨ w.heap.size ≤ b) ∧ b < w'.heap.size) (stepsM ps) cs (buildM (stepsM ps) (initR 0 ps))))
theorem initR_bd : ∀ (ps : List PV) (i : Nat), (∀ p ∈ ps, sizeV p ≤ 100000) → ∀ r ∈ initR i ps, Bd r
  | [], _, _, _, h => by cases h
  | p :: ps, i, hp, r, h => by
    rw [initR] at h
    rcases List.mem_cons.1 h with rfl | h
    · have := hp p (by simp)
      unfold Bd
      simp only
      split
      · exact ⟨by simp [sizeC], fun c hc => by cases hc⟩
      · refine ⟨by rw [sizeC_cons, sizeC_nil]; simp only; omega, fun c hc => ?_⟩
        rw [List.mem_singleton] at hc
        subst hc
        simp only [List.length_nil]
        omega
    · exact initR_bd ps (i + 1) (fun q hq => hp q (by simp [hq])) r h
set_option maxRecDepth 100000 in
set_option maxHeartbeats 8000000 in
theorem compile_any {n : Nat} {w : World} {D : Nat → Prop} {po : Option Addr} {pcap : Nat} {ps : List PV} (hps : VsIn w D n po ps) (hD : ∀ b, D b → b < w.heap.size) (hl : ps.length ≤ 1000) (hsz : ∀ p ∈ ps, sizeV p ≤ 100000) :
    Calls Try.prog 15 #[.slice po ps.length pcap] w (Compiles w D ps) := by
  obtain ⟨g, hg⟩ : ∃ g, w.heap.size = g := ⟨_, rfl⟩
  obtain ⟨V, hV⟩ : ∃ V, w.alloc (.cells #[.bool false, .int .i64 0, .slice none 0 0, .slice none 0 0, .slice none 0 0] 29) = V := ⟨_, rfl⟩
  have hbV : Below g w V := by rw [← hV, ← hg]; exact (Below.refl _ _).alloc (Nat.le_refl _) _
  have hTV : TreeAt V g (.bool false) (.int .i64 0) (.slice none 0 0) (.slice none 0 0) (.slice none 0 0) := by rw [← hV, ← hg]; exact heap_alloc_new w _
  have hsV : V.heap.size = g + 1 := by rw [← hV, ← hg]; simp
  have H := Lib.hid (And.intro hbV (And.intro hTV (And.intro hsV (And.intro (hps.below (by rw [hg]; exact hbV)) (And.intro (show ∀ b, D b → b < g by rw [← hg]; exact hD) (And.intro hsz (And.intro hV hg)))))))
  clear hbV hTV hsV hps hD hsz hV hg
  go_enter Try.func15, Try.ntmps15
  go_upto_block 0 with (fail)
  rw [H.out.2.2.2.2.2.2.1, H.out.2.2.2.2.2.2.2]
  go_wp2_with fail
  go_loopw [4, 11] (fun v4 v11 wr => ∃ i : Nat, i ≤ ps.length ∧ v11 = .int .i64 (i : Int) ∧ RowsI n D V v4 (initR 0 (ps.take i)) wr ∧ (∀ j (hj : j < ps.length), j < i → rightP ps[j] = true)) (fun _ v11 _ => ps.length - (intOf v11).toNat)
  case atStart => exact ⟨0, by omega, rfl, ⟨none, 0, rfl, OwnL.nil _ _ _, Below.refl _ _⟩, fun j hj h => by omega⟩
  case round =>
    obtain ⟨i, hi, rfl, hRI, hall⟩ := hrel
    obtain ⟨l, hll⟩ : ∃ l, initR 0 (ps.take i) = l := ⟨_, rfl⟩
    have hlen : l.length ≤ 1000 := by rw [← hll, initR_length, List.length_take]; omega
    rw [hll] at hRI
    obtain ⟨lo, lcap, rfl, hown, hbj⟩ := hRI
    have hsj := hbj.size
    have hsV := H.out.2.2.1
    have HA0 := Lib.hid (And.intro hown (And.intro hbj (And.intro hown.lt (And.intro hll hall))))
    by_cases hlt : i < ps.length
    · have hdi : decide ((i : Int) < (ps.length : Int)) = true := decide_eq_true (by omega)
      cases n with
      | zero =>
        obtain ⟨_, _, _, _, hv, _⟩ := H.out.2.2.2.1.get i hlt
        exact hv.elim
      | succ n' =>
      obtain ⟨b, o, k, m, t, kao, ks, kcap, rfl, hx, hv, c0, c1, c2, c3, hblt⟩ := (H.out.2.2.2.1.below hbj).cells i hlt
      have hbA : Below wr.heap.size wr (wr.alloc (.cells #[.int .i64 k, .int .i64 m, .string ⟨t.toArray⟩, .slice kao ks.length kcap] 50)) := (Below.refl _ _).alloc (Nat.le_refl _) _
      have hr := mright_any (n' + 1) (.mk k m t ks) _ D _ (hv.below hbA)
      have hpA := PatAt.new wr k m t kao ks.length kcap 50
      obtain ⟨q, hq⟩ : ∃ q, rightP (.mk k m t ks) = q := ⟨_, rfl⟩
      rw [hq] at hr
      have HA := Lib.hid (And.intro hr (And.intro hbA (And.intro hpA (And.intro hx (And.intro hq hv)))))
      clear hr hbA hpA hx hq hv hown hbj hll hall
      go_wp2_with fail
      refine HA.out.1.mono ?_
      rintro e w2 ⟨rfl, hb2⟩
      have hb12 : Below wr.heap.size wr w2 := HA.out.2.1.trans (hb2.mono HA.out.2.1.size)
      have hp2 := HA.out.2.2.1.below hb2
      cases q
      · have hT2 := H.out.2.1.keeps (Keeps.of_below (X := fun _ => False) (HA0.out.2.1.trans (hb12.mono hsj))) (fun h => h)
        obtain ⟨x0, x1, x2, x3, x4, xf⟩ := hT2.cells
        have HB := Lib.hid (And.intro hT2 hb12)
        clear hT2 hb12 hp2 hb2
        go_wp2_with fail
        refine bodyPost_ret (v := .tuple #[treeZ, .int .i64 1]) (results_compile _ _ g false 0 none none none 0 0 0 0 0 0 _ (by rfl) (by rfl) (HB.out.1.put _ _ _ _ _)) rfl ⟨?_, .inl ⟨?_, rfl⟩⟩
        · rw [H.out.2.2.2.2.2.2.2]
          exact H.out.1.trans (Keeps.below (X := fun b => g ≤ b) ((Keeps.of_below (HA0.out.2.1.trans (HB.out.2.mono hsj))).trans' (keep5 (X := fun b => g ≤ b) _ (by omega) _ _ _ _ _)) (fun b hb h => by omega) (by omega))
        · exact rightPs_false i hlt (by rw [HA.out.2.2.2.1]; exact HA.out.2.2.2.2.1)
      · obtain ⟨ex, hex⟩ : ∃ ex, (if openP (.mk k m t ks) then [] else [⟨[], .mk k m t ks⟩] : List CellM) = ex := ⟨_, rfl⟩
        have hadd := add_any (n := n' + 1) (w := w2) (base := w2.heap.size) (D := D) (cs := []) (ao := none) (cap := 0) (OwnL.nil _ _ _) (fun b hb => by have := H.out.2.2.2.2.1 b hb; have := hb12.size; omega) (Nat.le_refl _) (by simp) (path := []) (po := none) (pcap := 0) (p := .mk k m t ks) ⟨none, 0, rfl, Nat.le_refl _, by decide, .inl rfl, fun h => absurd rfl h⟩ (HA.out.2.2.2.2.2.below hb12)
        rw [List.nil_append, hex] at hadd
        have hxl : ex.length ≤ 1 := by rw [← hex]; split <;> simp
        have hnx : initR 0 (ps.take (i + 1)) = l ++ [⟨(i : Int), ex⟩] := by
          rw [List.take_succ_eq_append_getElem hlt, initR_snoc, HA0.out.2.2.2.1, HA.out.2.2.2.1, hex, List.length_take, Nat.min_eq_left (Nat.le_of_lt hlt), Nat.zero_add]
        obtain ⟨d0, d1, d2, d3⟩ := hp2
        have HB := Lib.hid (And.intro hadd (And.intro hb12 hnx))
        have hs2 := hb2.size
        have hs12 := hb12.size
        clear hadd hb12 hnx hb2 hex
        go_wp2_with fail
        refine HB.out.1.mono ?_
        rintro e w3 ⟨co3, ccap3, rfl, hown3, hb3⟩
        have hcl3 := hown3.cap_le
        have hlt3 := hown3.lt
        have hbL : Below w3.heap.size w3 (w3.alloc (.cells #[.int .i64 (i : Int), .slice co3 ex.length ccap3] 63)) := (Below.refl _ _).alloc (Nat.le_refl _) _
        have hb13 : Below wr.heap.size wr w3 := HB.out.2.1.trans (hb3.mono hs12)
        have HC := Lib.hid (And.intro (hown3.inl (elemC _) (by decide)) (And.intro hbL (And.intro (hb13.trans (hbL.mono hb13.size)) (And.intro hcl3 (And.intro hlt3 (And.intro hb13 (show w3.heap.size + 1 = (w3.alloc (.cells #[.int .i64 (i : Int), .slice co3 ex.length ccap3] 63)).heap.size by simp)))))))
        obtain ⟨i0, hi0, hz0, hz1', hz2⟩ := info_parts infoRow
        clear hown3 hb3 hcl3 hlt3 hbL hb13 d0 d1 d2 d3
        go_wp2_with (refine app_own (elemR (n' + 1)) (by decide) rfl _ _ 58 rfl i0 _ 32 Try.underlying58 hi0 hz0 hz1' hz2 rfl (by decide) V.heap.size (DD D V (w3.alloc (.cells #[.int .i64 (i : Int), .slice co3 ex.length ccap3] 63)) lo) lo lcap l.length l rfl rfl (own_dd (elemR _) (HA0.out.1.below (elemR _) HC.out.2.2.1) HC.out.2.2.1.size) [.int .i64 (i : Int), .slice co3 ex.length ccap3] ⟨(i : Int), ex⟩ ⟨_, rfl, co3, ccap3, rfl, HC.out.2.2.2.1.1, HC.out.2.2.2.1.2, (HC.out.1.below (elemC _) HC.out.2.1).mono (elemC _) (fun b hb => by rcases hb with h | h; exact .inl h; (have h2 := HC.out.2.2.2.2.1 b h; exact .inr ⟨by omega, by have := HC.out.2.2.2.2.2.2; omega, fun h' => by have := (HA0.out.2.2.1 b h').2; omega⟩))⟩ w3.heap.size rfl (At.new w3 #[.int .i64 (i : Int), .slice co3 ex.length ccap3] _) (fun b hb => by rcases hb with h | h; (have := H.out.2.2.2.2.1 b h; have := HC.out.2.2.1.size; omega); exact h.2.1) (by omega) (by have := HC.out.2.2.1.size; omega) ?_; rintro lo5 lcap5 w5 q1 q2 q3; have HS5 := Lib.hid (rows_step HA0.out.2.1 HA0.out.2.2.1 HC.out.2.2.1 q1 q2); clear q1 q2 q3)
        go_roundw
        case rel =>
          refine ⟨i + 1, by omega, by simp, by rw [HB.out.2.2]; have := HS5.out; rw [List.length_append] at this; exact this, fun j hj hji => ?_⟩
          rcases Nat.lt_or_ge j i with h | h
          · exact HA0.out.2.2.2.2 j hj h
          · obtain rfl : j = i := by omega
            rw [HA.out.2.2.2.1]
            exact HA.out.2.2.2.2.1
        case measure => simp [intOf]; omega
    · obtain rfl : i = ps.length := by omega
      have hdi : decide ((ps.length : Int) < (ps.length : Int)) = false := decide_eq_false (by omega)
      rw [List.take_of_length_le (Nat.le_refl _)] at hll
      have hri : rightPs ps = true := rightPs_true fun j hj => hall j hj hj
      have hbB : Below wr.heap.size wr (wr.alloc (.cells #[.int .i64 0, .bool false] 66)) := (Below.refl _ _).alloc (Nat.le_refl _) _
      have hBB : BldAt (wr.alloc (.cells #[.int .i64 0, .bool false] 66)) wr.heap.size 0 false := heap_alloc_new wr _
      have hlo := hown.lt
      have hbuild := build_any (stepsM ps) l (wr.alloc (.cells #[.int .i64 0, .bool false] 66)) (fun b => DD D V wr lo b ∨ blk lo = some b) n wr.heap.size 0 false lo lcap (by unfold stepsM; rw [hll]; omega) hlen (by rw [← hll]; exact initR_bd ps 0 H.out.2.2.2.2.2.1) hBB ((hown.inl (elemR _) (by decide)).below (elemR _) hbB) (fun b hb => by
        simp only [World.size_alloc]
        rcases hb with (hb | hb) | hb
        · have := H.out.2.2.2.2.1 b hb; omega
        · have := hb.2.1; omega
        · have := (hlo b hb).2; omega) (fun hb => by
        rcases hb with (hb | hb) | hb
        · have := H.out.2.2.2.2.1 _ hb; omega
        · have := hb.2.1; omega
        · have := (hlo _ hb).2; omega)
      have HE := Lib.hid (And.intro hbuild (And.intro hri (And.intro hll (And.intro hbj hbB))))
      have HLO := Lib.hid hlo
      clear hbuild hri hll hbj hbB hBB hown hall hlo HA0
      go_wp2_with fail
      refine HE.out.1.mono ?_
      rintro e w5 ⟨cs, t, z2, big2, rfl, ht, hB5, hk5, h1, h2, h3⟩
      obtain ⟨y0, y1, y2o, y2n, y2c, y3o, y3n, y3c, y4o, y4n, y4c, rfl⟩ := ht.val
      have hs5 := hk5.size
      simp only [World.size_alloc] at hs5
      have hbT : Below w5.heap.size w5 (w5.alloc (.cells #[.bool y0, .int .i64 y1, .slice y2o y2n y2c, .slice y3o y3n y3c, .slice y4o y4n y4c] 29)) := (Below.refl _ _).alloc (Nat.le_refl _) _
      have hkV6 : Keeps (fun b => V.heap.size ≤ b) V (w5.alloc (.cells #[.bool y0, .int .i64 y1, .slice y2o y2n y2c, .slice y3o y3n y3c, .slice y4o y4n y4c] 29)) := ((Keeps.of_below (HE.out.2.2.2.1.trans (HE.out.2.2.2.2.mono hsj))).trans' (hk5.mono (fun b hb h => by simp only [World.size_alloc] at hb; omega))).trans' (Keeps.of_below hbT)
      obtain ⟨w6, hw6⟩ : ∃ w6, w5.alloc (.cells #[.bool y0, .int .i64 y1, .slice y2o y2n y2c, .slice y3o y3n y3c, .slice y4o y4n y4c] 29) = w6 := ⟨_, rfl⟩
      have hT8 : TreeAt w6 w5.heap.size (.bool y0) (.int .i64 y1) (.slice y2o y2n y2c) (.slice y3o y3n y3c) (.slice y4o y4n y4c) := by rw [← hw6]; exact heap_alloc_new w5 _
      rw [hw6] at hkV6 hbT
      have hB6 := hB5.keeps (Keeps.of_below (X := fun _ => False) hbT) (fun h => h)
      have hT2 := H.out.2.1.keeps hkV6 (fun h => by omega)
      obtain ⟨b0, b1, bf⟩ := hB6.cells
      obtain ⟨x0, x1, x2, x3, x4, xf⟩ := hT2.cells
      obtain ⟨v0, v1, v2, v3, v4, vf⟩ := hT8.cells
      have HW6 := Lib.hid hw6
      have HF := Lib.hid (And.intro hT2 (And.intro hkV6 (And.intro (ht.keeps (Keeps.of_below (X := fun _ => False) hbT) (fun _ _ h => h)) (And.intro h1 (And.intro h2 (And.intro h3 (And.intro hbT hT8)))))))
      clear hT2 hkV6 ht h1 h2 h3 hbT hB5 hB6 hk5 hw6 hT8
      go_upto_region 11 with (fail)
      rw [HW6.out]
      have hsV2 := H.out.2.2.1
      have hs6 := HF.out.2.2.2.2.2.2.1.size
      cases big2
      · go_wp2_with fail
        have hk8 := keep5 (X := fun b => b = g) w6 (g := g) rfl (.bool y0) (.int .i64 y1) (.slice y2o y2n y2c) (.slice y3o y3n y3c) (.slice y4o y4n y4c)
        have hl8 := hk8.size
        refine bodyPost_ret (v := .tuple #[.agg #[.bool y0, .int .i64 y1, .slice y2o y2n y2c, .slice y3o y3n y3c, .slice y4o y4n y4c], .int .i64 0]) (results_compile _ _ g y0 y1 y2o y3o y4o y2n y2c y3n y3c y4n y4c _ (by rfl) (by rfl) (HF.out.1.put _ _ _ _ _)) rfl ⟨?_, .inr (.inr ⟨HE.out.2.1, _, rfl, ?_⟩)⟩
        · rw [H.out.2.2.2.2.2.2.2]
          exact H.out.1.trans (Keeps.below (X := fun b => g ≤ b) ((HF.out.2.1.mono (fun b hb h => by omega)).trans' (hk8.mono (fun b hb h => by omega))) (fun b hb h => by omega) (by omega))
        · rw [HE.out.2.2.1, ← HF.out.2.2.2.2.1 (by trivial)]
          rw [H.out.2.2.2.2.2.2.2]
          refine (HF.out.2.2.1.there.keeps hk8 (fun b hb h => ?_)).mono (fun b hb => ⟨?_, Nat.lt_of_lt_of_le hb.2 hl8⟩)
          · have h9 := hb.1
            simp only [World.size_alloc] at h9
            rcases h9 with ((h9 | h9) | h9) | h9
            · have := H.out.2.2.2.2.1 b h9; omega
            · have := h9.1; omega
            · have := HLO.out b h9; omega
            · omega
          · have h9 := hb.1
            simp only [World.size_alloc] at h9
            rcases h9 with ((h9 | h9) | h9) | h9
            · exact .inl h9
            · have := h9.1; exact .inr (by omega)
            · have := HLO.out b h9; exact .inr (by omega)
            · exact .inr (by omega)
      · go_wp2_with fail
        have hk8 := keep5 (X := fun b => b = g) w6 (g := g) rfl (.bool false) (.int .i64 0) (.slice none 0 0) (.slice none 0 0) (.slice none 0 0)
        refine bodyPost_ret (v := .tuple #[treeZ, .int .i64 4]) (results_compile _ _ g false 0 none none none 0 0 0 0 0 0 _ (by rfl) (by rfl) (HF.out.1.put _ _ _ _ _)) rfl ⟨?_, .inr (.inl ⟨HE.out.2.1, ?_, rfl⟩)⟩
        · rw [H.out.2.2.2.2.2.2.2]
          exact H.out.1.trans (Keeps.below (X := fun b => g ≤ b) ((HF.out.2.1.mono (fun b hb h => by omega)).trans' (hk8.mono (fun b hb h => by omega))) (fun b hb h => by omega) (by omega))
        · rcases Nat.lt_or_ge 200000 (cntM (stepsM ps) (initR 0 ps)) with h | h
          · exact h
          · have h5 := (HF.out.2.2.2.2.2.1 (by decide) (by rw [← HE.out.2.2.1]; omega)).2
            cases h5
end Go.Proofs.Ytnhdefaagicejaa
