/- The walk of the document's Tame of values. -/
import Derived.Test.YtnhdefaagicejaaMatB
namespace Go.Proofs.Ytnhdefaagicejaa
set_option linter.unusedSimpArgs false
set_option linter.unusedVariables false
open Go.RowKit

theorem results_vtame (tmps : Array Value) (W : World) (g : Nat) (k m : Int) (t : List UInt8) (ao : Option Addr) (n cap : Nat) (z : Value) (hp : tmps[6]?.getD undef = .pointer (some ⟨g, 0, none⟩)) (hz : tmps[7]?.getD undef = z) (hc : PatAt W g k m t ao n cap) :
    (results Try.f9 tmps).run Try.prog W = .ok (.tuple #[patV k m t ao n cap, z]) W := by
  obtain ⟨c0, c1, c2, c3⟩ := hc
  have hu := Try.underlying34
  unfold patV
  simp only [results, Try.results9]
  go_simp
theorem infoVal : (Try.prog.info? 34).map (fun i => (i.zero, i.size, i.bytes)) = some (some (.agg #[.int .i64 0, .int .i64 0, .string ⟨#[]⟩, .slice none 0 0]), 4, 56) := by kernel_rfl
/-- Values of one's own, in a slot. -/
def ValsI (N : Nat) (W : World) (v : Value) (ys : List PV) (wr : World) : Prop :=
  ∃ ao cap, v = .slice ao ys.length cap ∧ OwnL 34 4 (VP N) wr W.heap.size (DD (fun _ => False) W wr ao) ao cap ys ∧ Below W.heap.size W wr
theorem vals_step {N : Nat} {W wr wa w5 : World} {l5 : List PV} {lo lo5 : Option Addr} {cap5 : Nat} (hbj : Below W.heap.size W wr) (hlt : ∀ j, blk lo = some j → W.heap.size ≤ j ∧ j < wr.heap.size) (hb : Below wr.heap.size wr wa) (q1 : OwnL 34 4 (VP N) w5 W.heap.size (DD (fun _ => False) W wa lo) lo5 cap5 l5) (q2 : Keeps (fun i => blk lo = some i) wa w5) : ValsI N W (.slice lo5 l5.length cap5) l5 w5 :=
  ⟨lo5, cap5, rfl, own_dd (elemV N) q1 q2.size, (hbj.trans (hb.mono hbj.size)).trans (q2.below (fun b hb h => by have := (hlt b h).1; omega) (by have := hbj.size; have := hb.size; omega))⟩
theorem own_vs {e : TypeId} {X : Nat → Prop} {N g : Nat} {W wr F : World} {ao : Option Addr} {cap : Nat} {ys : List PV} (hown : OwnL e 4 (VP N) wr W.heap.size (DD (fun _ => False) W wr ao) ao cap ys) (hk : Keeps X wr F) (hX : ∀ b, W.heap.size ≤ b → ¬ X b) (hg : g ≤ W.heap.size) : VsIn F (fun b => g ≤ b ∧ b < F.heap.size) N ao ys := by
  have hlt := hown.lt
  have hs := hk.size
  have h1 := ((hown.inl (elemV N) (by decide)).there (elemV N) (by decide)).keeps (elemV N) hk (fun b hb => by
    rcases hb.1 with (h1 | h1) | h1
    · exact h1.elim
    · exact hX b h1.1
    · exact hX b (hlt b h1).1)
  exact h1.mono (elemV N) (fun b hb => by
    refine ⟨?_, by have := hb.2; omega⟩
    rcases hb.1 with (h1 | h1) | h1
    · exact h1.elim
    · omega
    · have := (hlt b h1).1; omega)
def VTameOk (N : Nat) : Prop := ∀ (x : PV) (w : World) (D : Nat → Prop) (cs : List Value), VIn w D N cs x → (∀ b, D b → b < w.heap.size) → ∀ (deep left : Nat), 1 ≤ deep → deep ≤ 100 → 1 ≤ left → left ≤ 60 →
  Calls Try.prog 9 #[.agg cs.toArray, .int .i64 (deep : Int), .int .i64 (left : Int)] w (TameLeaves N left w)
set_option maxRecDepth 100000 in
set_option maxHeartbeats 8000000 in
theorem vtame_any : ∀ N : Nat, VTameOk N
  | 0 => fun _ _ _ _ h => h.elim
  | N + 1 => by
    have ih := vtame_any N
    rintro ⟨k, m, t, ks⟩ w D cs h hD deep left hd1 hd2 hl1 hl2
    obtain ⟨g, hg⟩ : ∃ g, w.heap.size = g := ⟨_, rfl⟩
    obtain ⟨ko, kcap, hv, hcs, hkc, hR, hks⟩ := h.val
    rw [hv]
    unfold patV
    have hkl : ks.length ≤ 9223372036854775807 := by omega
    obtain ⟨W, hW⟩ : ∃ W, (w.alloc (.cells #[.int .i64 k, .int .i64 m, .string ⟨t.toArray⟩, .slice ko ks.length kcap] 34)).alloc (.cells #[.int .i64 0, .int .i64 0, .string ⟨#[]⟩, .slice none 0 0] 34) = W := ⟨_, rfl⟩
    have hbW : Below g w W := by rw [← hW, ← hg]; exact ((Below.refl _ w).alloc (Nat.le_refl _) _).alloc (by simp) _
    have hr0 : Row4 W g 34 k m t ko ks.length kcap := by
      rw [← hW, ← hg]
      exact (Below.heap_alloc _ _ _ (by simp)).trans (heap_alloc_new w _)
    have hr1 : Row4 W (g + 1) 34 0 0 [] none 0 0 := by
      rw [← hW, ← hg]
      have := heap_alloc_new (w.alloc (.cells #[.int .i64 k, .int .i64 m, .string ⟨t.toArray⟩, .slice ko ks.length kcap] 34)) (.cells #[.int .i64 0, .int .i64 0, .string ⟨#[]⟩, .slice none 0 0] 34)
      simp only [World.size_alloc] at this
      exact this
    have hsW : W.heap.size = g + 2 := by rw [← hW, ← hg]; simp
    have H := Lib.hid (And.intro hbW (And.intro hsW (And.intro hr0 (And.intro hr1 (And.intro (hks.below (by rw [hg]; exact hbW)) (And.intro (show ∀ b, D b → b < g by rw [← hg]; exact hD) (And.intro hR (And.intro hg hW))))))))
    clear h hv hcs hkc hR hks hD hbW hr0 hr1 hsW hg hW
    go_enter Try.func9, Try.ntmps9
    go_upto_block 0 with (fail)
    rw [H.out.2.2.2.2.2.2.2.2, H.out.2.2.2.2.2.2.2.1]
    go_cut [2, 8, 9, 10, 11] from 14 to 49 (fun v2 v8 _ _ _ w' => ∃ (z : Nat) (ys : List PV), v2 = .int .i64 (z : Int) ∧ sizeVs ys + 1 + z = left ∧ ValsI N W v8 ys w')
    case first =>
      go_wp2_with fail
      go_loopw [2, 8, 9] (fun v2 v8 v9 wr => ∃ (i z : Nat) (ys : List PV), i ≤ ks.length ∧ i ≤ 12 ∧ v9 = .int .i64 (i : Int) ∧ v2 = .int .i64 (z : Int) ∧ sizeVs ys + 1 + z = left ∧ ys.length = i ∧ ValsI N W v8 ys wr) (fun v2 _ _ _ => (intOf v2).toNat)
      case atStart => exact ⟨0, left - 1, [], by omega, by omega, rfl, by congr 1; omega, by rw [sizeVs]; omega, rfl, none, 0, rfl, OwnL.nil _ _ _, Below.refl _ _⟩
      case round =>
        obtain ⟨i, z, ys, hi, hi12, rfl, rfl, hz, hyl, ao, cap, rfl, hown, hbr⟩ := hrel
        have hsr := hbr.size
        have hsW := H.out.2.1
        have hlt := hown.lt
        have hrg := H.out.2.2.1.keeps (Keeps.of_below (X := fun j => W.heap.size ≤ j) hbr) (by omega)
        obtain ⟨a0, a1, a2, a3⟩ := hrg.pat
        have hyz : ys.length ≤ 60 := by have := kids_le ys; omega
        have hz60 : z < left := by omega
        have HO := Lib.hid (And.intro hown (And.intro hbr (And.intro hlt (And.intro hz hyl))))
        clear hown hbr hrg hlt hz hyl hsW
        by_cases hgo : i < ks.length ∧ 1 < deep ∧ 0 < z ∧ i < 12
        · obtain ⟨hga, hgb, hgc, hgd⟩ := hgo
          have dA : decide ((i : Int) < (ks.length : Int)) = true := decide_eq_true (by omega)
          have dB : decide (1 < (deep : Int)) = true := decide_eq_true (by omega)
          have dC : decide (0 < (z : Int)) = true := decide_eq_true (by omega)
          have dD : decide ((i : Int) < 12) = true := decide_eq_true (by omega)
          have hilz : (i : Int) < (ks.length : Int) := by omega
          cases N with
          | zero =>
            obtain ⟨_, _, _, _, hv, _⟩ := H.out.2.2.2.2.1.get i hga
            exact hv.elim
          | succ n' =>
          obtain ⟨b, o, k2, m2, t2, kao, kks, kcap2, rfl, hx, hv, c0, c1, c2, c3, hblt⟩ := (H.out.2.2.2.2.1.below HO.out.2.1).cells i hga
          have ht := ih _ wr _ _ hv (fun b hb => by have := H.out.2.2.2.2.2.1 b hb; have := H.out.2.1; omega) (deep - 1) z (by omega) (by omega) (by omega) (by omega)
          rw [show (((deep - 1 : Nat)) : Int) = (deep : Int) - 1 by omega] at ht
          have HT := Lib.hid ht
          clear ht hv hx
          go_wp2_with fail
          refine HT.out.mono ?_
          rintro e w2 ⟨cs', y, z2, rfl, hz2, hy, hb2⟩
          obtain ⟨ky, my, ty, kys⟩ := y
          obtain ⟨yo, ycap, hyv, hycs, _⟩ := hy.val
          rw [hyv]
          rw [hycs] at hy
          unfold patV
          obtain ⟨W3, hW3⟩ : ∃ W3, w2.alloc (.cells #[.int .i64 ky, .int .i64 my, .string ⟨ty.toArray⟩, .slice yo kys.length ycap] 34) = W3 := ⟨_, rfl⟩
          obtain ⟨wa, hwa⟩ : ∃ wa, W3.alloc (.cells #[.int .i64 ky, .int .i64 my, .string ⟨ty.toArray⟩, .slice yo kys.length ycap] 34) = wa := ⟨_, rfl⟩
          have hb23 : Below w2.heap.size w2 W3 := by rw [← hW3]; exact (Below.refl _ w2).alloc (Nat.le_refl _) _
          have hb3a : Below W3.heap.size W3 wa := by rw [← hwa]; exact (Below.refl _ W3).alloc (Nat.le_refl _) _
          have hs2 := hb2.size
          have hs23 := hb23.size
          have hb2a : Below w2.heap.size w2 wa := hb23.trans (hb3a.mono hs23)
          have hbra : Below wr.heap.size wr wa := hb2.trans (hb2a.mono hs2)
          have hata : At wa (some ⟨W3.heap.size, 0, none⟩) [.int .i64 ky, .int .i64 my, .string ⟨ty.toArray⟩, .slice yo kys.length ycap] := by rw [← hwa]; exact At.new W3 #[.int .i64 ky, .int .i64 my, .string ⟨ty.toArray⟩, .slice yo kys.length ycap] _
          have hp3 : PatAt W3 w2.heap.size ky my ty yo kys.length ycap := by rw [← hW3]; exact PatAt.new w2 _ _ _ _ _ _ _
          obtain ⟨d0, d1, d2, d3⟩ := hp3
          have hsra := hbra.size
          have hs2a := hb2a.size
          have HA := Lib.hid (And.intro hb2a (And.intro hata (And.intro hbra (And.intro hwa (And.intro hy hz2)))))
          obtain ⟨i0, hi0, hz0, hz1', hz2'⟩ := info_parts infoVal
          clear hb23 hb3a hb2a hbra hata hwa hy hb2 hyv hycs hz2 c0 c1 c2 c3 a0 a1 a2 a3
          go_wp2_with (first | (at_builtin; rw [HA.out.2.2.2.1]; refine app_own (elemV (n' + 1)) (by decide) rfl _ _ 23 rfl i0 _ 56 Try.underlying23 hi0 hz0 hz1' hz2' rfl (by decide) W.heap.size (DD (fun _ => False) W wa ao) ao cap ys.length ys rfl (by rfl) (own_dd (elemV _) (HO.out.1.below (elemV _) HA.out.2.2.1) HA.out.2.2.1.size) [.int .i64 ky, .int .i64 my, .string ⟨ty.toArray⟩, .slice yo kys.length ycap] (.mk ky my ty kys) (HA.out.2.2.2.2.1.part hsr (fun j hj => (HO.out.2.2.1 j hj).2) HA.out.1) W3.heap.size (by rfl) HA.out.2.1 (fun b hb => by rcases hb with h | h; exact h.elim; exact h.2.1) (by omega) (by omega) ?_; rintro ao5 cap5 w5 q1 q2 q3; have HS5 := Lib.hid (vals_step HO.out.2.1 HO.out.2.2.1 HA.out.2.2.1 q1 q2); rw [List.length_append, List.length_singleton] at HS5; clear q1 q2 q3))
          go_roundw
          case rel =>
            exact ⟨i + 1, z2, ys ++ [.mk ky my ty kys], by omega, by omega, by simp, rfl, by have := HA.out.2.2.2.2.2; have := HO.out.2.2.2.1; rw [sizeVs_snoc]; omega, by rw [List.length_append, HO.out.2.2.2.2]; rfl, HS5.out⟩
          case measure =>
            have := HA.out.2.2.2.2.2
            have := sizeV_pos (.mk ky my ty kys)
            simp [intOf]
            omega
        · by_cases hga : i < ks.length
          · have dA : decide ((i : Int) < (ks.length : Int)) = true := decide_eq_true (by omega)
            by_cases hgb : 1 < deep
            · have dB : decide (1 < (deep : Int)) = true := decide_eq_true (by omega)
              by_cases hgc : 0 < z
              · have dC : decide (0 < (z : Int)) = true := decide_eq_true (by omega)
                have dD : decide ((i : Int) < 12) = false := decide_eq_false (by omega)
                have dD2 : decide (i < 12) = false := decide_eq_false (by omega)
                clear hgo
                go_wp2_with fail
                go_meet
                case rel => exact ⟨z, ys, rfl, HO.out.2.2.2.1, ao, cap, rfl, HO.out.1, HO.out.2.1⟩
              · have dC : decide (0 < (z : Int)) = false := decide_eq_false (by omega)
                have dC2 : decide (0 < z) = false := decide_eq_false (by omega)
                clear hgo
                go_wp2_with fail
                go_meet
                case rel => exact ⟨z, ys, rfl, HO.out.2.2.2.1, ao, cap, rfl, HO.out.1, HO.out.2.1⟩
            · have dB : decide (1 < (deep : Int)) = false := decide_eq_false (by omega)
              clear hgo
              go_wp2_with fail
              go_meet
              case rel => exact ⟨z, ys, rfl, HO.out.2.2.2.1, ao, cap, rfl, HO.out.1, HO.out.2.1⟩
          · have dA : decide ((i : Int) < (ks.length : Int)) = false := decide_eq_false (by omega)
            clear hgo
            go_wp2_with fail
            go_meet
            case rel => exact ⟨z, ys, rfl, HO.out.2.2.2.1, ao, cap, rfl, HO.out.1, HO.out.2.1⟩
    case rest =>
      obtain ⟨z, ys, rfl, hz, ao, cap, rfl, hown, hbr⟩ := hcut
      have hsr := hbr.size
      have hsW := H.out.2.1
      obtain ⟨n5, hn5⟩ : ∃ n5, min t.length 5000 = n5 := ⟨_, rfl⟩
      have hn5l : n5 ≤ t.length := by omega
      have HMIN := Lib.hid (show min ((t.length : Nat) : Int) 5000 = (n5 : Int) by omega)
      have hext : ByteArray.extract ⟨t.toArray⟩ 0 n5 = ⟨(t.take n5).toArray⟩ := by rw [ByteArray.extract_mk]; simp
      have hsz : (ByteArray.mk t.toArray).size = t.length := by rw [ByteArray.size]; simp
      have hr0 := H.out.2.2.1.keeps (Keeps.of_below (X := fun j => W.heap.size ≤ j) hbr) (by omega)
      have hr1 := H.out.2.2.2.1.keeps (Keeps.of_below (X := fun j => W.heap.size ≤ j) hbr) (by omega)
      obtain ⟨d0, d1, d2, d3⟩ := hr0.pat
      obtain ⟨e0, e1, e2, e3⟩ := hr1.pat
      have hf0 := hr0.frozen
      have hf1 := hr1.frozen
      have HC := Lib.hid (And.intro hown (And.intro hbr (And.intro hz (And.intro hr0 hr1))))
      clear hown hbr hz hr0 hr1 hn5 hsW
      go_wp2_with (refine op_min2 rfl _ _ _ rfl .i64 _ _ (n5 : Int) rfl rfl HMIN.out ?_)
      have hkV : Keeps (fun b => b = g ∨ b = g + 1) wc ((wc.setCell ⟨g, 3, none⟩ (.slice ao ys.length cap)).setCell ⟨g, 2, none⟩ (.string ⟨(t.take n5).toArray⟩)) := (keep1 wc (.inl rfl) _).trans' (keep1 _ (.inl rfl) _)
      have hrV : Row4 ((wc.setCell ⟨g, 3, none⟩ (.slice ao ys.length cap)).setCell ⟨g, 2, none⟩ (.string ⟨(t.take n5).toArray⟩)) (g + 1) _ 0 0 [] none 0 0 := (setCell_else0 _ _ _ _ _ (by omega)).trans ((setCell_else0 _ _ _ _ _ (by omega)).trans HC.out.2.2.2.2)
      have hrF := hrV.put k m (t.take n5) ao ys.length cap
      have hkF := hkV.trans' (keep4 (X := fun b => b = g ∨ b = g + 1) _ (g := g + 1) (.inr rfl) (.int .i64 k) (.int .i64 m) (.string ⟨(t.take n5).toArray⟩) (.slice ao ys.length cap))
      have hsW := H.out.2.1
      have hvs := own_vs HC.out.1 hkF (fun b hb h => by rcases h with h | h <;> omega) (show g ≤ W.heap.size by omega)
      have hcl := HC.out.1.cap_le
      refine bodyPost_ret (v := .tuple #[patV k m (t.take n5) ao ys.length cap, .int .i64 (z : Int)]) (results_vtame _ _ (g + 1) k m (t.take n5) ao ys.length cap _ (by rfl) (by rfl) hrF.pat) rfl ⟨_, .mk k m (t.take n5) ys, z, rfl, by rw [sizeV]; exact HC.out.2.2.1, VIn.row.2 ⟨ao, cap, rfl, hcl.1, ⟨hcl.2, H.out.2.2.2.2.2.2.1.2.1, H.out.2.2.2.2.2.2.1.2.2.1, by have := H.out.2.2.2.2.2.2.1.2.2.2; rw [List.length_take]; omega⟩, ?_⟩, ?_⟩
      · rw [H.out.2.2.2.2.2.2.2.1]
        exact hvs
      · rw [H.out.2.2.2.2.2.2.2.1]
        exact H.out.1.trans ((HC.out.2.1.mono (by omega)).trans (hkF.below (fun i hi h => by rcases h with h | h <;> omega) (by omega)))
end Go.Proofs.Ytnhdefaagicejaa
