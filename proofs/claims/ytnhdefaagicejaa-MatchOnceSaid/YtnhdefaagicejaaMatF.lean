/- The walks of the law's few and tree. -/
import Derived.Test.YtnhdefaagicejaaMatC
namespace Go.Proofs.Ytnhdefaagicejaa
set_option linter.unusedSimpArgs false
set_option linter.unusedVariables false
open Go.RowKit

/-- Values of one's own, in a slot. -/
def RowsOf (e : TypeId) (N : Nat) (W : World) (v : Value) (ys : List PV) (wr : World) : Prop :=
  ∃ ao cap, v = .slice ao ys.length cap ∧ OwnL e 4 (VP N) wr W.heap.size (DD (fun _ => False) W wr ao) ao cap ys ∧ Below W.heap.size W wr
theorem rowsof_step {e : TypeId} {N : Nat} {W wr wa w5 : World} {l5 : List PV} {lo lo5 : Option Addr} {cap5 : Nat} (hbj : Below W.heap.size W wr) (hlt : ∀ j, blk lo = some j → W.heap.size ≤ j ∧ j < wr.heap.size) (hb : Below wr.heap.size wr wa) (q1 : OwnL e 4 (VP N) w5 W.heap.size (DD (fun _ => False) W wa lo) lo5 cap5 l5) (q2 : Keeps (fun i => blk lo = some i) wa w5) : RowsOf e N W (.slice lo5 l5.length cap5) l5 w5 :=
  ⟨lo5, cap5, rfl, own_dd (elemV N) q1 q2.size, (hbj.trans (hb.mono hbj.size)).trans (q2.below (fun b hb h => by have := (hlt b h).1; omega) (by have := hbj.size; have := hb.size; omega))⟩
theorem RowsOf.below {e : TypeId} {N : Nat} {W wr w' : World} {v : Value} {l : List PV} (h : RowsOf e N W v l wr) (hb : Below wr.heap.size wr w') : RowsOf e N W v l w' := by
  obtain ⟨lo, lcap, h1, h2, h3⟩ := h
  exact ⟨lo, lcap, h1, own_dd (elemV N) (h2.below (elemV N) hb) hb.size, h3.trans (hb.mono h3.size)⟩
/-- What a call to few leaves. -/
def Fews (N : Nat) (w : World) (e : Ending) (w' : World) : Prop :=
  ∃ (ao : Option Addr) (cap : Nat) (ys : List PV), e = .returned (.slice ao ys.length cap) ∧ (ys.length ≤ cap ∧ cap ≤ 9223372036854775807) ∧ ys.length ≤ 8 ∧ (∀ y ∈ ys, sizeV y ≤ 30) ∧ VsIn w' (fun b => w.heap.size ≤ b ∧ b < w'.heap.size) N ao ys ∧ Below w.heap.size w w'
set_option maxRecDepth 100000 in
set_option maxHeartbeats 8000000 in
theorem few_any {N : Nat} {w : World} {D : Nat → Prop} {lo : Option Addr} {lcap : Nat} {ps : List PV} (hps : VsIn w D N lo ps) (hD : ∀ b, D b → b < w.heap.size) (hpl : ps.length ≤ 9223372036854775807) :
    Calls Try.prog 5 #[.slice lo ps.length lcap] w (Fews N w) := by
  have H := Lib.hid (And.intro hps hD)
  clear hps hD
  go_enter Try.func5, Try.ntmps5
  go_wp2_with fail
  go_loopw [3, 4] (fun v3 v4 wr => ∃ (i : Nat) (ys : List PV), i ≤ ps.length ∧ i ≤ 8 ∧ v4 = .int .i64 (i : Int) ∧ ys.length = i ∧ (∀ y ∈ ys, sizeV y ≤ 30) ∧ RowsOf 37 N w v3 ys wr) (fun _ v4 _ => 8 - (intOf v4).toNat)
  case atStart => exact ⟨0, [], by omega, by omega, rfl, rfl, fun y hy => by simp at hy, none, 0, rfl, OwnL.nil _ _ _, Below.refl _ _⟩
  case round =>
    obtain ⟨i, ys, hi, hi8, rfl, hyl, hysz, ao, cap, rfl, hown, hbr⟩ := hrel
    have hsr := hbr.size
    have hlt := hown.lt
    have hyl8 : ys.length ≤ 8 := by omega
    have HO := Lib.hid (And.intro hown (And.intro hbr (And.intro hlt (And.intro hyl hysz))))
    clear hown hbr hlt hyl hysz
    by_cases hil : i < ps.length
    · have hd1 : decide ((i : Int) < (ps.length : Int)) = true := decide_eq_true (by omega)
      by_cases h8 : i < 8
      · have hd8 : decide ((i : Int) < 8) = true := decide_eq_true (by omega)
        have hilz : (i : Int) < (ps.length : Int) := by omega
        cases N with
        | zero =>
          obtain ⟨_, _, _, _, hv, _⟩ := H.out.1.get i hil
          exact hv.elim
        | succ n' =>
        obtain ⟨b, o, k2, m2, t2, kao, kks, kcap2, rfl, hx, hv, c0, c1, c2, c3, hblt⟩ := (H.out.1.below HO.out.2.1).cells i hil
        have ht := ptame_any _ _ wr _ _ hv (fun b hb => by have := H.out.2 b hb; omega) 6 30 (by omega) (by omega) (by omega) (by omega)
        have HT := Lib.hid ht
        clear ht hv hx
        go_wp2_with fail
        refine HT.out.mono ?_
        rintro e w2 ⟨cs', y, z2, rfl, hz2, hy, hb2⟩
        obtain ⟨ky, my, ty, kys⟩ := y
        obtain ⟨yo, ycap, hyv, hycs, _⟩ := hy.val
        rw [hyv]
        rw [hycs] at hy
        unfold patV
        obtain ⟨W3, hW3⟩ : ∃ W3, w2.alloc (.cells #[.int .i64 ky, .int .i64 my, .string ⟨ty.toArray⟩, .slice yo kys.length ycap] 37) = W3 := ⟨_, rfl⟩
        obtain ⟨wa, hwa⟩ : ∃ wa, W3.alloc (.cells #[.int .i64 ky, .int .i64 my, .string ⟨ty.toArray⟩, .slice yo kys.length ycap] 37) = wa := ⟨_, rfl⟩
        have hb23 : Below w2.heap.size w2 W3 := by rw [← hW3]; exact (Below.refl _ w2).alloc (Nat.le_refl _) _
        have hb3a : Below W3.heap.size W3 wa := by rw [← hwa]; exact (Below.refl _ W3).alloc (Nat.le_refl _) _
        have hs2 := hb2.size
        have hs23 := hb23.size
        have hb2a : Below w2.heap.size w2 wa := hb23.trans (hb3a.mono hs23)
        have hbra : Below wr.heap.size wr wa := hb2.trans (hb2a.mono hs2)
        have hata : At wa (some ⟨W3.heap.size, 0, none⟩) [.int .i64 ky, .int .i64 my, .string ⟨ty.toArray⟩, .slice yo kys.length ycap] := by rw [← hwa]; exact At.new W3 #[.int .i64 ky, .int .i64 my, .string ⟨ty.toArray⟩, .slice yo kys.length ycap] _
        have hp3 : PatAt W3 w2.heap.size ky my ty yo kys.length ycap := by rw [← hW3]; exact PatAt.new w2 _ _ _ _ _ _ _
        obtain ⟨d0, d1, d2, d3⟩ := hp3
        have hsra := hbra.size
        have hs2a := hb2a.size
        have HA := Lib.hid (And.intro hb2a (And.intro hata (And.intro hbra (And.intro hwa (And.intro hy hz2)))))
        obtain ⟨i0, hi0, hz0, hz1', hz2'⟩ := info_parts infoRP
        clear hb23 hb3a hb2a hbra hata hwa hy hb2 hyv hycs hz2 c0 c1 c2 c3
        go_wp2_with (first | (at_builtin; rw [HA.out.2.2.2.1]; refine app_own (elemV (n' + 1)) (by decide) rfl _ _ 22 rfl i0 _ 56 Try.underlying22 hi0 hz0 hz1' hz2' rfl (by decide) w.heap.size (DD (fun _ => False) w wa ao) ao cap ys.length ys rfl (by rfl) (own_dd (elemV _) (HO.out.1.below (elemV _) HA.out.2.2.1) HA.out.2.2.1.size) [.int .i64 ky, .int .i64 my, .string ⟨ty.toArray⟩, .slice yo kys.length ycap] (.mk ky my ty kys) (HA.out.2.2.2.2.1.part hsr (fun j hj => (HO.out.2.2.1 j hj).2) HA.out.1) W3.heap.size (by rfl) HA.out.2.1 (fun b hb => by rcases hb with h | h; exact h.elim; exact h.2.1) (by omega) (by omega) ?_; rintro ao5 cap5 w5 q1 q2 q3; have HS5 := Lib.hid (rowsof_step HO.out.2.1 HO.out.2.2.1 HA.out.2.2.1 q1 q2); rw [List.length_append, List.length_singleton] at HS5; clear q1 q2 q3))
        go_roundw
        case rel =>
          refine ⟨i + 1, ys ++ [.mk ky my ty kys], by omega, by omega, by simp, by rw [List.length_append, HO.out.2.2.2.1]; rfl, fun y hy => ?_, HS5.out⟩
          rcases List.mem_append.1 hy with hy | hy
          · exact HO.out.2.2.2.2 y hy
          · rw [List.mem_singleton.1 hy]
            have := HA.out.2.2.2.2.2
            omega
        case measure => simp [intOf]; omega
      · obtain rfl : i = 8 := by omega
        have hd8 : decide (((8 : Nat) : Int) < 8) = false := decide_eq_false (by omega)
        have hcl := HO.out.1.cap_le
        have HV := Lib.hid (own_vs HO.out.1 (Keeps.refl (fun _ => False) _) (fun _ _ h => h) (Nat.le_refl _))
        go_wp2_with fail
        go_ret
        exact ⟨ao, cap, ys, rfl, hcl, hyl8, HO.out.2.2.2.2, HV.out, HO.out.2.1⟩
    · have hd1 : decide ((i : Int) < (ps.length : Int)) = false := decide_eq_false (by omega)
      have hcl := HO.out.1.cap_le
      have HV := Lib.hid (own_vs HO.out.1 (Keeps.refl (fun _ => False) _) (fun _ _ h => h) (Nat.le_refl _))
      go_wp2_with fail
      go_ret
      exact ⟨ao, cap, ys, rfl, hcl, hyl8, HO.out.2.2.2.2, HV.out, HO.out.2.1⟩
end Go.Proofs.Ytnhdefaagicejaa
