/- The walks of the numbers: wire.Num, and the document's. -/
import Derived.Test.YtpeehagaiofobaaDoorOps
import Derived.Test.YtpeehagaiofobaaDoorWireP
namespace Go.Proofs.YtpeehagaiofobaaDoor
open Go.RowKit
set_option maxRecDepth 100000 in
set_option maxHeartbeats 400000 in
theorem num_any (n : Int) (h0 : -9223372036854775808 ≤ n) (h1 : n ≤ 9223372036854775807) (w : World) :
    Calls Tryd.prog 42 #[.int .i64 n] w (NewBytes w (enc n)) := by
  have hbits := xor_zz n h0 h1
  have hl10 := enc_len n h0 h1
  have hzz : enc n = numB (zz n) := rfl
  generalize zz n = z at hbits hzz
  have HZ := Lib.hid hzz
  clear hzz h0 h1
  have hor := or128
  go_enter Tryd.func42, Tryd.ntmps42
  go_wp2
  go_loopw [3, 4] (fun v u wr => ∃ (l : List UInt8) (k : Nat) (ao : Option Addr) (cap : Nat), v = .slice ao l.length cap ∧ u = .int .u64 (k : Int) ∧ l ++ numB k = enc n ∧
      wr.ownsRow w.heap.size 5 1 (.slice ao l.length cap) l.length (bytesV l) ∧ Below w.heap.size w wr) (fun _ u _ => (intOf u).toNat)
  case atStart => exact ⟨[], z, none, 0, rfl, rfl, HZ.out.symm, World.ownsRow_nil _ _ _ _, Below.refl _ _⟩
  case round =>
    obtain ⟨l, k, ao, cap, rfl, rfl, hl, hown, hbel⟩ := hrel
    have hlen : l.length + (numB k).length = (enc n).length := by rw [← hl, List.length_append]
    have hpos := numB_pos k
    have hsz := hbel.size
    have H := Lib.hid (And.intro hl (And.intro hown hbel))
    have HL := Lib.hid hlen
    clear hl hown hbel hlen
    by_cases hk : 128 ≤ k
    · go_wp2_with (at_builtin; refine app_byte rfl _ _ rfl w.heap.size ao cap l _ _ rfl H.out.2.1 (k % 128 + 128) rfl (by omega) (by simp) (by have := HL.out; omega) (by omega) ?_; rintro ao' cap' w1 ⟨q1, q2, q3⟩)
      go_roundw
      case rel =>
        obtain ⟨hl, hown, hbel⟩ := H.out
        refine ⟨l ++ [hiB k], k / 128, ao', cap', by simp, by simp, ?_, by simp only [List.length_append, List.length_cons, List.length_nil] at q1 ⊢; exact q1, hbel.trans (below_grown hown (by omega) q2)⟩
        rw [List.append_assoc, ← hl, numB_hi k (by omega)]; rfl
      case measure => simp [intOf]; omega
    · go_wp2_with (at_builtin; refine app_byte rfl _ _ rfl w.heap.size ao cap l _ _ rfl H.out.2.1 k rfl (by omega) (by simp) (by have := HL.out; omega) (by omega) ?_; rintro ao' cap' w1 ⟨q1, q2, q3⟩)
      go_ret
      obtain ⟨hl, hown, hbel⟩ := H.out
      rw [numB_lo k (by omega)] at hl
      rw [hl] at q1
      have e : l.length + 1 = (enc n).length := by rw [← hl]; simp
      refine ⟨ao', cap', by simp [e], q1, hbel.trans (below_grown hown (by omega) q2)⟩

theorem mod128 (k : Nat) : (k : Int) % 128 + 128 = ((k % 128 + 128 : Nat) : Int) := by omega

end Go.Proofs.YtpeehagaiofobaaDoor
