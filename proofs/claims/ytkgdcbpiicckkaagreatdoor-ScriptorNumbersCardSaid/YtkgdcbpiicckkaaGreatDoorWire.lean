/- The walks of the numbers and texts: wire.Num, wire.Str, and the document's. -/
import Derived.Test.YtkgdcbpiicckkaaGreatDoorOps
import Derived.Test.YtkgdcbpiicckkaaGreatDoorWireP
namespace Go.Proofs.YtkgdcbpiicckkaaGreatDoor
set_option linter.unusedSimpArgs false
set_option linter.unusedVariables false
open Go.RowKit

set_option maxRecDepth 100000 in
set_option maxHeartbeats 400000 in
theorem num_any (n : Int) (h0 : -9223372036854775808 ≤ n) (h1 : n ≤ 9223372036854775807) (w : World) :
    Calls Tryz.prog 17 #[.int .i64 n] w (NewBytes w (enc n)) := by
  have hbits := xor_zz n h0 h1
  have hl10 := enc_len n h0 h1
  have hzz : enc n = numB (zz n) := rfl
  generalize zz n = z at hbits hzz
  have HZ := Lib.hid hzz
  clear hzz h0 h1
  have hor := or128
  go_enter Tryz.func17, Tryz.ntmps17
  go_wp2
  go_loopw [3, 4] (fun v u wr => ∃ (l : List UInt8) (k : Nat) (ao : Option Addr) (cap : Nat), v = .slice ao l.length cap ∧ u = .int .u64 (k : Int) ∧ l ++ numB k = enc n ∧
      wr.ownsRow w.heap.size 5 1 (.slice ao l.length cap) l.length (bytesV l) ∧ Below w.heap.size w wr) (fun _ u _ => (intOf u).toNat)
  case atStart => exact ⟨[], z, none, 0, rfl, rfl, HZ.out.symm, World.ownsRow_nil _ _ _ _, Below.refl _ _⟩
  case round =>
    obtain ⟨l, k, ao, cap, rfl, rfl, hl, hown, hbel⟩ := hrel
    have hlen : l.length + (numB k).length = (enc n).length := by rw [← hl, List.length_append]
    have hpos := numB_pos k
    have hsz := hbel.size
    have H := Lib.hid (And.intro hl (And.intro hown hbel))
    have HL := Lib.hid hlen
    clear hl hown hbel hlen
    by_cases hk : 128 ≤ k
    · go_wp2_with (at_builtin; refine app_byte rfl _ _ rfl w.heap.size ao cap l _ _ rfl H.out.2.1 (k % 128 + 128) rfl (by omega) (by simp) (by have := HL.out; omega) (by omega) ?_; rintro ao' cap' w1 ⟨q1, q2, q3⟩)
      go_roundw
      case rel =>
        obtain ⟨hl, hown, hbel⟩ := H.out
        refine ⟨l ++ [hiB k], k / 128, ao', cap', by simp, by simp, ?_, by simp only [List.length_append, List.length_cons, List.length_nil] at q1 ⊢; exact q1, hbel.trans (below_grown hown (by omega) q2)⟩
        rw [List.append_assoc, ← hl, numB_hi k (by omega)]; rfl
      case measure => simp [intOf]; omega
    · go_wp2_with (at_builtin; refine app_byte rfl _ _ rfl w.heap.size ao cap l _ _ rfl H.out.2.1 k rfl (by omega) (by simp) (by have := HL.out; omega) (by omega) ?_; rintro ao' cap' w1 ⟨q1, q2, q3⟩)
      go_ret
      obtain ⟨hl, hown, hbel⟩ := H.out
      rw [numB_lo k (by omega)] at hl
      rw [hl] at q1
      have e : l.length + 1 = (enc n).length := by rw [← hl]; simp
      refine ⟨ao', cap', by simp [e], q1, hbel.trans (below_grown hown (by omega) q2)⟩

set_option maxHeartbeats 400000 in
theorem str_any (s : ByteArray) (hs : s.size ≤ 1099511627776) (w : World) :
    Calls Tryz.prog 4 #[.string s] w (NewBytes w (enc s.size ++ s.data.toList)) := by
  have hl10 := enc_len s.size (by omega) (by omega)
  go_enter Tryz.func4, Tryz.ntmps4
  go_wp2_with fail
  refine (num_any s.size (by omega) (by omega) w).mono ?_
  rintro e w1 ⟨ao, cap, rfl, hown, hbel⟩
  have hsz := hbel.size
  have H := Lib.hid (And.intro hown hbel)
  clear hown hbel
  go_wp2_with (at_builtin; refine app_str rfl _ _ rfl w.heap.size ao cap (enc s.size) _ rfl H.out.1 s rfl (by omega) (by omega) ?_; rintro ao' cap' w2 ⟨q1, q2, q3⟩)
  go_ret
  obtain ⟨hown, hbel⟩ := H.out
  have e : (enc s.size).length + s.size = (enc s.size ++ s.data.toList).length := by rw [List.length_append, Array.length_toList]; rfl
  exact ⟨ao', cap', by rw [e]; rfl, q1, hbel.trans (below_grown hown (by omega) q2)⟩

end Go.Proofs.YtkgdcbpiicckkaaGreatDoor
