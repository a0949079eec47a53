/- The walks of the document's numbers and texts. -/
import Derived.Test.YtmnaomdnjaiggaaWire
namespace Go.Proofs.Ytmnaomdnjaiggaa
open Go.RowKit

theorem mod128 (k : Nat) : (k : Int) % 128 + 128 = ((k % 128 + 128 : Nat) : Int) := by omega

set_option maxRecDepth 100000 in
set_option maxHeartbeats 400000 in
theorem refnum_any (n : Int) (h0 : -9223372036854775808 ≤ n) (h1 : n ≤ 9223372036854775807) (w : World) :
    Calls Try.prog 10 #[.int .i64 n] w (Says w (.string ⟨(enc n).toArray⟩)) := by
  have hl10 := enc_len n h0 h1
  have hzz : enc n = numB (zz n) := rfl
  by_cases hn : n < 0
  all_goals
    first
      | have hbits := not_zz n h0 hn
      | have hbits := dbl_zz n (by omega) h1
    have hzl := zz_lt n h0 h1
    generalize zz n = z at hbits hzz hzl
    have HZ := Lib.hid hzz
    have HZL := Lib.hid hzl
    clear hzz h0 h1 hzl
    go_enter Try.func10, Try.ntmps10
    go_wp2
    go_loopw [4, 3] (fun s u wr => ∃ (l : List UInt8) (k : Nat), s = .string ⟨l.toArray⟩ ∧ u = .int .u64 (k : Int) ∧ Hid (k < 18446744073709551616) ∧ l ++ numB k = enc n ∧ Below w.heap.size w wr) (fun _ u _ => (intOf u).toNat)
    case atStart => exact ⟨[], z, rfl, rfl, HZL, HZ.out.symm, Below.refl _ _⟩
    case round =>
      obtain ⟨l, k, rfl, rfl, hkl, hl, hbel⟩ := hrel
      have hq : IntKind.u64.wrap ((k : Int) / 128) = (k : Int) / 128 := by rw [IntKind.wrap_u64]; have := hkl.out; omega
      have hlen : l.length + (numB k).length = (enc n).length := by rw [← hl, List.length_append]
      have hpos := numB_pos k
      have hsz := hbel.size
      have hs : l.length + 1 ≤ 10 := by omega
      have H := Lib.hid (And.intro hl hbel)
      clear hl hbel hlen hl10 hpos
      by_cases hk : 128 ≤ k
      · go_wp2_with (refine conv_str rfl _ rfl (some ⟨wr.heap.size, 0, none⟩) 1 1 rfl [hiB k] (At.new1 wr _ _ (by omega) (by simp) _) rfl ?_)
        go_roundw
        case rel =>
          obtain ⟨hl, hbel⟩ := H.out
          refine ⟨l ++ [hiB k], k / 128, by rw [ByteArray.mk_append_mk], by simp, (by have := hkl.out; show k / 128 < _; omega), ?_, hbel.alloc hsz _⟩
          rw [List.append_assoc, ← hl, numB_hi k (by omega)]; rfl
        case measure => simp [intOf]; omega
      · go_wp2_with (refine conv_str rfl _ rfl (some ⟨wr.heap.size, 0, none⟩) 1 1 rfl [UInt8.ofNat k] (At.new1 wr _ _ (by omega) (by simp; try omega) _) rfl ?_)
        go_ret
        obtain ⟨hl, hbel⟩ := H.out
        rw [numB_lo k (by omega)] at hl
        exact ⟨by rw [← hl, ← ByteArray.mk_append_mk]; rfl, hbel.alloc hsz _⟩

set_option maxHeartbeats 400000 in
theorem refstr_any (s : ByteArray) (hs : s.size ≤ 1099511627776) (w : World) :
    Calls Try.prog 12 #[.string s] w (Says w (.string ⟨(enc s.size ++ s.data.toList).toArray⟩)) := by
  have hl10 := enc_len s.size (by omega) (by omega)
  go_enter Try.func12, Try.ntmps12
  go_wp2_with fail
  refine (refnum_any s.size (by omega) (by omega) w).mono ?_
  rintro e w1 ⟨rfl, hbel⟩
  go_wp2
  go_ret
  exact ⟨by rw [← ByteArray.mk_append_mk]; rfl, hbel⟩
end Go.Proofs.Ytmnaomdnjaiggaa
