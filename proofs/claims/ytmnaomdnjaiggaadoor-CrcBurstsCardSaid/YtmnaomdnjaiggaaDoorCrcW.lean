/- The laws' own helpers 'bytes' and 'sums'. -/
import Derived.Test.YtmnaomdnjaiggaaDoorCrc
import Derived.Test.YtmnaomdnjaiggaaDoorCrcR
import Derived.Lib.SlBytesConst
namespace Go.Proofs.YtmnaomdnjaiggaaDoor
open Go.RowKit

set_option maxRecDepth 100000 in
set_option maxHeartbeats 400000 in
theorem bytes_any (ao : Option Addr) (n cap : Nat) (hc : n ≤ cap) (hm : cap ≤ 9223372036854775807) (w : World) :
    Calls Tryd.prog 8 #[.slice ao n cap] w fun e w' => e = .returned (.slice ao (min n 3000) cap) ∧ w = w' := by
  by_cases h : n ≤ 3000
  · go_enter Tryd.func8, Tryd.ntmps8
    go_wp2
    go_ret
    exact ⟨by rw [Nat.min_eq_left h]; rfl, rfl⟩
  · go_enter Tryd.func8, Tryd.ntmps8
    go_wp2
    go_ret
    exact ⟨by rw [Nat.min_eq_right (by omega)]; rfl, rfl⟩

theorem crc_check : crc [49, 50, 51, 52, 53, 54, 55, 56, 57] = 3808858755 := by decide +kernel

set_option maxRecDepth 100000 in
set_option maxHeartbeats 400000 in
theorem sums_any (w : World) (ht : Tab w) :
    Calls Tryd.prog 10 #[] w (Says w (.bool true)) := by
  have HT := Lib.hid ht
  clear ht
  have kc := conv_const
  go_enter Tryd.func10, Tryd.ntmps10
  go_wp2_with fail
  refine (sum_any _ 3 3 [[49, 50, 51, 52], [], [53, 54, 55, 56, 57]] rfl (by omega) _ (parts_new (by simp) ?_) ?_).mono ?_
  · refine ⟨⟨by decide, _, _, _, rfl, rfl, ?_⟩, ⟨by decide, none, 0, 0, rfl, rfl, At.nil _ _⟩, ⟨by decide, _, _, _, rfl, rfl, ?_⟩, trivial⟩
    · exact (At.new w _ _ (4, 5)).below ((Below.refl _ _).alloc (Nat.le_refl _) _)
    · exact At.newk _ _ _ (5, 6) (by simp)
  · exact ((HT.out.alloc _).alloc _).alloc _
  · rintro e w' ⟨rfl, rfl⟩
    rw [show List.flatten [[49, 50, 51, 52], [], [53, 54, 55, 56, 57]] = ([49, 50, 51, 52, 53, 54, 55, 56, 57] : List UInt8) from rfl, crc_check]
    go_wp2
    go_ret
    exact ⟨rfl, (((Below.refl _ _).alloc (Nat.le_refl _) _).alloc (by simp) _).alloc (by simp; omega) _⟩

theorem bytes_take (ao : Option Addr) (l : List UInt8) (cap : Nat) (hc : l.length ≤ cap) (hm : cap ≤ 9223372036854775807) (w : World) :
    Calls Tryd.prog 8 #[.slice ao l.length cap] w fun e w' => e = .returned (.slice ao (l.take 3000).length cap) ∧ w = w' := by
  rw [List.length_take, Nat.min_comm]
  exact bytes_any ao l.length cap hc hm w
/-- 'int(uint64(c) % uint64(n+1))'. -/
theorem cut_mod (c : Int) (n : Nat) (hn : n ≤ 1000000) : ∃ k : Nat, k ≤ n ∧ wrap64 ((IntKind.u64.wrap c).tmod ((n : Int) + 1)) = (k : Int) := by
  have h0 : 0 ≤ IntKind.u64.wrap c := by rw [IntKind.wrap_u64]; omega
  have h1 := Int.emod_nonneg (IntKind.u64.wrap c) (show ((n : Int) + 1) ≠ 0 by omega)
  have h2 := Int.emod_lt_of_pos (IntKind.u64.wrap c) (show 0 < ((n : Int) + 1) by omega)
  rw [Int.tmod_eq_emod_of_nonneg h0]
  refine ⟨(IntKind.u64.wrap c % ((n : Int) + 1)).toNat, by omega, ?_⟩
  unfold wrap64
  omega

/-- 'int(uint64(c) % uint64(n))'. -/
theorem cut_mod0 (c : Int) (n : Nat) (h0 : 0 < n) (hn : n ≤ 1000000) : ∃ k : Nat, k < n ∧ wrap64 ((IntKind.u64.wrap c).tmod (n : Int)) = (k : Int) := by
  have h0 : 0 ≤ IntKind.u64.wrap c := by rw [IntKind.wrap_u64]; omega
  have h1 := Int.emod_nonneg (IntKind.u64.wrap c) (show (n : Int) ≠ 0 by omega)
  have h2 := Int.emod_lt_of_pos (IntKind.u64.wrap c) (show 0 < (n : Int) by omega)
  rw [Int.tmod_eq_emod_of_nonneg h0]
  refine ⟨(IntKind.u64.wrap c % (n : Int)).toNat, by omega, ?_⟩
  unfold wrap64
  omega

end Go.Proofs.YtmnaomdnjaiggaaDoor
