/- The walk of the document's sum. -/
import Derived.Test.YtnonhmjfhcmpgaaDoorOps
import Derived.Test.YtnonhmjfhcmpgaaDoorCrcP
namespace Go.Proofs.YtnonhmjfhcmpgaaDoor
open Go.RowKit

set_option maxRecDepth 100000 in
set_option maxHeartbeats 400000 in
theorem refsum_any (s : ByteArray) (hs : s.size ≤ 9223372036854775807) (w : World) :
    Calls Tryd.prog 51 #[.string s] w fun e w' => e = .returned (.int .u32 (crc s.data.toList : Nat)) ∧ w = w' := by
  go_enter Tryd.func51, Tryd.ntmps51
  go_wp2
  go_loop [3, 4] (fun r i => ∃ k : Nat, k ≤ s.size ∧ i = .int .i64 (k : Int) ∧ r = .int .u32 (more ones (s.data.toList.take k) : Nat)) (fun _ i => s.size - (intOf i).toNat)
  case atStart => exact ⟨0, Nat.zero_le _, rfl, rfl⟩
  case round =>
    obtain ⟨k, hk, rfl, rfl⟩ := hrel
    have hrl := more_lt (s.data.toList.take k) ones (by decide)
    generalize hr : more ones (s.data.toList.take k) = r at hrl
    have HR := Lib.hid hr
    have HL := Lib.hid hrl
    clear hr hrl
    by_cases hlt : k < s.size
    · go_wp2
      go_loop [3, 5] (fun r' j => ∃ m : Nat, m ≤ 8 ∧ j = .int .i64 (m : Int) ∧ r' = .int .u32 (rb m r (s[k]).toNat : Nat)) (fun _ j => 8 - (intOf j).toNat)
      case atStart => exact ⟨0, by omega, rfl, by rw [rb_zero]⟩
      case round =>
        obtain ⟨m, hm, rfl, rfl⟩ := hrel
        have hx := (s[k]).toNat_lt
        have hyl := rb_lt m r (s[k]).toNat HL.out hx
        by_cases hm8 : m < 8
        · by_cases hb : rb m r (s[k]).toNat % 2 = (s[k]).toNat / 2 ^ m % 2
          · have e1 := refbit0 _ _ _ hb
            have e2 := refhalf _ hyl
            have E3 := Lib.hid (rb_succ0 m r _ hb)
            clear hyl hb hx
            go_wp2
            go_round
            case rel => exact ⟨m + 1, by omega, by simp, by rw [E3.out]; simp⟩
            case measure => simp [intOf]; omega
          · have e1 := refbit1 _ _ _ hb
            have e2 := refxor _ hyl
            have E3 := Lib.hid (rb_succ1 m r _ hb)
            clear hyl hb hx
            go_wp2
            go_round
            case rel => exact ⟨m + 1, by omega, by simp, by rw [E3.out]⟩
            case measure => simp [intOf]; omega
        · obtain rfl : m = 8 := by omega
          have E8 := Lib.hid (rb_eight r (s[k]).toNat hx)
          clear hyl hx
          go_wp2
          go_round
          case rel =>
            refine ⟨k + 1, by omega, by simp, ?_⟩
            rw [E8.out, List.take_succ_eq_append_getElem (by simpa using hlt), more_append, HR.out]
            rfl
          case measure => simp [intOf]; omega
    · have e1 := notxor _ HL.out
      go_wp2
      go_ret
      obtain rfl : k = s.size := by omega
      refine ⟨?_, rfl⟩
      rw [← HR.out, List.take_of_length_le (by simp)]
      rfl

end Go.Proofs.YtnonhmjfhcmpgaaDoor
