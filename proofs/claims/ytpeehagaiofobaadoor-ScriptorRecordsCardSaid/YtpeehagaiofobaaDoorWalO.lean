/- The walks of crc.tail, Close, and the document's. -/
import Derived.Test.YtpeehagaiofobaaDoorWalSl
import Derived.Test.YtpeehagaiofobaaDoorCrcR
namespace Go.Proofs.YtpeehagaiofobaaDoor
open Go.RowKit
theorem u8i (k : Nat) (h : k < 256) : Value.int .u8 (k : Int) = u8v (UInt8.ofNat k) := by
  simp [u8v, UInt8.toNat_ofNat', Nat.mod_eq_of_lt h]

theorem four_cells (n : Nat) (hn : n < 4294967296) : (#[.int .u8 ((n : Int) % 256), .int .u8 ((n : Int) / 256 % 256), .int .u8 ((n : Int) / 65536 % 256), .int .u8 ((n : Int) / 16777216)] : Array Value).toList = bytesV (four n) := by
  rw [show (n : Int) % 256 = ((n % 256 : Nat) : Int) by omega, show (n : Int) / 256 % 256 = ((n / 256 % 256 : Nat) : Int) by omega,
    show (n : Int) / 65536 % 256 = ((n / 65536 % 256 : Nat) : Int) by omega, show (n : Int) / 16777216 = ((n / 16777216 % 256 : Nat) : Int) by omega,
    u8i _ (by omega), u8i _ (by omega), u8i _ (by omega), u8i _ (by omega)]
  rfl
theorem four_len (n : Nat) : (four n).length = 4 := rfl

set_option maxHeartbeats 400000 in
theorem tail_any (n : Nat) (hn : n < 4294967296) (w : World) :
    Calls Tryd.prog 58 #[.int .u32 (n : Int)] w (NewBytes w (four n)) := by
  go_enter Tryd.func58, Tryd.ntmps58
  go_wp2_with fail
  go_ret
  refine ⟨_, 4, rfl, ?_, (Below.refl _ w).alloc (Nat.le_refl _) _⟩
  rw [← four_cells n hn]
  exact World.ownsRow_lit w _ 4 (Nat.le_refl _) (by decide) rfl

set_option maxRecDepth 100000 in
set_option maxHeartbeats 400000 in
theorem close_any (ao : Option Addr) (l : List UInt8) (n cap : Nat) (hn : n = l.length) (hl : n ≤ 1000000000) (w : World) (hat : At w ao (bytesV l)) (ht : Tab w) :
    Calls Tryd.prog 41 #[.slice ao n cap] w (NewBytes w (l ++ four (crc l))) := by
  subst hn
  have HA := Lib.hid hat
  have HT := Lib.hid ht
  clear hat ht
  go_enter Tryd.func41, Tryd.ntmps41
  go_wp2_with fail
  refine (sum_one ao _ cap l rfl (by omega) w _ rfl HA.out HT.out).mono ?_
  rintro e w1 ⟨rfl, rfl⟩
  go_wp2_with fail
  refine (tail_any _ (crc_lt l) _).mono ?_
  rintro e w2 ⟨bo, capb, rfl, hown, hbel⟩
  have hb1 : Below w.heap.size w w2 := ((Below.refl _ w).alloc (Nat.le_refl _) _).trans (hbel.mono (by simp))
  have H2 := Lib.hid (And.intro (At.own hown) hb1)
  clear hown hbel hb1
  go_wp2_with fail
  refine (concat_any _ 2 2 [l, four (crc l)] rfl (by omega) (by simp [four_len]; omega) _ (parts_new rfl ?_)).mono ?_
  · exact ⟨⟨by omega, ao, _, cap, rfl, rfl, HA.out.below H2.out.2⟩, ⟨by rw [four_len]; decide, bo, 4, capb, rfl, rfl, H2.out.1⟩, trivial⟩
  · rintro e w3 ⟨co, capc, rfl, hown, hbel⟩
    go_wp2_with fail
    go_ret
    have hsz := H2.out.2.size
    rw [show [l, four (crc l)].flatten = l ++ four (crc l) by simp] at hown
    exact ⟨co, capc, by simp, owns_mono hown (by simp; omega), (H2.out.2.alloc hsz _).trans (hbel.mono (by simp; omega))⟩

end Go.Proofs.YtpeehagaiofobaaDoor
