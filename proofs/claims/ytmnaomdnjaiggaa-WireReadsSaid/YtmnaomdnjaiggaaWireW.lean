/- The law's own helper 'wires', and the law WireWrites: of all numbers and texts the bytes are what the chapter says. -/
import Derived.Test.YtmnaomdnjaiggaaWireR
namespace Go.Proofs.Ytmnaomdnjaiggaa
open Go.RowKit

theorem enc_m1 : enc (-1) = [1] := by simp [enc, zz, numB]
theorem enc_2 : enc 2 = [4] := by simp [enc, zz, numB]
theorem enc_64 : enc 64 = [128, 1] := by simp [enc, zz, numB, hiB]

theorem num_m1 (w : World) : Calls Try.prog 9 #[.int .i64 (-1)] w (NewBytes w [1]) := by
  rw [← enc_m1]; exact num_any (-1) (by omega) (by omega) w
theorem num_64 (w : World) : Calls Try.prog 9 #[.int .i64 64] w (NewBytes w [128, 1]) := by
  rw [← enc_64]; exact num_any 64 (by omega) (by omega) w
theorem str_ab (w : World) : Calls Try.prog 11 #[.string ⟨#[97, 98]⟩] w (NewBytes w [4, 97, 98]) := by
  have := str_any ⟨#[97, 98]⟩ (by decide) w
  rw [show ((ByteArray.size ⟨#[97, 98]⟩ : Nat) : Int) = 2 from rfl, enc_2] at this
  exact this

set_option maxHeartbeats 400000 in
theorem wires_any (w : World) : Calls Try.prog 8 #[] w (Says w (.bool true)) := by
  go_enter Try.func8, Try.ntmps8
  go_wp2_with fail
  refine (num_m1 w).mono ?_
  rintro e w1 ⟨ao, cap, rfl, hown, hbel⟩
  have H := Lib.hid (And.intro hown hbel)
  clear hown hbel
  go_wp2_with (refine conv_str rfl _ rfl ao _ cap rfl [1] (At.own H.out.1) rfl ?_)
  refine (str_ab w1).mono ?_
  rintro e w2 ⟨ao2, cap2, rfl, hown2, hbel2⟩
  have H2 := Lib.hid (And.intro hown2 hbel2)
  clear hown2 hbel2
  go_wp2_with (refine conv_str rfl _ rfl ao2 _ cap2 rfl [4, 97, 98] (At.own H2.out.1) rfl ?_)
  refine (num_64 w2).mono ?_
  rintro e w3 ⟨ao3, cap3, rfl, hown3, hbel3⟩
  have H3 := Lib.hid (And.intro hown3 hbel3)
  clear hown3 hbel3
  go_wp2_with (refine conv_str rfl _ rfl ao3 _ cap3 rfl [128, 1] (At.own H3.out.1) rfl ?_)
  go_ret
  refine ⟨rfl, H.out.2.trans ((H2.out.2.mono H.out.2.size).trans (H3.out.2.mono ?_))⟩
  have := H.out.2.size
  have := H2.out.2.size
  omega

end Go.Proofs.Ytmnaomdnjaiggaa
