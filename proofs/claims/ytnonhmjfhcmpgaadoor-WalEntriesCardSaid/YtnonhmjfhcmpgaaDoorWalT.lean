/- The walks of the document's AgeOf and Need. -/
import Derived.Test.YtnonhmjfhcmpgaaDoorWalRI
import Derived.Test.YtnonhmjfhcmpgaaDoorWalH
import Derived.Test.YtnonhmjfhcmpgaaDoorWal5
namespace Go.Proofs.YtnonhmjfhcmpgaaDoor
open Go.RowKit

theorem RefAt.new (w : World) (l : List UInt8) : RefAt (w.alloc (.cells #[.string ⟨l.toArray⟩, .int .i64 0] 97)) w.heap.size (l, 0) := heap_alloc_new w _
theorem exd_take2 (l : List UInt8) (k : Nat) : ByteArray.extract ⟨l.toArray⟩ 0 k = ⟨(l.take k).toArray⟩ := exd_take l k
set_option maxRecDepth 100000 in
set_option maxHeartbeats 1000000 in
theorem refageof_any (c : List UInt8) (a : Nat) (hc : HeadIs c a) (ha : a ≤ 1000000000) (w : World) :
    Calls Tryd.prog 52 #[.string ⟨c.toArray⟩] w (Says w (.int .i64 (a : Int))) := by
  have hl := headIs_length hc (by omega)
  have hsz : (ByteArray.mk c.toArray).size = 512 := by rw [str_len, hl]
  have htk := exd_take c 2
  have hdr := exd_drop c 2
  rw [hl] at hdr
  rcases hc with ⟨rfl, rfl⟩ | ⟨h1, rfl⟩
  · rw [show (zeros.take 2).toArray = #[0, 0] from rfl] at htk
    clear hdr
    go_enter Tryd.func52, Tryd.ntmps52
    go_wp2_with fail
    go_ret
    exact ⟨rfl, Below.refl _ _⟩
  · rw [secH_take] at htk
    obtain ⟨rest, hrest⟩ := secH_drop a
    rw [hrest] at hdr
    have HREST := Lib.hid hrest
    clear hrest
    go_enter Tryd.func52, Tryd.ntmps52
    go_wp2_with fail
    clear htk hdr
    have hb1 : Below w.heap.size w (w.alloc (.cells #[.string ⟨(enc a ++ rest).toArray⟩, .int .i64 0] 97)) := (Below.refl _ w).alloc (Nat.le_refl _) _
    refine (rnum_any w.heap.size (enc a ++ rest, 0) 1 4611686018427387904 _ (RefAt.new w _)).mono ?_
    rintro e w2 ⟨rfl, hr2, hg2⟩
    rw [numR_enc 1 4611686018427387904 a rest (by omega) (by omega) (by omega)] at hr2 ⊢
    have c1 := hr2.c1
    have H2 := Lib.hid (hb1.grown hg2 (by simp) (fun k hk => by cases hk; exact Nat.le_refl _))
    clear hr2 hg2 hb1
    go_wp2_with fail
    refine (refhead_any a (by omega) w2).mono ?_
    rintro e w3 ⟨rfl, hb3⟩
    have H3 := Lib.hid (H2.out.trans (hb3.mono H2.out.size))
    clear hb3 c1
    go_wp2_with fail
    go_ret
    exact ⟨rfl, H3.out⟩

set_option maxRecDepth 100000 in
set_option maxHeartbeats 1000000 in
theorem refneed_any (n : Nat) (hn : n ≤ 1000000000) (w : World) :
    Calls Tryd.prog 26 #[.int .i64 (n : Int)] w (fun e w' => e = .returned (.int .i64 (needN n : Int)) ∧ w = w') := by
  have h1 : ((n : Int) + 511 - 1) / 511 = ((nparts n : Nat) : Int) := by unfold nparts; omega
  have hnp : nparts n ≤ 1000000000 := by unfold nparts; omega
  go_enter Tryd.func26, Tryd.ntmps26
  go_wp2_with fail
  go_ret
  exact ⟨by simp [needN], rfl⟩
end Go.Proofs.YtnonhmjfhcmpgaaDoor
