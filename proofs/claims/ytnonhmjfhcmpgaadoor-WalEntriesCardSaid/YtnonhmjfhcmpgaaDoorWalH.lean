/- The walks of the document's pad, closed, Head and First: a log's sectors as texts. -/
import Derived.Test.YtnonhmjfhcmpgaaDoorWalP
import Derived.Test.YtnonhmjfhcmpgaaDoorWalWire
import Derived.Test.YtnonhmjfhcmpgaaDoorWalO
namespace Go.Proofs.YtnonhmjfhcmpgaaDoor
open Go.RowKit

theorem str_app (l m : List UInt8) : (⟨l.toArray⟩ ++ ⟨m.toArray⟩ : ByteArray) = ⟨(l ++ m).toArray⟩ := by
  apply ByteArray.ext
  simp
theorem str_app2 (l : List UInt8) : (⟨#[76, 71]⟩ ++ ⟨l.toArray⟩ : ByteArray) = ⟨([76, 71] ++ l).toArray⟩ := str_app [76, 71] l
theorem str_app1 (l : List UInt8) : (⟨#[72]⟩ ++ ⟨l.toArray⟩ : ByteArray) = ⟨(72 :: l).toArray⟩ := str_app [72] l
theorem op_makeY {w : World} {ops : Array Oper} {rest : List Oper} {o : Oper} {a : Act} {Q : Exit → Act → World → Prop} (hgd : Region.wanted o (yielded ops a.tmps) = true) (x y : Operand) (ho : o.op = .makeSlice 22 x y) (n : Nat) (z : Int) (hz : z = n) (hx : a.eval x = .int .i64 z) (hy : a.eval y = .int .i64 z) (hn : n ≤ 70368744177664)
    (h : ∀ w', w'.ownsRow w.heap.size 5 1 (.slice (some ⟨w.heap.size, 0, none⟩) n n) n (bytesV (List.replicate n 0)) → w.grownBy w' none → wpList Tryd.prog ops Q rest (a.put o.dst (.slice (some ⟨w.heap.size, 0, none⟩) n n)) w') : wpList Tryd.prog ops Q (o :: rest) a w := by
  subst hz
  exact op_make hgd x y ho n hx hy hn h
set_option maxHeartbeats 400000 in
theorem refpad_any (l : List UInt8) (hl : l.length ≤ 512) (w : World) :
    Calls Tryd.prog 48 #[.string ⟨l.toArray⟩] w (Says w (.string ⟨(padZ l).toArray⟩)) := by
  go_enter Tryd.func48, Tryd.ntmps48
  go_wp2_with (refine op_makeY rfl _ _ rfl (512 - l.length) _ ?_ rfl rfl (by omega) ?_)
  · omega
  · rintro w1 q1 q2
    have Q1 := Lib.hid (And.intro (At.own q1) (grown_below q2))
    clear q1 q2
    go_wp2_with (refine conv_str rfl _ rfl _ _ _ rfl (List.replicate (512 - l.length) 0) Q1.out.1 (by simp) ?_)
    go_ret
    refine ⟨?_, Q1.out.2⟩
    have := str_app l (List.replicate (512 - l.length) 0)
    rw [List.toArray_replicate] at this
    rw [this]
    rfl
set_option maxHeartbeats 400000 in
theorem refclosed_any (l : List UInt8) (hl : l.length ≤ 1000000000) (w : World) :
    Calls Tryd.prog 49 #[.string ⟨l.toArray⟩] w (Says w (.string ⟨(closedL l).toArray⟩)) := by
  go_enter Tryd.func49, Tryd.ntmps49
  go_wp2_with fail
  refine (refsum_any ⟨l.toArray⟩ (by simp [ByteArray.size]; omega) w).mono ?_
  rintro e w1 ⟨rfl, rfl⟩
  go_wp2_with fail
  refine (four_any _ (crc_lt l) w).mono ?_
  rintro e w1 ⟨rfl, hb⟩
  have H1 := Lib.hid hb
  clear hb
  have hl4 : ¬ 9223372036854775807 < l.length + (four (crc l)).length := by rw [four_len]; omega
  go_wp2_with fail
  go_ret
  refine ⟨congrArg (fun x => Ending.returned (Value.string x)) (str_app l (four (crc l))), H1.out⟩
set_option maxHeartbeats 400000 in
theorem refhead_any (n : Nat) (hn : n ≤ 9223372036854775807) (w : World) :
    Calls Tryd.prog 24 #[.int .i64 (n : Int)] w (Says w (.string ⟨(secH n).toArray⟩)) := by
  have he := enc_len (n : Int) (by omega) (by omega)
  go_enter Tryd.func24, Tryd.ntmps24
  go_wp2_with fail
  refine (refnum_any n (by omega) (by omega) w).mono ?_
  rintro e w1 ⟨rfl, hb1⟩
  have H1 := Lib.hid hb1
  clear hb1
  have hl4 : ¬ 9223372036854775807 < (2 : Nat) + (enc n).length := by omega
  go_wp2_with fail
  rw [str_app2]
  refine (refclosed_any _ (by simp; omega) w1).mono ?_
  rintro e w2 ⟨rfl, hb2⟩
  have H2 := Lib.hid (H1.out.trans (hb2.mono H1.out.size))
  clear hb2
  go_wp2_with fail
  refine (refpad_any _ (by rw [closedL, List.length_append, four_len]; simp; omega) w2).mono ?_
  rintro e w3 ⟨rfl, hb3⟩
  have H3 := Lib.hid (H2.out.trans (hb3.mono H2.out.size))
  clear hb3
  go_wp2_with fail
  go_ret
  exact ⟨rfl, H3.out⟩

theorem str_len (l : List UInt8) : (⟨l.toArray⟩ : ByteArray).size = l.length := by simp [ByteArray.size]
set_option maxRecDepth 100000 in
set_option maxHeartbeats 1000000 in
theorem reffirst_any (a n : Nat) (ha : a ≤ 9223372036854775807) (hn : n ≤ 9223372036854775807) (b : List UInt8) (hb : b.length ≤ 1000000000) (w : World) :
    Calls Tryd.prog 23 #[.int .i64 (a : Int), .int .i64 (n : Int), .string ⟨b.toArray⟩] w (Says w (.string ⟨(secF a n b).toArray⟩)) := by
  have he1 := enc_len (a : Int) (by omega) (by omega)
  have he2 := enc_len (n : Int) (by omega) (by omega)
  have he3 := enc_len (b.length : Int) (by omega) (by omega)
  have hcl := crc_lt b
  have he4 := enc_len (crc b : Int) (by omega) (by omega)
  go_enter Tryd.func23, Tryd.ntmps23
  go_wp2_with fail
  refine (refnum_any a (by omega) (by omega) w).mono ?_
  rintro e w1 ⟨rfl, hb1⟩
  have H1 := Lib.hid hb1
  clear hb1
  go_wp2_with fail
  refine (refnum_any n (by omega) (by omega) w1).mono ?_
  rintro e w2 ⟨rfl, hb2⟩
  have H2 := Lib.hid (H1.out.trans (hb2.mono H1.out.size))
  clear hb2
  have hl4 : ¬ 9223372036854775807 < (enc a).length + (enc n).length := by omega
  go_wp2_with fail
  clear hl4
  rw [str_app]
  refine (refnum_any b.length (by omega) (by omega) w2).mono ?_
  rintro e w3 ⟨rfl, hb3⟩
  have H3 := Lib.hid (H2.out.trans (hb3.mono H2.out.size))
  clear hb3
  have hl4 : ¬ 9223372036854775807 < (enc a).length + (enc n).length + (enc b.length).length := by omega
  go_wp2_with fail
  clear hl4
  rw [str_app]
  refine (refsum_any ⟨b.toArray⟩ (by rw [str_len]; omega) w3).mono ?_
  rintro e w4 ⟨rfl, rfl⟩
  have hcc : ((crc b : Nat) : Int) < 4294967296 := by omega
  go_wp2_with fail
  refine (refnum_any (crc b : Nat) (by omega) (by omega) w3).mono ?_
  rintro e w4 ⟨rfl, hb4⟩
  have H4 := Lib.hid (H3.out.trans (hb4.mono H3.out.size))
  clear hb4
  have hl4 : ¬ 9223372036854775807 < (enc a).length + (enc n).length + (enc b.length).length + (enc (crc b)).length := by omega
  go_wp2_with fail
  clear hl4
  rw [str_app, show enc a ++ (enc n ++ enc b.length) ++ enc (crc b) = firstC a n b by simp [firstC]]
  have hfc : (firstC a n b).length ≤ 40 := by unfold firstC; simp only [List.length_append]; omega
  refine (refclosed_any _ (by omega) w4).mono ?_
  rintro e w5 ⟨rfl, hb5⟩
  have H5 := Lib.hid (H4.out.trans (hb5.mono H4.out.size))
  clear hb5
  have hcl5 : (closedL (firstC a n b)).length ≤ 44 := by rw [closedL, List.length_append, four_len]; omega
  have hl5 : ¬ 9223372036854775807 < 1 + (closedL (firstC a n b)).length := by omega
  go_wp2_with fail
  rw [str_app1]
  refine (refpad_any _ (by simp; omega) w5).mono ?_
  rintro e w6 ⟨rfl, hb6⟩
  have H6 := Lib.hid (H5.out.trans (hb6.mono H5.out.size))
  clear hb6
  go_wp2_with fail
  go_ret
  exact ⟨rfl, H6.out⟩

end Go.Proofs.YtnonhmjfhcmpgaaDoor
