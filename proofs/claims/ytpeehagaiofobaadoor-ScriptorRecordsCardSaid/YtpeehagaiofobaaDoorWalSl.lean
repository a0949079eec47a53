/- The walks of slices.Grow, Concat at bytes. -/
import Derived.Test.YtpeehagaiofobaaDoorCrc
import Derived.Lib.BufferMore
import Derived.Lib.AppendZerosOnto
import Derived.Handy
namespace Go.Proofs.YtpeehagaiofobaaDoor
open Go.RowKit
/-- 'append([]byte(nil), make([]byte, n)...)'. -/
theorem app_zeros {w : World} {ops : Array Oper} {rest : List Oper} {o : Oper} {a : Act} {Q : Exit → Act → World → Prop} (hgd : Region.wanted o (yielded ops a.tmps) = true) (s x : Operand)
    (ho : o.op = .call { callee := .builtin .append, args := #[s, x], argTypes := #[40, 3] })
    (n : Nat) (h0 : 0 < n) (hs : a.eval s = .slice none 0 0) (hx : a.eval x = .int .i64 (n : Int)) (hb : n ≤ 70368744177664)
    (h : ∀ cap w', w'.ownsRow w.heap.size 5 1 (.slice (some ⟨w.heap.size, 0, none⟩) 0 cap) 0 [] → Below w.heap.size w w' → n ≤ cap → cap ≤ 9223372036854775807 → wpList Tryd.prog ops Q rest (a.put o.dst (.slice (some ⟨w.heap.size, 0, none⟩) n cap)) w') : wpList Tryd.prog ops Q (o :: rest) a w := by
  obtain ⟨i0, hi, hz0, hz1, hz2⟩ := info_parts infoU8
  refine wpList_go hgd fun K hK => ?_
  have hr := Lib.run_append_grow_zeros (P := Tryd.prog) w 40 3 o.type 5 i0 (.int .u8 0) .i64 .i64 Tryd.underlying40 Tryd.underlying3 hi hz0 none 0 0 [] (by simp [Builtin.firstCells]) n h0 (by omega) (by omega) (by omega) (by rw [hz2]; omega) (growslice_fits (by omega) (by rw [hz2]; omega))
  have hge := grownCap_ge w (0 + n) 0 5
  have hcm := grownCap_le_maxLen w (0 + n) 0 5 (by unfold maxLen; omega)
  have hsz : (Value.int IntKind.u8 0).cells.size = 1 := rfl
  unfold Oper.wp execOp
  simp only [ho, resolve, invoke, builtin, Sem.run_bind, Sem.run_pure, Result.andThen_ok, List.map_toArray, List.map_cons, List.map_nil, hs, hx, hr]
  rw [Nat.zero_add] at *
  refine hK _ _ (h _ _ ⟨rfl, .inr ⟨w.heap.size, _, _, rfl, Nat.le_refl _, heap_alloc_new w.drew _, Nat.zero_le _, hcm, ?_, rfl⟩⟩ ((Below.refl _ w).drew.alloc (Nat.le_refl _) _) hge (by unfold maxLen at hcm; omega))
  rw [Array.size_append, Array.size_append, List.size_toArray, List.length_nil, size_zeroCells, size_zeroCells, hsz]
  omega

set_option maxHeartbeats 400000 in
theorem grow_any (n : Nat) (hb : n ≤ 70368744177664) (w : World) :
    Calls Tryd.prog 67 #[.slice none 0 0, .int .i64 (n : Int)] w (NewBytes w []) := by
  go_enter Tryd.func67, Tryd.ntmps67
  rcases Nat.eq_zero_or_pos n with rfl | h0
  · go_wp2_with fail
    go_ret
    exact ⟨none, 0, rfl, World.ownsRow_nil _ _ _ _, Below.refl _ _⟩
  · go_wp2_with (at_builtin; refine app_zeros rfl _ _ rfl n h0 rfl rfl hb ?_; rintro cap w1 q1 q2 q3 q4)
    go_ret
    exact ⟨_, _, rfl, q1, q2⟩

theorem flat_le (ls : List (List UInt8)) (k : Nat) : (ls.take k).flatten.length ≤ ls.flatten.length := by
  have : ls.flatten = (ls.take k).flatten ++ (ls.drop k).flatten := by rw [← List.flatten_append, List.take_append_drop]
  rw [this, List.length_append]
  omega

set_option maxRecDepth 100000 in
set_option maxHeartbeats 1000000 in
theorem concat_any (po : Option Addr) (n cap : Nat) (ls : List (List UInt8)) (hn : n = ls.length) (hlen : n ≤ 9223372036854775807) (hb : ls.flatten.length ≤ 1099511627776) (w : World) (hp : Parts w po ls) :
    Calls Tryd.prog 53 #[.slice po n cap] w (NewBytes w ls.flatten) := by
  subst hn
  have HP := Lib.hid hp
  have HB := Lib.hid hb
  clear hp hb
  go_enter Tryd.func53, Tryd.ntmps53
  go_wp2
  go_loop [3, 11] (fun r i => ∃ k : Nat, k ≤ ls.length ∧ i = .int .i64 (k : Int) ∧ r = .int .i64 ((ls.take k).flatten.length : Nat)) (fun _ i => ls.length - (intOf i).toNat)
  case atStart => exact ⟨0, Nat.zero_le _, rfl, rfl⟩
  case round =>
    obtain ⟨k, hk, rfl, rfl⟩ := hrel
    have hs : (ls.take k).flatten.length ≤ 1099511627776 := Nat.le_trans (flat_le ls k) HB.out
    generalize hr : (ls.take k).flatten.length = r at *
    have HR := Lib.hid hr
    clear hr
    by_cases hlt : k < ls.length
    · obtain ⟨hkl, b, o, ao, cap', rfl, hcell, hat⟩ := HP.out k hlt
      have hstep : (ls.take (k + 1)).flatten.length = r + (ls[k]).length := by rw [List.take_succ_eq_append_getElem hlt, List.flatten_append, List.length_append, HR.out]; simp
      have hs2 : r + (ls[k]).length ≤ 1099511627776 := by rw [← hstep]; exact Nat.le_trans (flat_le ls (k + 1)) HB.out
      have HS := Lib.hid hstep
      clear hstep hat hkl
      go_wp2
      go_round
      case rel => exact ⟨k + 1, by omega, by simp, by rw [HS.out]; simp⟩
      case measure => simp [intOf]; omega
    · obtain rfl : k = ls.length := by omega
      go_wp2_with fail
      refine (grow_any r (by omega) w).mono ?_
      rintro e w1 ⟨ao1, cap1, rfl, hown1, hbel1⟩
      have H1 := Lib.hid (And.intro hown1 hbel1)
      clear hown1 hbel1
      go_wp2_with fail
      go_loopw [6, 27] (fun v i wr => ∃ (k : Nat) (ao : Option Addr) (cap : Nat), k ≤ ls.length ∧ i = .int .i64 (k : Int) ∧ v = .slice ao (ls.take k).flatten.length cap ∧
        wr.ownsRow w.heap.size 5 1 (.slice ao (ls.take k).flatten.length cap) (ls.take k).flatten.length (bytesV (ls.take k).flatten) ∧ Below w.heap.size w wr) (fun _ i _ => ls.length - (intOf i).toNat)
      case atStart => exact ⟨0, ao1, cap1, Nat.zero_le _, rfl, rfl, H1.out.1, H1.out.2⟩
      case round =>
        obtain ⟨k, aok, capk, hk, rfl, rfl, hown, hbel⟩ := hrel
        have hsz := hbel.size
        have HO := Lib.hid (And.intro hown hbel)
        clear hown hbel
        by_cases hlt : k < ls.length
        · obtain ⟨hkl, b, o, ao, cap', rfl, hcell, hat⟩ := (HP.out.below HO.out.2) k hlt
          have hstep : (ls.take (k + 1)).flatten = (ls.take k).flatten ++ ls[k] := by rw [List.take_succ_eq_append_getElem hlt, List.flatten_append]; simp
          have hs2 : (ls.take k).flatten.length + (ls[k]).length ≤ 1099511627776 := by
            have := flat_le ls (k + 1)
            rw [hstep, List.length_append] at this
            exact Nat.le_trans this HB.out
          have HS := Lib.hid hstep
          have HAT := Lib.hid hat
          clear hstep hat hkl
          go_wp2_with (at_builtin; refine app_bytes rfl _ _ rfl w.heap.size aok capk (ls.take k).flatten _ rfl HO.out.1 ao _ cap' ls[k] rfl HAT.out rfl (by omega) (by omega) ?_; rintro co capc w2 ⟨q1, q2, q3⟩)
          go_roundw
          case rel =>
            refine ⟨k + 1, co, capc, by omega, by simp, by rw [HS.out, List.length_append]; simp [List.length_flatten, List.map_take], ?_, HO.out.2.trans (below_grown HO.out.1 (by omega) q2)⟩
            rw [HS.out]
            exact q1
          case measure => simp [intOf]; omega
        · obtain rfl : k = ls.length := by omega
          go_wp2
          go_ret
          have e : ls.take ls.length = ls := List.take_of_length_le (Nat.le_refl _)
          have := HO.out
          rw [e] at this
          exact ⟨aok, capk, by rw [e]; rfl, this⟩

end Go.Proofs.YtpeehagaiofobaaDoor
