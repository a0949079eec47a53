/- The walks of the library's slices.Equal, Clone, Grow, Concat at bytes. -/
import Derived.Test.YtkgdcbpiicckkaaGreatDoorCrc
import Derived.Lib.BufferMore
import Derived.Lib.AppendZerosOnto
import Derived.Handy
namespace Go.Proofs.YtkgdcbpiicckkaaGreatDoor
set_option linter.unusedSimpArgs false
set_option linter.unusedVariables false
open Go.RowKit

theorem At.ex {w : World} {ao : Option Addr} {l : List UInt8} (h : At w ao (bytesV l)) (k : Nat) (hk : k < l.length) : ∃ b o, ao = some ⟨b, o, none⟩ ∧ w.cell? ⟨b, o + k, none⟩ = some (.int .u8 ((l[k]).toNat : Int)) := by
  rcases h with e | ⟨b, o, rfl, hc⟩
  · have := congrArg List.length e; rw [bytesV_length, List.length_nil] at this; omega
  · exact ⟨b, o, rfl, hc k _ (bytesV_get l k hk)⟩

set_option maxRecDepth 100000 in
set_option maxHeartbeats 400000 in
theorem equal_any (ao bo : Option Addr) (l m : List UInt8) (n n2 cap cap2 : Nat) (hn : n = l.length) (hn2 : n2 = m.length) (hl : n ≤ 9223372036854775807) (hl2 : n2 ≤ 9223372036854775807) (w : World) (ha : At w ao (bytesV l)) (hb : At w bo (bytesV m)) :
    Calls Tryz.prog 28 #[.slice ao n cap, .slice bo n2 cap2] w (Says w (.bool (l == m))) := by
  subst hn hn2
  have HA := Lib.hid (And.intro ha hb)
  clear ha hb
  go_enter Tryz.func28, Tryz.ntmps28
  by_cases hlen : l.length = m.length
  · have hE : ((l.length : Int) != (m.length : Int)) = false := by simp; omega
    have HL := Lib.hid hlen
    clear hlen
    go_wp2_with fail
    go_loopw [13] (fun i wr => ∃ k : Nat, k ≤ l.length ∧ i = .int .i64 (k : Int) ∧ l.take k = m.take k ∧ Below w.heap.size w wr) (fun i _ => l.length - (intOf i).toNat)
    case atStart => exact ⟨0, Nat.zero_le _, rfl, rfl, Below.refl _ _⟩
    case round =>
      obtain ⟨k, hk, rfl, hpre, hbel⟩ := hrel
      have HB := Lib.hid (And.intro hpre hbel)
      clear hpre hbel
      by_cases hlt : k < l.length
      · have hlt2 : k < m.length := by have := HL.out; omega
        obtain ⟨b, o, hao, hc1⟩ := At.ex (HA.out.1.below HB.out.2) k hlt
        obtain ⟨b2, o2, hbo, hc2⟩ := At.ex (HA.out.2.below HB.out.2) k hlt2
        subst hao hbo
        have HC := Lib.hid (And.intro hc1 hc2)
        clear hc1 hc2
        have hne : (((l[k]).toNat : Int) != ((m[k]).toNat : Int)) = !decide (l[k] = m[k]) := by
          by_cases h : l[k] = m[k]
          · simp [h]
          · simp [h]; intro h2; exact h (UInt8.toNat_inj.1 (by omega))
        by_cases hx : l[k] = m[k]
        · have HX := Lib.hid hx
          rw [decide_eq_true hx] at hne
          clear hx
          go_wp2_with fail
          refine seq_start (by kernel_rfl) ?_
          refine seq_take 0 (v := ?_) rfl (by kernel_rfl) (fun _ _ _ h => h) (by rfl) (fun w' hw' => ?_) ?_
          rotate_left
          · go_simp; try with_reducible rfl
          try simp only [List.getElem_toArray, List.getElem_cons_succ, List.getElem_cons_zero, Act.put, List.setIfInBounds_toArray, List.set_cons_zero, List.set_cons_succ]
          refine seq_take 1 (v := ?_) rfl (by kernel_rfl) (fun _ _ _ h => h) (by rfl) (fun w' hw' => ?_) ?_
          rotate_left
          · go_simp; try with_reducible rfl
          try simp only [List.getElem_toArray, List.getElem_cons_succ, List.getElem_cons_zero, Act.put, List.setIfInBounds_toArray, List.set_cons_zero, List.set_cons_succ]
          refine seq_take 2 (v := ?_) rfl (by kernel_rfl) (fun _ _ _ h => h) (by rfl) (fun w' hw' => ?_) ?_
          rotate_left
          · go_simp; try with_reducible rfl
          try simp only [List.getElem_toArray, List.getElem_cons_succ, List.getElem_cons_zero, Act.put, List.setIfInBounds_toArray, List.set_cons_zero, List.set_cons_succ]
          refine seq_take 4 (v := ?_) rfl (by kernel_rfl) (fun _ _ _ h => h) (by rfl) (fun w' hw' => ?_) ?_
          rotate_left
          · go_simp; try with_reducible rfl
          try simp only [List.getElem_toArray, List.getElem_cons_succ, List.getElem_cons_zero, Act.put, List.setIfInBounds_toArray, List.set_cons_zero, List.set_cons_succ]
          refine seq_take 5 (v := ?_) rfl (by kernel_rfl) (fun _ _ _ h => h) (by rfl) (fun w' hw' => ?_) ?_
          rotate_left
          · go_simp; try with_reducible rfl
          try simp only [List.getElem_toArray, List.getElem_cons_succ, List.getElem_cons_zero, Act.put, List.setIfInBounds_toArray, List.set_cons_zero, List.set_cons_succ]
          refine seq_take 6 (v := ?_) rfl (by kernel_rfl) (fun _ _ _ h => h) (by rfl) (fun w' hw' => ?_) ?_
          rotate_left
          · go_simp; try with_reducible rfl
          try simp only [List.getElem_toArray, List.getElem_cons_succ, List.getElem_cons_zero, Act.put, List.setIfInBounds_toArray, List.set_cons_zero, List.set_cons_succ]
          refine seq_take 3 rfl (by kernel_rfl) (fun _ _ _ h => h) (by rfl) (seq_ld8 rfl rfl (HC.out.1)) ?_
          try simp only [List.getElem_toArray, List.getElem_cons_succ, List.getElem_cons_zero, Act.put, List.setIfInBounds_toArray, List.set_cons_zero, List.set_cons_succ]
          refine seq_take 7 rfl (by kernel_rfl) (fun _ _ _ h => h) (by rfl) (seq_ld8 rfl rfl (HC.out.2)) ?_
          try simp only [List.getElem_toArray, List.getElem_cons_succ, List.getElem_cons_zero, Act.put, List.setIfInBounds_toArray, List.set_cons_zero, List.set_cons_succ]
          refine seq_take 8 (v := ?_) rfl (by kernel_rfl) (fun _ _ _ h => h) (by rfl) (fun w' hw' => ?_) ?_
          rotate_left
          · go_simp; try with_reducible rfl
          try simp only [List.getElem_toArray, List.getElem_cons_succ, List.getElem_cons_zero, Act.put, List.setIfInBounds_toArray, List.set_cons_zero, List.set_cons_succ]
          refine seq_done (by kernel_rfl) ?_
          go_wp2_with fail
          go_roundw
          case rel =>
            refine ⟨k + 1, by omega, by simp, ?_, HB.out.2.drew⟩
            rw [List.take_succ_eq_append_getElem hlt, List.take_succ_eq_append_getElem hlt2, HB.out.1, HX.out]
          case measure => simp [intOf]; omega
        · have HX := Lib.hid hx
          rw [decide_eq_false hx] at hne
          clear hx
          go_wp2_with fail
          refine seq_start (by kernel_rfl) ?_
          refine seq_take 0 (v := ?_) rfl (by kernel_rfl) (fun _ _ _ h => h) (by rfl) (fun w' hw' => ?_) ?_
          rotate_left
          · go_simp; try with_reducible rfl
          try simp only [List.getElem_toArray, List.getElem_cons_succ, List.getElem_cons_zero, Act.put, List.setIfInBounds_toArray, List.set_cons_zero, List.set_cons_succ]
          refine seq_take 1 (v := ?_) rfl (by kernel_rfl) (fun _ _ _ h => h) (by rfl) (fun w' hw' => ?_) ?_
          rotate_left
          · go_simp; try with_reducible rfl
          try simp only [List.getElem_toArray, List.getElem_cons_succ, List.getElem_cons_zero, Act.put, List.setIfInBounds_toArray, List.set_cons_zero, List.set_cons_succ]
          refine seq_take 2 (v := ?_) rfl (by kernel_rfl) (fun _ _ _ h => h) (by rfl) (fun w' hw' => ?_) ?_
          rotate_left
          · go_simp; try with_reducible rfl
          try simp only [List.getElem_toArray, List.getElem_cons_succ, List.getElem_cons_zero, Act.put, List.setIfInBounds_toArray, List.set_cons_zero, List.set_cons_succ]
          refine seq_take 4 (v := ?_) rfl (by kernel_rfl) (fun _ _ _ h => h) (by rfl) (fun w' hw' => ?_) ?_
          rotate_left
          · go_simp; try with_reducible rfl
          try simp only [List.getElem_toArray, List.getElem_cons_succ, List.getElem_cons_zero, Act.put, List.setIfInBounds_toArray, List.set_cons_zero, List.set_cons_succ]
          refine seq_take 5 (v := ?_) rfl (by kernel_rfl) (fun _ _ _ h => h) (by rfl) (fun w' hw' => ?_) ?_
          rotate_left
          · go_simp; try with_reducible rfl
          try simp only [List.getElem_toArray, List.getElem_cons_succ, List.getElem_cons_zero, Act.put, List.setIfInBounds_toArray, List.set_cons_zero, List.set_cons_succ]
          refine seq_take 6 (v := ?_) rfl (by kernel_rfl) (fun _ _ _ h => h) (by rfl) (fun w' hw' => ?_) ?_
          rotate_left
          · go_simp; try with_reducible rfl
          try simp only [List.getElem_toArray, List.getElem_cons_succ, List.getElem_cons_zero, Act.put, List.setIfInBounds_toArray, List.set_cons_zero, List.set_cons_succ]
          refine seq_take 3 rfl (by kernel_rfl) (fun _ _ _ h => h) (by rfl) (seq_ld8 rfl rfl (HC.out.1)) ?_
          try simp only [List.getElem_toArray, List.getElem_cons_succ, List.getElem_cons_zero, Act.put, List.setIfInBounds_toArray, List.set_cons_zero, List.set_cons_succ]
          refine seq_take 7 rfl (by kernel_rfl) (fun _ _ _ h => h) (by rfl) (seq_ld8 rfl rfl (HC.out.2)) ?_
          try simp only [List.getElem_toArray, List.getElem_cons_succ, List.getElem_cons_zero, Act.put, List.setIfInBounds_toArray, List.set_cons_zero, List.set_cons_succ]
          refine seq_take 8 (v := ?_) rfl (by kernel_rfl) (fun _ _ _ h => h) (by rfl) (fun w' hw' => ?_) ?_
          rotate_left
          · go_simp; try with_reducible rfl
          try simp only [List.getElem_toArray, List.getElem_cons_succ, List.getElem_cons_zero, Act.put, List.setIfInBounds_toArray, List.set_cons_zero, List.set_cons_succ]
          refine seq_done (by kernel_rfl) ?_
          go_wp2_with fail
          go_ret
          refine ⟨?_, HB.out.2.drew⟩
          have : l ≠ m := by rintro rfl; exact HX.out rfl
          simp [this]
      · go_wp2
        go_ret
        refine ⟨?_, HB.out.2⟩
        have e : l = m := by
          have := HB.out.1
          rw [List.take_of_length_le (by omega), List.take_of_length_le (by have := HL.out; omega)] at this
          exact this
        simp [e]
  · have hE : ((l.length : Int) != (m.length : Int)) = true := by simp; omega
    have HL := Lib.hid hlen
    clear hlen
    go_wp2_with fail
    go_ret
    have : l ≠ m := by rintro rfl; exact HL.out rfl
    exact ⟨by simp [this], Below.refl _ _⟩

set_option maxHeartbeats 400000 in
theorem sclone_any (ao : Option Addr) (l : List UInt8) (n cap : Nat) (hn : n = l.length) (hm : n ≤ 70368744177664) (w : World) (hat : At w ao (bytesV l)) :
    Calls Tryz.prog 29 #[.slice ao n cap] w (NewBytes w l) := by
  subst hn
  have HA := Lib.hid hat
  go_enter Tryz.func29, Tryz.ntmps29
  rcases ao with _ | a
  · have hl : l = [] := by
      rcases HA.out with h | ⟨b, o, h, _⟩
      · simpa [bytesV] using h
      · cases h
    subst hl
    have heq := Lib.run_eql_slice_nil_nil (P := Tryz.prog) w 0 cap Tryz.underlying24
    simp only [List.length_nil] at *
    go_wp2_with fail
    go_ret
    exact ⟨none, 0, rfl, World.ownsRow_nil _ _ _ _, Below.refl _ _⟩
  · have heq := Lib.run_eql_slice_some_nil (P := Tryz.prog) w a l.length cap Tryz.underlying24
    go_wp2_with (at_builtin; refine app_bytes rfl _ _ rfl w.heap.size (some ⟨w.heap.size, 0, none⟩) 0 [] 0 rfl (by exact World.ownsRow_lit w #[] 0 (Nat.le_refl _) (by decide) rfl) _ _ cap l rfl (HA.out.below ((Below.refl _ _).alloc (Nat.le_refl _) _)) rfl (by omega) (by simp) ?_; rintro co capc w1 ⟨q1, q2, q3⟩)
    go_ret
    have hb1 : Below w.heap.size w w1 := ((Below.refl _ w).alloc (Nat.le_refl _) _).trans (below_grown (B := w.heap.size) (w := w.alloc (.cells #[] 5)) (ao := some ⟨w.heap.size, 0, none⟩) (m := 0) (cap := 0) (e := 5) (size := 1) (n := 0) (xs := []) (World.ownsRow_lit w #[] 0 (Nat.le_refl _) (by decide) rfl) (by simp) q2)
    refine ⟨co, capc, by simp, by simpa using q1, hb1⟩

/-- 'append([]byte(nil), make([]byte, n)...)'. -/
theorem app_zeros {w : World} {ops : Array Oper} {rest : List Oper} {o : Oper} {a : Act} {Q : Exit → Act → World → Prop} (hgd : Region.wanted o (yielded ops a.tmps) = true) (s x : Operand)
    (ho : o.op = .call { callee := .builtin .append, args := #[s, x], argTypes := #[24, 3] })
    (n : Nat) (h0 : 0 < n) (hs : a.eval s = .slice none 0 0) (hx : a.eval x = .int .i64 (n : Int)) (hb : n ≤ 70368744177664)
    (h : ∀ cap w', w'.ownsRow w.heap.size 5 1 (.slice (some ⟨w.heap.size, 0, none⟩) 0 cap) 0 [] → Below w.heap.size w w' → n ≤ cap → cap ≤ 9223372036854775807 → wpList Tryz.prog ops Q rest (a.put o.dst (.slice (some ⟨w.heap.size, 0, none⟩) n cap)) w') : wpList Tryz.prog ops Q (o :: rest) a w := by
  obtain ⟨i0, hi, hz0, hz1, hz2⟩ := info_parts infoU8
  refine wpList_go hgd fun K hK => ?_
  have hr := Lib.run_append_grow_zeros (P := Tryz.prog) w 24 3 o.type 5 i0 (.int .u8 0) .i64 .i64 Tryz.underlying24 Tryz.underlying3 hi hz0 none 0 0 [] (by simp [Builtin.firstCells]) n h0 (by omega) (by omega) (by omega) (by rw [hz2]; omega) (growslice_fits (by omega) (by rw [hz2]; omega))
  have hge := grownCap_ge w (0 + n) 0 5
  have hcm := grownCap_le_maxLen w (0 + n) 0 5 (by unfold maxLen; omega)
  have hsz : (Value.int IntKind.u8 0).cells.size = 1 := rfl
  unfold Oper.wp execOp
  simp only [ho, resolve, invoke, builtin, Sem.run_bind, Sem.run_pure, Result.andThen_ok, List.map_toArray, List.map_cons, List.map_nil, hs, hx, hr]
  rw [Nat.zero_add] at *
  refine hK _ _ (h _ _ ⟨rfl, .inr ⟨w.heap.size, _, _, rfl, Nat.le_refl _, heap_alloc_new w.drew _, Nat.zero_le _, hcm, ?_, rfl⟩⟩ ((Below.refl _ w).drew.alloc (Nat.le_refl _) _) hge (by unfold maxLen at hcm; omega))
  rw [Array.size_append, Array.size_append, List.size_toArray, List.length_nil, size_zeroCells, size_zeroCells, hsz]
  omega

set_option maxHeartbeats 400000 in
theorem grow_any (n : Nat) (hb : n ≤ 70368744177664) (w : World) :
    Calls Tryz.prog 45 #[.slice none 0 0, .int .i64 (n : Int)] w (NewBytes w []) := by
  go_enter Tryz.func45, Tryz.ntmps45
  rcases Nat.eq_zero_or_pos n with rfl | h0
  · go_wp2_with fail
    go_ret
    exact ⟨none, 0, rfl, World.ownsRow_nil _ _ _ _, Below.refl _ _⟩
  · go_wp2_with (at_builtin; refine app_zeros rfl _ _ rfl n h0 rfl rfl hb ?_; rintro cap w1 q1 q2 q3 q4)
    go_ret
    exact ⟨_, _, rfl, q1, q2⟩

theorem flat_le (ls : List (List UInt8)) (k : Nat) : (ls.take k).flatten.length ≤ ls.flatten.length := by
  have : ls.flatten = (ls.take k).flatten ++ (ls.drop k).flatten := by rw [← List.flatten_append, List.take_append_drop]
  rw [this, List.length_append]
  omega

set_option maxRecDepth 100000 in
set_option maxHeartbeats 1000000 in
theorem concat_any (po : Option Addr) (n cap : Nat) (ls : List (List UInt8)) (hn : n = ls.length) (hlen : n ≤ 9223372036854775807) (hb : ls.flatten.length ≤ 1099511627776) (w : World) (hp : Parts w po ls) :
    Calls Tryz.prog 24 #[.slice po n cap] w (NewBytes w ls.flatten) := by
  subst hn
  have HP := Lib.hid hp
  have HB := Lib.hid hb
  clear hp hb
  go_enter Tryz.func24, Tryz.ntmps24
  go_wp2
  go_loop [3, 11] (fun r i => ∃ k : Nat, k ≤ ls.length ∧ i = .int .i64 (k : Int) ∧ r = .int .i64 ((ls.take k).flatten.length : Nat)) (fun _ i => ls.length - (intOf i).toNat)
  case atStart => exact ⟨0, Nat.zero_le _, rfl, rfl⟩
  case round =>
    obtain ⟨k, hk, rfl, rfl⟩ := hrel
    have hs : (ls.take k).flatten.length ≤ 1099511627776 := Nat.le_trans (flat_le ls k) HB.out
    generalize hr : (ls.take k).flatten.length = r at *
    have HR := Lib.hid hr
    clear hr
    by_cases hlt : k < ls.length
    · obtain ⟨hkl, b, o, ao, cap', rfl, hcell, hat⟩ := HP.out k hlt
      have hstep : (ls.take (k + 1)).flatten.length = r + (ls[k]).length := by rw [List.take_succ_eq_append_getElem hlt, List.flatten_append, List.length_append, HR.out]; simp
      have hs2 : r + (ls[k]).length ≤ 1099511627776 := by rw [← hstep]; exact Nat.le_trans (flat_le ls (k + 1)) HB.out
      have HS := Lib.hid hstep
      clear hstep hat hkl
      go_wp2
      go_round
      case rel => exact ⟨k + 1, by omega, by simp, by rw [HS.out]; simp⟩
      case measure => simp [intOf]; omega
    · obtain rfl : k = ls.length := by omega
      go_wp2_with fail
      refine (grow_any r (by omega) w).mono ?_
      rintro e w1 ⟨ao1, cap1, rfl, hown1, hbel1⟩
      have H1 := Lib.hid (And.intro hown1 hbel1)
      clear hown1 hbel1
      go_wp2_with fail
      go_loopw [6, 27] (fun v i wr => ∃ (k : Nat) (ao : Option Addr) (cap : Nat), k ≤ ls.length ∧ i = .int .i64 (k : Int) ∧ v = .slice ao (ls.take k).flatten.length cap ∧
        wr.ownsRow w.heap.size 5 1 (.slice ao (ls.take k).flatten.length cap) (ls.take k).flatten.length (bytesV (ls.take k).flatten) ∧ Below w.heap.size w wr) (fun _ i _ => ls.length - (intOf i).toNat)
      case atStart => exact ⟨0, ao1, cap1, Nat.zero_le _, rfl, rfl, H1.out.1, H1.out.2⟩
      case round =>
        obtain ⟨k, aok, capk, hk, rfl, rfl, hown, hbel⟩ := hrel
        have hsz := hbel.size
        have HO := Lib.hid (And.intro hown hbel)
        clear hown hbel
        by_cases hlt : k < ls.length
        · obtain ⟨hkl, b, o, ao, cap', rfl, hcell, hat⟩ := (HP.out.below HO.out.2) k hlt
          have hstep : (ls.take (k + 1)).flatten = (ls.take k).flatten ++ ls[k] := by rw [List.take_succ_eq_append_getElem hlt, List.flatten_append]; simp
          have hs2 : (ls.take k).flatten.length + (ls[k]).length ≤ 1099511627776 := by
            have := flat_le ls (k + 1)
            rw [hstep, List.length_append] at this
            exact Nat.le_trans this HB.out
          have HS := Lib.hid hstep
          have HAT := Lib.hid hat
          clear hstep hat hkl
          go_wp2_with (at_builtin; refine app_bytes rfl _ _ rfl w.heap.size aok capk (ls.take k).flatten _ rfl HO.out.1 ao _ cap' ls[k] rfl HAT.out rfl (by omega) (by omega) ?_; rintro co capc w2 ⟨q1, q2, q3⟩)
          go_roundw
          case rel =>
            refine ⟨k + 1, co, capc, by omega, by simp, by rw [HS.out, List.length_append]; simp [List.length_flatten, List.map_take], ?_, HO.out.2.trans (below_grown HO.out.1 (by omega) q2)⟩
            rw [HS.out]
            exact q1
          case measure => simp [intOf]; omega
        · obtain rfl : k = ls.length := by omega
          go_wp2
          go_ret
          have e : ls.take ls.length = ls := List.take_of_length_le (Nat.le_refl _)
          have := HO.out
          rw [e] at this
          exact ⟨aok, capk, by rw [e]; rfl, this⟩

end Go.Proofs.YtkgdcbpiicckkaaGreatDoor
