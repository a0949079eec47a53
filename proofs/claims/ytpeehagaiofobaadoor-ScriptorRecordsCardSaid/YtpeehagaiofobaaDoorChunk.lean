/- The library's slices.Chunk at bytes, 511 at a time: its iterator's contract. -/
import Derived.Test.YtpeehagaiofobaaDoorWal6
import Derived.Test.YtpeehagaiofobaaDoorRound
import Derived.Shelf.Abstract
import Derived.Shelf.RegionOpen
import Derived.WalkKit
import Derived.OwnWalkIn
import Derived.TacticsInMore
import Derived.LoopNIn
import Derived.LoopIn
namespace Go.Proofs.YtpeehagaiofobaaDoor
open Go.RowKit Go.Shelf
attribute [local go_sem] Oper.semAt_some

/-- The k-th part of a slice, as it is handed out. -/
def chunkV (so : Option Addr) (len k : Nat) : Value := .slice (so.map (·.add (511 * k))) (min 511 (len - 511 * k)) (min 511 (len - 511 * k))
/-- What a round keeps of the iterator's own. -/
def KpC (b1 b2 : Nat) (W W' : World) : Prop := W'.heap[b1]? = W.heap[b1]? ∧ W'.heap[b2]? = W.heap[b2]?

theorem slice_ijmIn {F : Fence} {n : Nat} {w : World} {ops : Array Oper} {rest : List Oper} {o : Oper} {a : Act} {Q : Exit → Act → World → Prop} (hgd : Region.wanted o (yielded ops a.tmps) = true) (x lo hi mx : Operand) (ho : o.op = .slice 40 x (some lo) (some hi) (some mx))
    (ao : Option Addr) (len cap i j : Nat) (zi zj : Int) (hi0 : zi = i) (hj0 : zj = j) (hx : a.eval x = .slice ao len cap) (hl : a.eval lo = .int .i64 zi) (hh : a.eval hi = .int .i64 zj) (hm : a.eval mx = .int .i64 zj) (h1 : i < j) (h2 : j ≤ cap)
    (h : wpListIn F n Tryd.prog ops Q rest (a.put o.dst (.slice (ao.map (·.add i)) (j - i) (j - i))) w) : wpListIn F n Tryd.prog ops Q (o :: rest) a w := by
  subst hi0
  subst hj0
  unfold wpListIn
  rw [if_pos hgd]
  have hr := run_slice_ijm (P := Tryd.prog) w 40 1 elemB sizeB ao len cap i j j (by omega) (Nat.le_refl _) h2
  rw [Nat.mul_one, if_neg (by omega)] at hr
  refine ⟨fun f hf => ?_, ?_⟩
  · simp [Oper.about, ho] at hf
  rw [Oper.semAt_eq _ _ _ (by simp [ho])]
  unfold execOp
  simp only [ho, hx, hl, hh, hm, Option.map_some, Option.map_none, hr, Sem.run_bind, Sem.run_pure, Result.andThen_ok]
  exact h

set_option maxRecDepth 100000 in
set_option maxHeartbeats 1000000 in
theorem chunk1_in (n : Nat) (hn : 1 ≤ n) (l b1 b2 : Nat) (so : Option Addr) (len cap : Nat) (hlc : len ≤ cap) (hlen : len ≤ 1000000000) (J Jx : List Nat → World → Prop) (W : World) (hJ : ∀ pre X, J pre X → J pre X.drew)
    (hY : ∀ pre k X, J pre X → pre.length < nparts len → YieldAt Fence.wide (n - 1) Tryd.prog l #[chunkV so len k] X fun e X' =>
      (e = .returned (.bool true) ∧ J (pre ++ [k]) X' ∧ KpC b1 b2 X X') ∨ (e = .returned (.bool false) ∧ Jx (pre ++ [k]) X'))
    (hc1 : W.cell? ⟨b1, 0, none⟩ = some (.slice so len cap)) (hc2 : W.cell? ⟨b2, 0, none⟩ = some (.int .i64 511)) (h0 : J [] W) :
    CallsIn Fence.wide n Tryd.prog 52 #[.func (.yield l) #[] #[], .pointer (some ⟨b1, 0, none⟩), .pointer (some ⟨b2, 0, none⟩)] W fun e W' => (∃ v, e = .returned v) ∧
      ((∃ ys, ys = List.range (nparts len) ∧ J ys W') ∨ (∃ pre, (∃ k, k ≤ nparts len ∧ pre = List.range k) ∧ Jx pre W')) := by
  have HJ := Lib.hid hJ
  have HC := Lib.hid (And.intro hc1 hc2)
  clear hJ hc1 hc2
  refine callsIn_of_wp Tryd.func52 rfl trivial ?_ rfl
  simp only [Tryd.ntmps52, List.size_toArray, List.length_cons, List.length_nil, Nat.reduceAdd, Nat.reduceSub, Array.replicate_succ, Array.replicate_zero, List.push_toArray, List.append_toArray, List.nil_append, List.cons_append]
  gi_wp2
  gi_loopw [4] (fun i wr => ∃ k q : Nat, k ≤ nparts len ∧ Hid (q = 511 * k) ∧ i = .int .i64 (q : Int) ∧ J (List.range k) wr ∧ KpC b1 b2 W wr)
    (fun i _ => len + 511 - (intOf i).toNat)
  case atStart => exact ⟨0, 0, Nat.zero_le _, Lib.hid rfl, rfl, h0, rfl, rfl⟩
  case round =>
    obtain ⟨k, q, hk, HQ, rfl, hJs, hkp⟩ := hrel
    have c1 : wr.cell? ⟨b1, 0, none⟩ = some (.slice so len cap) := (World.cell?_of_block (a := ⟨b1, 0, none⟩) hkp.1).trans HC.out.1
    have c2 : wr.cell? ⟨b2, 0, none⟩ = some (.int .i64 511) := (World.cell?_of_block (a := ⟨b2, 0, none⟩) hkp.2).trans HC.out.2
    have HK := Lib.hid (And.intro hkp (And.intro c1 c2))
    have hqb : q ≤ 1000001000 := by have := HQ.out; unfold nparts at hk; omega
    by_cases hlt : k < nparts len
    · have hql : q < len := by have := nparts_lt hlt; rw [HQ.out]; exact this
      have hcond : decide ((q : Int) < (len : Int)) = true := decide_eq_true (by omega)
      obtain ⟨r, hr⟩ : ∃ r, min 511 (len - q) = r := ⟨_, rfl⟩
      have hr0 : 0 < r := by omega
      have hqr : q + r ≤ len := by omega
      have hr1 : r ≤ 511 := by omega
      have HM := Lib.hid (show min (511 : Int) ((len - q : Nat) : Int) = (r : Int) by omega)
      have hcv : chunkV so len k = .slice (so.map (·.add q)) r r := by unfold chunkV; rw [← HQ.out, hr]
      obtain ⟨fn, tmps, assign, body, hy, hR⟩ := hY _ k wr.drew (HJ.out _ _ hJs) (by rw [List.length_range]; exact hlt)
      rw [hcv] at hy
      have HR := Lib.hid hR
      have hc1d : wr.drew.cell? ⟨b1, 0, none⟩ = some (.slice so len cap) := HK.out.2.1
      have hc2d : wr.drew.cell? ⟨b2, 0, none⟩ = some (.int .i64 511) := HK.out.2.2
      have HY := Lib.hid hy
      have HC1 := Lib.hid hc1d
      have HC2 := Lib.hid hc2d
      clear c2 hkp hr hcv hR hy hc1d hc2d
      gi_wp2
      refine wpIn_wide.2 ?_
      refine seq_start (by kernel_rfl) ?_
      refine seq_take 0 rfl (by kernel_rfl) (fun _ _ _ h => h) (by rfl) (seq_ldi rfl rfl (HC2.out)) ?_
      try simp only [List.getElem_toArray, List.getElem_cons_succ, List.getElem_cons_zero, Act.put, List.setIfInBounds_toArray, List.set_cons_zero, List.set_cons_succ]
      refine seq_take 1 rfl (by kernel_rfl) (fun _ _ _ h => h) (by rfl) (seq_ldb rfl rfl (HC1.out)) ?_
      try simp only [List.getElem_toArray, List.getElem_cons_succ, List.getElem_cons_zero, Act.put, List.setIfInBounds_toArray, List.set_cons_zero, List.set_cons_succ]
      refine seq_take 2 (v := ?_) rfl (by kernel_rfl) (fun _ _ _ h => h) (by rfl) (fun w' hw' => ?_) ?_
      rotate_left
      · go_simp; try with_reducible rfl
      try simp only [List.getElem_toArray, List.getElem_cons_succ, List.getElem_cons_zero, Act.put, List.setIfInBounds_toArray, List.set_cons_zero, List.set_cons_succ]
      refine seq_take 3 rfl (by kernel_rfl) (fun _ _ _ h => h) (by rfl) (seq_lo rfl rfl rfl ((show q ≤ len by omega))) ?_
      try simp only [List.getElem_toArray, List.getElem_cons_succ, List.getElem_cons_zero, Act.put, List.setIfInBounds_toArray, List.set_cons_zero, List.set_cons_succ]
      refine seq_take 4 (v := ?_) rfl (by kernel_rfl) (fun _ _ _ h => h) (by rfl) (fun w' hw' => ?_) ?_
      rotate_left
      · go_simp; try with_reducible rfl
      try simp only [List.getElem_toArray, List.getElem_cons_succ, List.getElem_cons_zero, Act.put, List.setIfInBounds_toArray, List.set_cons_zero, List.set_cons_succ]
      refine seq_take 5 rfl (by kernel_rfl) (fun _ _ _ h => h) (by rfl) (yields_min2 rfl rfl rfl (HM.out)) ?_
      try simp only [List.getElem_toArray, List.getElem_cons_succ, List.getElem_cons_zero, Act.put, List.setIfInBounds_toArray, List.set_cons_zero, List.set_cons_succ]
      refine seq_take 6 (v := ?_) rfl (by kernel_rfl) (fun _ _ _ h => h) (by rfl) (fun w' hw' => ?_) ?_
      rotate_left
      · go_simp; try with_reducible rfl
      try simp only [List.getElem_toArray, List.getElem_cons_succ, List.getElem_cons_zero, Act.put, List.setIfInBounds_toArray, List.set_cons_zero, List.set_cons_succ]
      refine seq_done (by kernel_rfl) ?_
      have hc1d := HC1.out
      have hy := HY.out
      gi_wp2_with (refine slice_ijmIn rfl _ _ _ _ rfl so len cap q (q + r) _ _ rfl (by omega) rfl rfl rfl rfl (by omega) (by omega) ?_; rw [Nat.add_sub_cancel_left])
      refine HR.out.mono ?_
      rintro e W3 (⟨rfl, hJ3, hk3⟩ | ⟨rfl, hJx3⟩)
      · have hK3 : KpC b1 b2 W W3 := ⟨hk3.1.trans HK.out.1.1, hk3.2.trans HK.out.1.2⟩
        have c23 : W3.cell? ⟨b2, 0, none⟩ = some (.int .i64 511) := (World.cell?_of_block (a := ⟨b2, 0, none⟩) hk3.2).trans HC2.out
        clear hc1d hy
        gi_wp2
        go_roundw
        case rel => exact ⟨k + 1, q + 511, by omega, Lib.hid (by rw [HQ.out]; omega), by simp, by rw [List.range_succ]; exact hJ3, hK3⟩
        case measure => simp [intOf]; omega
      · clear hc1d hy
        gi_wp2
        refine bodyPost_ret (results_none rfl _ _ _) rfl ?_
        exact ⟨⟨_, rfl⟩, .inr ⟨_, ⟨k + 1, by omega, (List.range_succ).symm⟩, hJx3⟩⟩
    · obtain rfl : k = nparts len := by omega
      have hql : len ≤ q := by rw [HQ.out]; unfold nparts; omega
      have hcond : decide ((q : Int) < (len : Int)) = false := decide_eq_false (by omega)
      clear c2 hkp
      gi_wp2
      go_end0
      exact ⟨⟨_, rfl⟩, .inl ⟨_, rfl, hJs⟩⟩

/-- THE ITERATOR's CONTRACT. -/
theorem chunk_stops (n : Nat) (hn : 1 ≤ n) (b1 b2 : Nat) (so : Option Addr) (len cap : Nat) (hlc : len ≤ cap) (hlen : len ≤ 1000000000) (w : World) (hc1 : w.cell? ⟨b1, 0, none⟩ = some (.slice so len cap)) (hc2 : w.cell? ⟨b2, 0, none⟩ = some (.int .i64 511)) :
    SeqStopsK Fence.wide n Tryd.prog 52 #[.pointer (some ⟨b1, 0, none⟩), .pointer (some ⟨b2, 0, none⟩)] (fun k : Nat => #[chunkV so len k]) (KpC b1 b2) (fun ys => ys = List.range (nparts len)) (fun pre => ∃ k, k ≤ nparts len ∧ pre = List.range k) (nparts len) w :=
  fun l J Jx W hW hJ _ hY h0 => chunk1_in n hn l b1 b2 so len cap hlc hlen J Jx W (fun pre X h => hJ pre X X.drew none h ⟨rfl, rfl, rfl, Nat.le_refl _, fun _ _ _ => rfl⟩ (fun r e => by cases e)) hY
    ((World.cell?_of_block (hW.block b1 (World.block_lt_of_cell? (a := ⟨b1, 0, none⟩) w hc1))).trans hc1) ((World.cell?_of_block (hW.block b2 (World.block_lt_of_cell? (a := ⟨b2, 0, none⟩) w hc2))).trans hc2) h0

theorem chunk_any (so : Option Addr) (len cap : Nat) (w : World) :
    Calls Tryd.prog 26 #[.slice so len cap, .int .i64 511] w (fun e w' => e = .returned (.func (.func 52) #[] #[.pointer (some ⟨w.heap.size, 0, none⟩), .pointer (some ⟨w.heap.size + 1, 0, none⟩)]) ∧ Below w.heap.size w w' ∧ w'.heap.size = w.heap.size + 2 ∧
      w'.cell? ⟨w.heap.size, 0, none⟩ = some (.slice so len cap) ∧ w'.cell? ⟨w.heap.size + 1, 0, none⟩ = some (.int .i64 511)) := by
  have hmf : ∀ (fn : Fn) (first cap : Array Value) (w : World), (Instr.makeFunc fn first cap).run Tryd.prog w = .ok (.func fn first cap) w := fun _ _ _ _ => rfl
  go_enter Tryd.func26, Tryd.ntmps26
  go_wp2_with fail
  go_returns
  refine ⟨rfl, ((Below.refl _ w).alloc (Nat.le_refl _) _).alloc (by simp) _, by simp, ?_, ?_⟩
  · have h1 := cell_of_row _ w.heap.size 0 _ _ (0, 0) (heap_alloc_new w (.cells #[.slice so len cap] 40))
    have hlt : w.heap.size < (w.alloc (.cells #[.slice so len cap] 40)).heap.size := by simp
    exact (World.cell?_of_block (a := ⟨w.heap.size, 0, none⟩) (Below.heap_alloc _ _ _ hlt)).trans h1
  · have := cell_of_row _ (w.alloc (.cells #[.slice so len cap] 40)).heap.size 0 _ _ (0, 0) (heap_alloc_new (w.alloc (.cells #[.slice so len cap] 40)) (.cells #[.int .i64 511] 3))
    rw [World.size_alloc] at this
    exact this

end Go.Proofs.YtpeehagaiofobaaDoor
