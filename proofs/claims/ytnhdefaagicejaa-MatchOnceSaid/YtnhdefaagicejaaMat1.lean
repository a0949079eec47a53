/- The walks of match's small functions: open, right, test, same, holds. -/
import Derived.Test.YtnhdefaagicejaaMatD
import Derived.Test.YtnhdefaagicejaaInts
import Derived.Deep.Cut
import Derived.Deep.CutBlock
namespace Go.Proofs.Ytnhdefaagicejaa
set_option linter.unusedSimpArgs false
set_option linter.unusedVariables false
open Go.RowKit

def patV (k m : Int) (t : List UInt8) (ao : Option Addr) (n cap : Nat) : Value := .agg #[.int .i64 k, .int .i64 m, .string ⟨t.toArray⟩, .slice ao n cap]
theorem VIn.val {w : World} {D : Nat → Prop} {n : Nat} {cs : List Value} {k m : Int} {t : List UInt8} {ks : List PV} (h : VIn w D (n + 1) cs (.mk k m t ks)) : ∃ ao cap, Value.agg cs.toArray = patV k m t ao ks.length cap ∧ cs = [.int .i64 k, .int .i64 m, .string ⟨t.toArray⟩, .slice ao ks.length cap] ∧ ks.length ≤ cap ∧ (cap ≤ 9223372036854775807 ∧ R64 k ∧ R64 m ∧ t.length ≤ 9223372036854775807) ∧ VsIn w D n ao ks := by
  obtain ⟨ao, cap, rfl, h1, h2, h3⟩ := VIn.row.1 h
  exact ⟨ao, cap, rfl, rfl, h1, h2, h3⟩
/-- The cells of one part, at the index where it lies. -/
theorem VsIn.cells {w : World} {D : Nat → Prop} {n : Nat} {ao : Option Addr} {xs : List PV} (h : VsIn w D (n + 1) ao xs) (i : Nat) (hi : i < xs.length) :
    ∃ b o k m t kao ks kcap, ao = some ⟨b, o, none⟩ ∧ xs[i] = .mk k m t ks ∧ VIn w D (n + 1) [.int .i64 k, .int .i64 m, .string ⟨t.toArray⟩, .slice kao ks.length kcap] (.mk k m t ks) ∧
      w.cell? ⟨b, o + i * 4, none⟩ = some (.int .i64 k) ∧ w.cell? ⟨b, o + i * 4 + 1, none⟩ = some (.int .i64 m) ∧ w.cell? ⟨b, o + i * 4 + 2, none⟩ = some (.string ⟨t.toArray⟩) ∧ w.cell? ⟨b, o + i * 4 + 3, none⟩ = some (.slice kao ks.length kcap) ∧ b < w.heap.size := by
  obtain ⟨b, o, cs, rfl, hv, hc, _, hlt⟩ := h.get i hi
  cases hx : xs[i] with
  | mk k m t ks =>
    rw [hx] at hv
    obtain ⟨kao, kcap, _, hcs, _⟩ := hv.val
    subst hcs
    exact ⟨b, o, k, m, t, kao, ks, kcap, rfl, rfl, hv, by have := hc 0 _ rfl; rwa [Nat.add_zero] at this, by have := hc 1 _ rfl; rwa [← Nat.add_assoc] at this, by have := hc 2 _ rfl; rwa [← Nat.add_assoc] at this, by have := hc 3 _ rfl; rwa [← Nat.add_assoc] at this, hlt⟩
/-- A pattern's cells in a block of its own. -/
def PatAt (w : World) (g : Nat) (k m : Int) (t : List UInt8) (ao : Option Addr) (n cap : Nat) : Prop :=
  w.cell? ⟨g, 0, none⟩ = some (.int .i64 k) ∧ w.cell? ⟨g, 1, none⟩ = some (.int .i64 m) ∧ w.cell? ⟨g, 2, none⟩ = some (.string ⟨t.toArray⟩) ∧ w.cell? ⟨g, 3, none⟩ = some (.slice ao n cap)
theorem PatAt.lt {w : World} {g : Nat} {k m : Int} {t : List UInt8} {ao : Option Addr} {n cap : Nat} (h : PatAt w g k m t ao n cap) : g < w.heap.size := World.block_lt_of_cell? (a := ⟨g, 0, none⟩) w h.1
theorem PatAt.keeps {X : Nat → Prop} {w w' : World} {g : Nat} {k m : Int} {t : List UInt8} {ao : Option Addr} {n cap : Nat} (h : PatAt w g k m t ao n cap) (hk : Keeps X w w') (hX : ¬ X g) : PatAt w' g k m t ao n cap :=
  ⟨keeps_cell hk hX h.1, keeps_cell hk hX h.2.1, keeps_cell hk hX h.2.2.1, keeps_cell hk hX h.2.2.2⟩
theorem PatAt.below {w w' : World} {g : Nat} {k m : Int} {t : List UInt8} {ao : Option Addr} {n cap : Nat} (h : PatAt w g k m t ao n cap) (hb : Below w.heap.size w w') : PatAt w' g k m t ao n cap := h.keeps (Keeps.of_below (X := fun _ => False) hb) (fun h => h)
theorem PatAt.row {w : World} {g : Nat} {k m : Int} {t : List UInt8} {ao : Option Addr} {n cap : Nat} {ty : TypeId} (h : w.heap[g]? = some (.cells #[.int .i64 k, .int .i64 m, .string ⟨t.toArray⟩, .slice ao n cap] ty (0, 0))) : PatAt w g k m t ao n cap :=
  ⟨cell_of_row _ _ 0 _ _ (0, 0) h, cell_of_row _ _ 1 _ _ (0, 0) h, cell_of_row _ _ 2 _ _ (0, 0) h, cell_of_row _ _ 3 _ _ (0, 0) h⟩
theorem PatAt.new (w : World) (k m : Int) (t : List UInt8) (ao : Option Addr) (n cap : Nat) (ty : TypeId) : PatAt (w.alloc (.cells #[.int .i64 k, .int .i64 m, .string ⟨t.toArray⟩, .slice ao n cap] ty)) w.heap.size k m t ao n cap := PatAt.row (heap_alloc_new w _)
theorem seq_ldPat {o : Oper} {x : Operand} {a : Act} {w : World} (ho : o.op = .load 50 x) {g : Nat} {k m : Int} {t : List UInt8} {ao : Option Addr} {n cap : Nat} (hx : a.eval x = .pointer (some ⟨g, 0, none⟩)) (hc : PatAt w g k m t ao n cap) :
    ∀ w', Below w.heap.size w w' → (execOp a.eval o).run Try.prog w' = .ok (.value (patV k m t ao n cap)) w' := by
  intro w' hb
  obtain ⟨c0, c1, c2, c3⟩ := hc.below hb
  have hu := Try.underlying50
  unfold execOp patV
  simp only [ho, hx]
  go_simp
set_option maxRecDepth 100000 in
theorem open_any (k m : Int) (t : List UInt8) (ao : Option Addr) (n cap : Nat) (w : World) :
    Calls Try.prog 24 #[patV k m t ao n cap] w (fun e w' => e = .returned (.bool (decide (k = 0 ∨ k = 1))) ∧ Below w.heap.size w w') := by
  unfold patV
  have hb := fun (o : Obj) => (Below.refl w.heap.size w).alloc (Nat.le_refl _) o
  have HB := Lib.hid hb
  clear hb
  by_cases h0 : k = 0
  · subst h0
    go_enter Try.func24, Try.ntmps24
    go_wp2_with fail
    go_ret
    exact ⟨rfl, HB.out _⟩
  · have hd : decide (k = 0) = false := decide_eq_false h0
    have hd2 : (k == 0) = false := by simp [h0]
    by_cases h1 : k = 1
    · subst h1
      go_enter Try.func24, Try.ntmps24
      go_wp2_with fail
      go_ret
      exact ⟨rfl, HB.out _⟩
    · have hd3 : decide (k = 1) = false := decide_eq_false h1
      have hd4 : (k == 1) = false := by simp [h1]
      have HD := Lib.hid (show decide (k = 0 ∨ k = 1) = false from decide_eq_false (by omega))
      go_enter Try.func24, Try.ntmps24
      go_wp2_with fail
      go_ret
      exact ⟨by rw [HD.out]; rfl, HB.out _⟩
theorem results_test (tmps : Array Value) (W : World) (g : Nat) (k m : Int) (t : List UInt8) (ao : Option Addr) (n cap : Nat) (hp : tmps[2]?.getD undef = .pointer (some ⟨g, 0, none⟩)) (hc : PatAt W g k m t ao n cap) :
    (results Try.f29 tmps).run Try.prog W = .ok (patV k m t ao n cap) W := by
  obtain ⟨c0, c1, c2, c3⟩ := hc
  have hu := Try.underlying50
  unfold patV
  simp only [results, Try.results29]
  go_simp
theorem infoPat : (Try.prog.info? 50).map (fun i => (i.zero, i.size, i.bytes)) = some (some (.agg #[.int .i64 0, .int .i64 0, .string ⟨#[]⟩, .slice none 0 0]), 4, 56) := by kernel_rfl
/-- 'make([]Pat, n)'. -/
theorem op_makeP {w : World} {ops : Array Oper} {rest : List Oper} {o : Oper} {a : Act} {Q : Exit → Act → World → Prop} (hgd : Region.wanted o (yielded ops a.tmps) = true) (x y : Operand) (ho : o.op = .makeSlice 26 x y) (n : Nat) (hx : a.eval x = .int .i64 (n : Int)) (hy : a.eval y = .int .i64 (n : Int)) (hn : n ≤ 1000000000)
    (h : ∀ w', Below w.heap.size w w' → wpList Try.prog ops Q rest (a.put o.dst (.slice (some ⟨w.heap.size, 0, none⟩) n n)) w') : wpList Try.prog ops Q (o :: rest) a w :=
  wpList_go hgd fun _ hK => by
    obtain ⟨i0, hi, hz0, hz1, hz2⟩ := info_parts infoPat
    obtain ⟨w', hr, h2, h3⟩ := run_make_full (P := Try.prog) w w.heap.size 26 50 i0 _ 4 Try.underlying26 hi hz0 hz1 .i64 .i64 n (by rw [hz2]; omega) (by unfold maxLen; omega) (Nat.le_refl _)
    unfold Oper.wp execOp
    simp only [ho, hx, hy, hr, Sem.run_bind, Sem.run_pure, Result.andThen_ok]
    exact hK _ _ (h w' (grown_below h3))
/-- What a test is made of. -/
def testK (k m : Int) (t : List UInt8) (n : Nat) : TestM := ⟨k, if k = 2 ∨ k = 5 then m else 0, if k = 3 then t else [], if 5 ≤ k then n else 0⟩
theorem testP_mk (k m : Int) (t : List UInt8) (ks : List PV) : testP (.mk k m t ks) = testK k m t ks.length := rfl
theorem put4 {V : World} {g : Nat} {cs : List Value} {ty : TypeId} (h : V.heap[g]? = some (.cells cs.toArray ty (0, 0))) (hl : cs.length = 4) (k m : Int) (t : List UInt8) (ao : Option Addr) (n cap : Nat) :
    PatAt ((((V.setCell ⟨g, 0, none⟩ (.int .i64 k)).setCell ⟨g, 1, none⟩ (.int .i64 m)).setCell ⟨g, 2, none⟩ (.string ⟨t.toArray⟩)).setCell ⟨g, 3, none⟩ (.slice ao n cap)) g k m t ao n cap := by
  match cs, hl with
  | [a, b, c, d], _ => exact PatAt.row (setCell_row0 3 (.slice ao n cap) (setCell_row0 2 (.string ⟨t.toArray⟩) (setCell_row0 1 (.int .i64 m) (setCell_row0 0 (.int .i64 k) h))))
theorem keep4 {X : Nat → Prop} (V : World) {g : Nat} (hX : X g) (v0 v1 v2 v3 : Value) : Keeps X V ((((V.setCell ⟨g, 0, none⟩ v0).setCell ⟨g, 1, none⟩ v1).setCell ⟨g, 2, none⟩ v2).setCell ⟨g, 3, none⟩ v3) :=
  Keeps.trans' (Keeps.trans' (Keeps.trans' (Keeps.of_grown (setCell_grown0 _ _ _ _) hX) (Keeps.of_grown (setCell_grown0 _ _ _ _) hX)) (Keeps.of_grown (setCell_grown0 _ _ _ _) hX)) (Keeps.of_grown (setCell_grown0 _ _ _ _) hX)
theorem keep1 {X : Nat → Prop} (V : World) {g j : Nat} (hX : X g) (v : Value) : Keeps X V (V.setCell ⟨g, j, none⟩ v) := Keeps.of_grown (setCell_grown0 _ _ _ _) hX
/-- What a call to test leaves. -/
def Tests (w : World) (x : TestM) (e : Ending) (w' : World) : Prop := (∃ ko kcap, e = .returned (patV x.op x.num x.text ko x.n kcap)) ∧ Below w.heap.size w w'
set_option maxRecDepth 100000 in
set_option maxHeartbeats 1000000 in
theorem test_any (k m : Int) (t : List UInt8) (ao : Option Addr) (n cap : Nat) (hn : n ≤ 1000000000) (w : World) :
    Calls Try.prog 29 #[patV k m t ao n cap] w (Tests w (testK k m t n)) := by
  obtain ⟨g, hg⟩ : ∃ g, w.heap.size = g := ⟨_, rfl⟩
  unfold patV
  go_enter Try.func29, Try.ntmps29
  go_upto_block 0 with (fail)
  obtain ⟨W, hW⟩ : ∃ W, ((w.alloc (.cells #[.int .i64 k, .int .i64 m, .string ⟨t.toArray⟩, .slice ao n cap] 50)).alloc (.cells #[.int .i64 0, .int .i64 0, .string ⟨#[]⟩, .slice none 0 0] 50)).alloc (.cells #[.int .i64 k, .int .i64 0, .string ⟨#[]⟩, .slice none 0 0] 50) = W := ⟨_, rfl⟩
  have hbW : Below w.heap.size w W := by rw [← hW]; exact (((Below.refl w.heap.size w).alloc (Nat.le_refl _) _).alloc (by simp) _).alloc (by simp; omega) _
  have hsW : W.heap.size = g + 3 := by rw [← hW, ← hg]; simp
  have hr0 : W.heap[g]? = some (.cells #[.int .i64 k, .int .i64 m, .string ⟨t.toArray⟩, .slice ao n cap] 50 (0, 0)) := by
    rw [← hW, ← hg, Below.heap_alloc _ _ _ (by simp; omega), Below.heap_alloc _ _ _ (by simp)]
    exact heap_alloc_new w _
  have hr1 : W.heap[g + 1]? = some (.cells #[.int .i64 0, .int .i64 0, .string ⟨#[]⟩, .slice none 0 0] 50 (0, 0)) := by
    rw [← hW, ← hg, Below.heap_alloc _ _ _ (by simp)]
    have := heap_alloc_new (w.alloc (.cells #[.int .i64 k, .int .i64 m, .string ⟨t.toArray⟩, .slice ao n cap] 50)) (.cells #[.int .i64 0, .int .i64 0, .string ⟨#[]⟩, .slice none 0 0] 50)
    simp only [World.size_alloc] at this
    exact this
  have hr2 : W.heap[g + 1 + 1]? = some (.cells #[.int .i64 k, .int .i64 0, .string ⟨#[]⟩, .slice none 0 0] 50 (0, 0)) := by
    rw [← hW, ← hg]
    have := heap_alloc_new ((w.alloc (.cells #[.int .i64 k, .int .i64 m, .string ⟨t.toArray⟩, .slice ao n cap] 50)).alloc (.cells #[.int .i64 0, .int .i64 0, .string ⟨#[]⟩, .slice none 0 0] 50)) (.cells #[.int .i64 k, .int .i64 0, .string ⟨#[]⟩, .slice none 0 0] 50)
    simp only [World.size_alloc] at this
    exact this
  rw [hW]
  have HW := Lib.hid (And.intro hbW (And.intro hsW (And.intro hr0 (And.intro hr1 (And.intro hr2 hg)))))
  obtain ⟨c0, c1, c2, c3⟩ := PatAt.row hr0
  obtain ⟨d0, d1, d2, d3⟩ := PatAt.row hr1
  obtain ⟨e0, e1, e2, e3⟩ := PatAt.row hr2
  have hf1 : ∀ j, W.frozen? ⟨g + 1, j, none⟩ = false := fun j => frozen_of_row W _ j _ _ hr1
  have hf2 : ∀ j, W.frozen? ⟨g + 1 + 1, j, none⟩ = false := fun j => frozen_of_row W _ j _ _ hr2
  clear hW hbW hsW hr0 hr1 hr2 hg
  have hge : ∀ b : Bool, decide (5 ≤ k) = b → decide (5 ≤ k) = b := fun _ h => h
  clear hge
  by_cases k2 : k = 2
  · subst k2
    go_wp2_with fail
    refine bodyPost_ret (v := patV 2 m [] none 0 0) (results_test _ _ (g + 1) _ _ _ _ _ _ rfl (put4 (cs := [.int .i64 0, .int .i64 0, .string ⟨#[]⟩, .slice none 0 0]) ((setCell_else0 _ _ _ _ _ (by omega)).trans HW.out.2.2.2.1) rfl 2 m [] none 0 0)) rfl ⟨⟨none, 0, rfl⟩, ?_⟩
    rw [HW.out.2.2.2.2.2]
    exact (show Below g w W by have := HW.out.1; rw [HW.out.2.2.2.2.2] at this; exact this).trans (((keep1 (X := fun j => g ≤ j) W (by omega) _).trans' (keep4 (X := fun j => g ≤ j) _ (by omega) _ _ _ _)).below (fun i hi h => by omega) (by have := HW.out.2.1; omega))
  have hd2 : decide (k = 2) = false := decide_eq_false k2
  have hb2 : (k == 2) = false := by simp [k2]
  by_cases k3 : k = 3
  · subst k3
    go_wp2_with fail
    refine bodyPost_ret (v := patV 3 0 t none 0 0) (results_test _ _ (g + 1) _ _ _ _ _ _ rfl (put4 (cs := [.int .i64 0, .int .i64 0, .string ⟨#[]⟩, .slice none 0 0]) ((setCell_else0 _ _ _ _ _ (by omega)).trans HW.out.2.2.2.1) rfl 3 0 t none 0 0)) rfl ⟨⟨none, 0, rfl⟩, ?_⟩
    rw [HW.out.2.2.2.2.2]
    exact (show Below g w W by have := HW.out.1; rw [HW.out.2.2.2.2.2] at this; exact this).trans (((keep1 (X := fun j => g ≤ j) W (by omega) _).trans' (keep4 (X := fun j => g ≤ j) _ (by omega) _ _ _ _)).below (fun i hi h => by omega) (by have := HW.out.2.1; omega))
  have hd3 : decide (k = 3) = false := decide_eq_false k3
  have hb3 : (k == 3) = false := by simp [k3]
  by_cases k5 : k = 5
  · subst k5
    have hr2m : (W.setCell ⟨g + 1 + 1, 1, none⟩ (.int .i64 m)).heap[g + 1 + 1]? = some (.cells #[.int .i64 5, .int .i64 m, .string ⟨#[]⟩, .slice none 0 0] 50 (0, 0)) := setCell_row0 1 (.int .i64 m) HW.out.2.2.2.2.1
    have hr1m : (W.setCell ⟨g + 1 + 1, 1, none⟩ (.int .i64 m)).heap[g + 1]? = _ := (setCell_else0 _ _ _ _ _ (by omega)).trans HW.out.2.2.2.1
    have hkm : Keeps (fun j => g ≤ j) W (W.setCell ⟨g + 1 + 1, 1, none⟩ (.int .i64 m)) := keep1 W (by omega) _
    have HM := Lib.hid (And.intro hr2m (And.intro hr1m hkm))
    clear hr2m hr1m hkm
    go_wp2_with (refine op_makeP rfl _ _ rfl n rfl rfl hn ?_; rintro w5 hb5; have hr25 := (hb5.block (g + 1 + 1) (by have := HM.out.2.2.size; have := HW.out.2.1; omega)).trans HM.out.1; have hr15 := (hb5.block (g + 1) (by have := HM.out.2.2.size; have := HW.out.2.1; omega)).trans HM.out.2.1; obtain ⟨f0, f1, f2, f3⟩ := PatAt.row hr25; obtain ⟨q0, q1, q2, q3⟩ := PatAt.row hr15; have hz2 : ∀ j, w5.frozen? ⟨g + 1 + 1, j, none⟩ = false := (fun j => frozen_of_row w5 _ j _ _ hr25); have hz1 : ∀ j, w5.frozen? ⟨g + 1, j, none⟩ = false := (fun j => frozen_of_row w5 _ j _ _ hr15); have H5 := Lib.hid (And.intro hb5 hr15); clear hb5 hr15 hr25)
    refine bodyPost_ret (v := patV 5 m [] (some ⟨W.heap.size, 0, none⟩) n n) (results_test _ _ (g + 1) _ _ _ _ _ _ (by rfl) (put4 (cs := [.int .i64 0, .int .i64 0, .string ⟨#[]⟩, .slice none 0 0]) ((setCell_else0 _ _ _ _ _ (by omega)).trans H5.out.2) rfl 5 m [] _ n n)) rfl ⟨⟨_, n, rfl⟩, ?_⟩
    rw [HW.out.2.2.2.2.2]
    exact (show Below g w W by have := HW.out.1; rw [HW.out.2.2.2.2.2] at this; exact this).trans ((((HM.out.2.2.trans' (Keeps.of_below H5.out.1)).trans' (keep1 (X := fun j => g ≤ j) _ (by omega) _)).trans' (keep4 (X := fun j => g ≤ j) _ (by omega) _ _ _ _)).below (fun i hi h => by omega) (by have := HW.out.2.1; omega))
  have hd5 : decide (k = 5) = false := decide_eq_false k5
  have hb5 : (k == 5) = false := by simp [k5]
  by_cases k6 : 5 ≤ k
  · have hd6 : decide (5 ≤ k) = true := decide_eq_true k6
    have HT := Lib.hid (show testK k m t n = ⟨k, 0, [], n⟩ by unfold testK; rw [if_neg (by omega), if_neg k3, if_pos k6])
    have hr2m : W.heap[g + 1 + 1]? = _ := HW.out.2.2.2.2.1
    have hr1m : W.heap[g + 1]? = _ := HW.out.2.2.2.1
    have hkm : Keeps (fun j => g ≤ j) W W := Keeps.refl _ _
    have HM := Lib.hid (And.intro hr2m (And.intro hr1m hkm))
    clear hr2m hr1m hkm hb5
    go_wp2_with (refine op_makeP rfl _ _ rfl n rfl rfl hn ?_; rintro w5 hb5; have hr25 := (hb5.block (g + 1 + 1) (by have := HM.out.2.2.size; have := HW.out.2.1; omega)).trans HM.out.1; have hr15 := (hb5.block (g + 1) (by have := HM.out.2.2.size; have := HW.out.2.1; omega)).trans HM.out.2.1; obtain ⟨f0, f1, f2, f3⟩ := PatAt.row hr25; obtain ⟨q0, q1, q2, q3⟩ := PatAt.row hr15; have hz2 : ∀ j, w5.frozen? ⟨g + 1 + 1, j, none⟩ = false := (fun j => frozen_of_row w5 _ j _ _ hr25); have hz1 : ∀ j, w5.frozen? ⟨g + 1, j, none⟩ = false := (fun j => frozen_of_row w5 _ j _ _ hr15); have H5 := Lib.hid (And.intro hb5 hr15); clear hb5 hr15 hr25)
    rw [HT.out]
    refine bodyPost_ret (v := patV k 0 [] (some ⟨W.heap.size, 0, none⟩) n n) (results_test _ _ (g + 1) _ _ _ _ _ _ (by rfl) (put4 (cs := [.int .i64 0, .int .i64 0, .string ⟨#[]⟩, .slice none 0 0]) ((setCell_else0 _ _ _ _ _ (by omega)).trans H5.out.2) rfl k 0 [] _ n n)) rfl ⟨⟨_, n, rfl⟩, ?_⟩
    rw [HW.out.2.2.2.2.2]
    exact (show Below g w W by have := HW.out.1; rw [HW.out.2.2.2.2.2] at this; exact this).trans ((((HM.out.2.2.trans' (Keeps.of_below H5.out.1)).trans' (keep1 (X := fun j => g ≤ j) _ (by omega) _)).trans' (keep4 (X := fun j => g ≤ j) _ (by omega) _ _ _ _)).below (fun i hi h => by omega) (by have := HW.out.2.1; omega))
  · have hd6 : decide (5 ≤ k) = false := decide_eq_false k6
    have HT := Lib.hid (show testK k m t n = ⟨k, 0, [], 0⟩ by unfold testK; rw [if_neg (by omega), if_neg k3, if_neg k6])
    go_wp2_with fail
    rw [HT.out]
    refine bodyPost_ret (v := patV k 0 [] none 0 0) (results_test _ _ (g + 1) _ _ _ _ _ _ (by rfl) (put4 (cs := [.int .i64 0, .int .i64 0, .string ⟨#[]⟩, .slice none 0 0]) HW.out.2.2.2.1 rfl k 0 [] none 0 0)) rfl ⟨⟨none, 0, rfl⟩, ?_⟩
    rw [HW.out.2.2.2.2.2]
    exact (show Below g w W by have := HW.out.1; rw [HW.out.2.2.2.2.2] at this; exact this).trans (((keep4 (X := fun j => g ≤ j) _ (by omega) _ _ _ _)).below (fun i hi h => by omega) (by have := HW.out.2.1; omega))
set_option maxRecDepth 100000 in
set_option maxHeartbeats 1000000 in
theorem same_any (x y : TestM) (ko po : Option Addr) (kcap pcap : Nat) (w : World) :
    Calls Try.prog 28 #[patV x.op x.num x.text ko x.n kcap, patV y.op y.num y.text po y.n pcap] w (fun e w' => e = .returned (.bool (decide (x = y))) ∧ Below w.heap.size w w') := by
  obtain ⟨k, m, t, n⟩ := x
  obtain ⟨k2, m2, t2, n2⟩ := y
  simp only
  unfold patV
  have HB := Lib.hid (show Below w.heap.size w ((w.alloc (.cells #[.int .i64 k, .int .i64 m, .string ⟨t.toArray⟩, .slice ko n kcap] 50)).alloc (.cells #[.int .i64 k2, .int .i64 m2, .string ⟨t2.toArray⟩, .slice po n2 pcap] 50)) from ((Below.refl w.heap.size w).alloc (Nat.le_refl _) _).alloc (by simp) _)
  by_cases h1 : k = k2
  · subst h1
    by_cases h2 : m = m2
    · subst h2
      by_cases h3 : t = t2
      · subst h3
        by_cases h4 : n = n2
        · subst h4
          have HD := Lib.hid (show decide ((⟨k, m, t, n⟩ : TestM) = ⟨k, m, t, n⟩) = true from decide_eq_true rfl)
          go_enter Try.func28, Try.ntmps28
          go_wp2_with fail
          go_ret
          exact ⟨by first | rfl | (rw [HD.out]; rfl), HB.out⟩
        · have HD := Lib.hid (show decide ((⟨k, m, t, n⟩ : TestM) = ⟨k, m, t, n2⟩) = false from decide_eq_false (by simp [h4]))
          have hd : decide ((n : Int) = (n2 : Int)) = false := decide_eq_false (by omega)
          have hb : ((n : Int) == (n2 : Int)) = false := by simp; omega
          go_enter Try.func28, Try.ntmps28
          go_wp2_with fail
          go_ret
          exact ⟨by first | rfl | (rw [HD.out]; rfl), HB.out⟩
      · have HD := Lib.hid (show decide ((⟨k, m, t, n⟩ : TestM) = ⟨k, m, t2, n2⟩) = false from decide_eq_false (by simp [h3]))
        have hb : (t == t2) = false := by simpa using h3
        go_enter Try.func28, Try.ntmps28
        go_wp2_with fail
        go_ret
        exact ⟨by first | rfl | (rw [HD.out]; rfl), HB.out⟩
    · have HD := Lib.hid (show decide ((⟨k, m, t, n⟩ : TestM) = ⟨k, m2, t2, n2⟩) = false from decide_eq_false (by simp [h2]))
      have hd : decide (m = m2) = false := decide_eq_false h2
      have hb : (m == m2) = false := by simp [h2]
      go_enter Try.func28, Try.ntmps28
      go_wp2_with fail
      go_ret
      exact ⟨by first | rfl | (rw [HD.out]; rfl), HB.out⟩
  · have HD := Lib.hid (show decide ((⟨k, m, t, n⟩ : TestM) = ⟨k2, m2, t2, n2⟩) = false from decide_eq_false (by simp [h1]))
    have hd : decide (k = k2) = false := decide_eq_false h1
    have hb : (k == k2) = false := by simp [h1]
    go_enter Try.func28, Try.ntmps28
    go_wp2_with fail
    go_ret
    exact ⟨by first | rfl | (rw [HD.out]; rfl), HB.out⟩
set_option maxRecDepth 100000 in
set_option maxHeartbeats 1000000 in
theorem holds_any (x : TestM) (ko po : Option Addr) (kcap pcap : Nat) (k m : Int) (t : List UInt8) (ks : List PV) (w : World) :
    Calls Try.prog 18 #[patV x.op x.num x.text ko x.n kcap, patV k m t po ks.length pcap] w (fun e w' => e = .returned (.bool (holdsT x (.mk k m t ks))) ∧ Below w.heap.size w w') := by
  obtain ⟨op, num, text, n⟩ := x
  simp only
  unfold patV
  have HB := Lib.hid (show Below w.heap.size w ((w.alloc (.cells #[.int .i64 op, .int .i64 num, .string ⟨text.toArray⟩, .slice ko n kcap] 50)).alloc (.cells #[.int .i64 k, .int .i64 m, .string ⟨t.toArray⟩, .slice po ks.length pcap] 34)) from ((Below.refl w.heap.size w).alloc (Nat.le_refl _) _).alloc (by simp) _)
  by_cases e2 : op = 2
  · subst e2
    by_cases h1 : k = 0
    · subst h1
      by_cases h2 : m = num
      · subst h2
        have HD := Lib.hid (show holdsT ⟨2, m, text, n⟩ (.mk 0 m t ks) = true by simp [holdsT, PV.kind, PV.num])
        go_enter Try.func18, Try.ntmps18
        go_wp2_with fail
        go_ret
        exact ⟨by first | rfl | (rw [HD.out]; rfl), HB.out⟩
      · have HD := Lib.hid (show holdsT ⟨2, num, text, n⟩ (.mk 0 m t ks) = false by simp [holdsT, PV.kind, PV.num, h2])
        have hd : decide (m = num) = false := decide_eq_false h2
        have hb : (m == num) = false := by simp [h2]
        go_enter Try.func18, Try.ntmps18
        go_wp2_with fail
        go_ret
        exact ⟨by first | rfl | (rw [HD.out]; rfl), HB.out⟩
    · have HD := Lib.hid (show holdsT ⟨2, num, text, n⟩ (.mk k m t ks) = false by simp [holdsT, PV.kind, PV.num, h1])
      have hd : decide (k = 0) = false := decide_eq_false h1
      have hb : (k == 0) = false := by simp [h1]
      go_enter Try.func18, Try.ntmps18
      go_wp2_with fail
      go_ret
      exact ⟨by first | rfl | (rw [HD.out]; rfl), HB.out⟩
  have d2 : decide (op = 2) = false := decide_eq_false e2
  have b2 : (op == 2) = false := by simp [e2]
  by_cases e3 : op = 3
  · subst e3
    by_cases h1 : k = 2
    · subst h1
      by_cases h2 : t = text
      · subst h2
        have HD := Lib.hid (show holdsT ⟨3, num, t, n⟩ (.mk 2 m t ks) = true by simp [holdsT, PV.kind, PV.text])
        go_enter Try.func18, Try.ntmps18
        go_wp2_with fail
        go_ret
        exact ⟨by first | rfl | (rw [HD.out]; rfl), HB.out⟩
      · have HD := Lib.hid (show holdsT ⟨3, num, text, n⟩ (.mk 2 m t ks) = false by simp [holdsT, PV.kind, PV.text, h2])
        have hb : (t == text) = false := by simpa using h2
        go_enter Try.func18, Try.ntmps18
        go_wp2_with fail
        go_ret
        exact ⟨by first | rfl | (rw [HD.out]; rfl), HB.out⟩
    · have HD := Lib.hid (show holdsT ⟨3, num, text, n⟩ (.mk k m t ks) = false by simp [holdsT, PV.kind, PV.text, h1])
      have hd : decide (k = 2) = false := decide_eq_false h1
      have hb : (k == 2) = false := by simp [h1]
      go_enter Try.func18, Try.ntmps18
      go_wp2_with fail
      go_ret
      exact ⟨by first | rfl | (rw [HD.out]; rfl), HB.out⟩
  have d3 : decide (op = 3) = false := decide_eq_false e3
  have b3 : (op == 3) = false := by simp [e3]
  by_cases e4 : op = 4
  · subst e4
    by_cases h1 : k = 6
    · subst h1
      have HD := Lib.hid (show holdsT ⟨4, num, text, n⟩ (.mk 6 m t ks) = true by simp [holdsT, PV.kind])
      go_enter Try.func18, Try.ntmps18
      go_wp2_with fail
      go_ret
      exact ⟨by first | rfl | (rw [HD.out]; rfl), HB.out⟩
    · have HD := Lib.hid (show holdsT ⟨4, num, text, n⟩ (.mk k m t ks) = false by simp [holdsT, PV.kind, h1])
      have hd : decide (k = 6) = false := decide_eq_false h1
      have hb : (k == 6) = false := by simp [h1]
      go_enter Try.func18, Try.ntmps18
      go_wp2_with fail
      go_ret
      exact ⟨by first | rfl | (rw [HD.out]; rfl), HB.out⟩
  have d4 : decide (op = 4) = false := decide_eq_false e4
  have b4 : (op == 4) = false := by simp [e4]
  by_cases e5 : op = 5
  · subst e5
    by_cases h1 : k = 3
    · subst h1
      by_cases h2 : m = num
      · subst h2
        by_cases h3 : ks.length = n
        · subst h3
          have HD := Lib.hid (show holdsT ⟨5, m, text, ks.length⟩ (.mk 3 m t ks) = true by simp [holdsT, PV.kind, PV.num, PV.kids])
          go_enter Try.func18, Try.ntmps18
          go_wp2_with fail
          go_ret
          exact ⟨by first | rfl | (rw [HD.out]; rfl), HB.out⟩
        · have HD := Lib.hid (show holdsT ⟨5, m, text, n⟩ (.mk 3 m t ks) = false by simp [holdsT, PV.kind, PV.num, PV.kids, h3])
          have hd : decide ((ks.length : Int) = (n : Int)) = false := decide_eq_false (by omega)
          have hb : ((ks.length : Int) == (n : Int)) = false := by simp; omega
          go_enter Try.func18, Try.ntmps18
          go_wp2_with fail
          go_ret
          exact ⟨by first | rfl | (rw [HD.out]; rfl), HB.out⟩
      · have HD := Lib.hid (show holdsT ⟨5, num, text, n⟩ (.mk 3 m t ks) = false by simp [holdsT, PV.kind, PV.num, h2])
        have hd : decide (m = num) = false := decide_eq_false h2
        have hb : (m == num) = false := by simp [h2]
        go_enter Try.func18, Try.ntmps18
        go_wp2_with fail
        go_ret
        exact ⟨by first | rfl | (rw [HD.out]; rfl), HB.out⟩
    · have HD := Lib.hid (show holdsT ⟨5, num, text, n⟩ (.mk k m t ks) = false by simp [holdsT, PV.kind, PV.num, h1])
      have hd : decide (k = 3) = false := decide_eq_false h1
      have hb : (k == 3) = false := by simp [h1]
      go_enter Try.func18, Try.ntmps18
      go_wp2_with fail
      go_ret
      exact ⟨by first | rfl | (rw [HD.out]; rfl), HB.out⟩
  have d5 : decide (op = 5) = false := decide_eq_false e5
  have b5 : (op == 5) = false := by simp [e5]
  by_cases e6 : op = 6
  · subst e6
    by_cases h1 : k = 4
    · subst h1
      by_cases h3 : ks.length = n
      · subst h3
        have HD := Lib.hid (show holdsT ⟨6, num, text, ks.length⟩ (.mk 4 m t ks) = true by simp [holdsT, PV.kind, PV.num, PV.kids])
        go_enter Try.func18, Try.ntmps18
        go_wp2_with fail
        go_ret
        exact ⟨by first | rfl | (rw [HD.out]; rfl), HB.out⟩
      · have HD := Lib.hid (show holdsT ⟨6, num, text, n⟩ (.mk 4 m t ks) = false by simp [holdsT, PV.kind, PV.num, PV.kids, h3])
        have hd : decide ((ks.length : Int) = (n : Int)) = false := decide_eq_false (by omega)
        have hb : ((ks.length : Int) == (n : Int)) = false := by simp; omega
        go_enter Try.func18, Try.ntmps18
        go_wp2_with fail
        go_ret
        exact ⟨by first | rfl | (rw [HD.out]; rfl), HB.out⟩
    · have HD := Lib.hid (show holdsT ⟨6, num, text, n⟩ (.mk k m t ks) = false by simp [holdsT, PV.kind, PV.num, h1])
      have hd : decide (k = 4) = false := decide_eq_false h1
      have hb : (k == 4) = false := by simp [h1]
      go_enter Try.func18, Try.ntmps18
      go_wp2_with fail
      go_ret
      exact ⟨by first | rfl | (rw [HD.out]; rfl), HB.out⟩
  have d6 : decide (op = 6) = false := decide_eq_false e6
  have b6 : (op == 6) = false := by simp [e6]
  have HD := Lib.hid (show holdsT ⟨op, num, text, n⟩ (.mk k m t ks) = true by simp [holdsT, e2, e3, e4, e5, e6])
  go_enter Try.func18, Try.ntmps18
  go_wp2_with fail
  go_ret
  exact ⟨by first | rfl | (rw [HD.out]; rfl), HB.out⟩
end Go.Proofs.Ytnhdefaagicejaa
