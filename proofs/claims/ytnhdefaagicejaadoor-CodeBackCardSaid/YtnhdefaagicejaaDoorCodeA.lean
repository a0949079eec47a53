/- The small functions of code's order: need, within, same, float; rows of ints compared and copied. -/
import Derived.Test.YtnhdefaagicejaaDoorCodeQ
import Derived.Test.YtnhdefaagicejaaDoorNumF
import Derived.Test.YtnhdefaagicejaaDoorQueue
import Derived.Test.YtnhdefaagicejaaDoorOps
import Derived.Test.YtnhdefaagicejaaDoorOps2
import Derived.WalkLawsBesides
import Derived.Handy
import Derived.Lib.BufferMore
namespace Go.Proofs.YtnhdefaagicejaaDoor
set_option linter.unusedSimpArgs false
set_option linter.unusedVariables false
open Go.RowKit

/-- What is thrown. -/
def disP : PanicEntry := { v := .iface 52 (.agg #[]), recovered := false }
/-- A call that answers, or throws. -/
def Needs (b : Bool) (e : Ending) : Prop := (b = true ∧ e = .returned (.tuple #[])) ∨ (b = false ∧ e = .panicked [disP])
theorem need_any (b : Bool) (w : World) : Calls Tryd.prog 30 #[.bool b] w (fun e w' => Needs b e ∧ w = w') := by
  cases b
  · go_enter Tryd.func30, Tryd.ntmps30
    go_wp2_with fail
    exact ⟨rfl, .inr ⟨rfl, rfl⟩, rfl⟩
  · go_enter Tryd.func30, Tryd.ntmps30
    go_wp2_with fail
    go_end0
    exact ⟨.inl ⟨rfl, rfl⟩, rfl⟩
theorem within_any (n lo hi : Int) (w : World) : Calls Tryd.prog 31 #[.int .i64 n, .int .i64 lo, .int .i64 hi] w (fun e w' => e = .returned (.bool (betw n lo hi)) ∧ w = w') := by
  by_cases h1 : lo ≤ n
  · have hd1 : decide (n < lo) = false := decide_eq_false (by omega)
    have hd2 : decide (lo ≤ n) = true := decide_eq_true h1
    by_cases h2 : n ≤ hi
    · have hd3 : decide (n ≤ hi) = true := decide_eq_true h2
      have hd4 : decide (hi < n) = false := decide_eq_false (by omega)
      have HB := Lib.hid (show betw n lo hi = true from decide_eq_true ⟨h1, h2⟩)
      go_enter Tryd.func31, Tryd.ntmps31
      go_wp2_with fail
      go_ret
      exact ⟨by rw [HB.out]; rfl, rfl⟩
    · have hd3 : decide (n ≤ hi) = false := decide_eq_false h2
      have hd4 : decide (hi < n) = true := decide_eq_true (by omega)
      have HB := Lib.hid (show betw n lo hi = false from decide_eq_false (fun h => h2 h.2))
      go_enter Tryd.func31, Tryd.ntmps31
      go_wp2_with fail
      go_ret
      exact ⟨by rw [HB.out]; rfl, rfl⟩
  · have hd1 : decide (n < lo) = true := decide_eq_true (by omega)
    have hd2 : decide (lo ≤ n) = false := decide_eq_false h1
    have HB := Lib.hid (show betw n lo hi = false from decide_eq_false (fun h => h1 h.1))
    go_enter Tryd.func31, Tryd.ntmps31
    go_wp2_with fail
    go_ret
    exact ⟨by rw [HB.out]; rfl, rfl⟩
def intsV (l : List Int) : List Value := l.map (Value.int .i64)
theorem intsV_get (l : List Int) (k : Nat) (h : k < l.length) : (intsV l)[k]'(by simpa [intsV] using h) = .int .i64 l[k] := by simp [intsV]
set_option maxRecDepth 100000 in
set_option maxHeartbeats 1000000 in
/-- Two rows of ints, the same? -/
theorem equalI_any (xs ys : List Int) (ao bo : Option Addr) (c1 c2 : Nat) (h1 : xs.length ≤ 1000000000) (w : World) (hx : At w ao (intsV xs)) (hy : At w bo (intsV ys)) :
    Calls Tryd.prog 51 #[.slice ao xs.length c1, .slice bo ys.length c2] w (fun e w' => e = .returned (.bool (decide (xs = ys))) ∧ Below w.heap.size w w') := by
  have H := Lib.hid (And.intro hx hy)
  clear hx hy
  by_cases hl : xs.length = ys.length
  · have HL := Lib.hid hl
    rw [← hl]
    have h2' := HL.out
    clear hl
    go_enter Tryd.func51, Tryd.ntmps51
    go_wp2_with fail
    go_loopw [13] (fun v13 wr => ∃ i : Nat, i ≤ xs.length ∧ v13 = .int .i64 (i : Int) ∧ Below w.heap.size w wr ∧ xs.take i = ys.take i) (fun v13 _ => xs.length - (intOf v13).toNat)
    case atStart => exact ⟨0, by omega, rfl, Below.refl _ _, rfl⟩
    case round =>
      obtain ⟨i, hi, rfl, hbr, htk⟩ := hrel
      have HO := Lib.hid (And.intro hbr htk)
      clear hbr htk
      by_cases hlt : i < xs.length
      · have hd1 : decide ((i : Int) < (xs.length : Int)) = true := decide_eq_true (by omega)
        obtain ⟨b, o, rfl, c0⟩ := (H.out.1.below HO.out.1).exv i (by simpa [intsV] using hlt)
        obtain ⟨b2, o2, rfl, d0⟩ := (H.out.2.below HO.out.1).exv i (by simpa [intsV] using (by omega : i < ys.length))
        rw [intsV_get xs i hlt] at c0
        rw [intsV_get ys i (by omega)] at d0
        obtain ⟨x, hx⟩ : ∃ x, xs[i] = x := ⟨_, rfl⟩
        obtain ⟨y, hy⟩ : ∃ y, ys[i]'(by omega) = y := ⟨_, rfl⟩
        rw [hx] at c0
        rw [hy] at d0
        have HC := Lib.hid (And.intro (show wr.drew.cell? ⟨b, o + i, none⟩ = _ from c0) (And.intro (show wr.drew.cell? ⟨b2, o2 + i, none⟩ = _ from d0) (And.intro hx hy)))
        clear c0 d0 hx hy
        go_wp2_with fail
        refine seq_start (by kernel_rfl) ?_
        refine seq_take 0 (v := ?_) rfl (by kernel_rfl) (fun _ _ _ h => h) (by rfl) (fun w' hw' => ?_) ?_
        rotate_left
        · go_simp; try with_reducible rfl
        try simp only [List.getElem_toArray, List.getElem_cons_succ, List.getElem_cons_zero, Act.put, List.setIfInBounds_toArray, List.set_cons_zero, List.set_cons_succ]
        refine seq_take 1 (v := ?_) rfl (by kernel_rfl) (fun _ _ _ h => h) (by rfl) (fun w' hw' => ?_) ?_
        rotate_left
        · go_simp; try with_reducible rfl
        try simp only [List.getElem_toArray, List.getElem_cons_succ, List.getElem_cons_zero, Act.put, List.setIfInBounds_toArray, List.set_cons_zero, List.set_cons_succ]
        refine seq_take 2 (v := ?_) rfl (by kernel_rfl) (fun _ _ _ h => h) (by rfl) (fun w' hw' => ?_) ?_
        rotate_left
        · go_simp; try with_reducible rfl
        try simp only [List.getElem_toArray, List.getElem_cons_succ, List.getElem_cons_zero, Act.put, List.setIfInBounds_toArray, List.set_cons_zero, List.set_cons_succ]
        refine seq_take 3 rfl (by kernel_rfl) (fun _ _ _ h => h) (by rfl) (seq_ldi rfl rfl (HC.out.1)) ?_
        try simp only [List.getElem_toArray, List.getElem_cons_succ, List.getElem_cons_zero, Act.put, List.setIfInBounds_toArray, List.set_cons_zero, List.set_cons_succ]
        refine seq_take 4 (v := ?_) rfl (by kernel_rfl) (fun _ _ _ h => h) (by rfl) (fun w' hw' => ?_) ?_
        rotate_left
        · go_simp; try with_reducible rfl
        try simp only [List.getElem_toArray, List.getElem_cons_succ, List.getElem_cons_zero, Act.put, List.setIfInBounds_toArray, List.set_cons_zero, List.set_cons_succ]
        refine seq_take 5 (v := ?_) rfl (by kernel_rfl) (fun _ _ _ h => h) (by rfl) (fun w' hw' => ?_) ?_
        rotate_left
        · go_simp; try with_reducible rfl
        try simp only [List.getElem_toArray, List.getElem_cons_succ, List.getElem_cons_zero, Act.put, List.setIfInBounds_toArray, List.set_cons_zero, List.set_cons_succ]
        refine seq_take 6 (v := ?_) rfl (by kernel_rfl) (fun _ _ _ h => h) (by rfl) (fun w' hw' => ?_) ?_
        rotate_left
        · go_simp; try with_reducible rfl
        try simp only [List.getElem_toArray, List.getElem_cons_succ, List.getElem_cons_zero, Act.put, List.setIfInBounds_toArray, List.set_cons_zero, List.set_cons_succ]
        refine seq_take 7 rfl (by kernel_rfl) (fun _ _ _ h => h) (by rfl) (seq_ldi rfl rfl (HC.out.2.1)) ?_
        try simp only [List.getElem_toArray, List.getElem_cons_succ, List.getElem_cons_zero, Act.put, List.setIfInBounds_toArray, List.set_cons_zero, List.set_cons_succ]
        refine seq_take 8 (v := ?_) rfl (by kernel_rfl) (fun _ _ _ h => h) (by rfl) (fun w' hw' => ?_) ?_
        rotate_left
        · go_simp; try with_reducible rfl
        try simp only [List.getElem_toArray, List.getElem_cons_succ, List.getElem_cons_zero, Act.put, List.setIfInBounds_toArray, List.set_cons_zero, List.set_cons_succ]
        refine seq_done (by kernel_rfl) ?_
        by_cases hxy : x = y
        · have hd2 : (x != y) = false := by simp [hxy]
          have hd3 : decide (x = y) = true := decide_eq_true hxy
          go_wp2_with fail
          go_roundw
          case rel =>
            refine ⟨i + 1, by omega, by simp, HO.out.1.drew, ?_⟩
            rw [List.take_succ_eq_append_getElem hlt, List.take_succ_eq_append_getElem (by omega : i < ys.length), HO.out.2, HC.out.2.2.1, HC.out.2.2.2, hxy]
          case measure => simp [intOf]; omega
        · have hd2 : (x != y) = true := by simp [hxy]
          have hd3 : decide (x = y) = false := decide_eq_false hxy
          have hne : decide (xs = ys) = false := decide_eq_false (fun h => hxy (by rw [← HC.out.2.2.1, ← HC.out.2.2.2]; simp [h]))
          go_wp2_with fail
          go_ret
          exact ⟨by rw [hne]; rfl, HO.out.1.drew⟩
      · obtain rfl : i = xs.length := by omega
        have heq : decide (xs = ys) = true := decide_eq_true (by
          have h := HO.out.2
          rw [List.take_length, h2', List.take_length] at h
          exact h)
        go_wp2_with fail
        go_ret
        exact ⟨by rw [heq]; rfl, HO.out.1⟩
  · have hne : decide (xs = ys) = false := decide_eq_false (fun h => hl (by rw [h]))
    have hd : ((xs.length : Int) != (ys.length : Int)) = true := by simp; omega
    have HN := Lib.hid hne
    clear hne
    go_enter Tryd.func51, Tryd.ntmps51
    go_wp2_with fail
    go_ret
    exact ⟨by rw [HN.out]; rfl, Below.refl _ _⟩
/-- Ints appended to a row of one's own. -/
theorem wp_ints {w : World} {o : Oper} {a : Act} {K : Act → World → Prop} {Q : Exit → Act → World → Prop} (s x : Operand)
    (ho : o.op = .call { callee := .builtin .append, args := #[s, x], argTypes := #[22, 22] })
    (base : Nat) (ao : Option Addr) (cap : Nat) (l : List Int) (n : Nat) (hs : a.eval s = .slice ao n cap) (hown : w.ownsRow base 3 1 (.slice ao n cap) n (intsV l))
    (bo : Option Addr) (m c : Nat) (l' : List Int) (hx : a.eval x = .slice bo m c) (hat : At w bo (intsV l')) (hm : m = l'.length)
    (hb : n + m ≤ 1000000000) (hbase : base ≤ w.heap.size)
    (h : ∀ ao' cap' w', w'.ownsRow base 3 1 (.slice ao' (n + m) cap') (n + m) (intsV (l ++ l')) → w.grownBy w' (blk ao) → (blk ao' = blk ao ∨ blk ao' = some w.heap.size) → K (a.put o.dst (.slice ao' (n + m) cap')) w') :
    o.wp Tryd.prog a w K Q := by
  obtain ⟨i0, hi, hz0, hz1, hz2⟩ := info_parts infoInt
  refine wp_append s x 22 22 ho base 3 i0 (.int .i64 0) 1 8 Tryd.underlying22 hi hz0 hz1 hz2 rfl _ n (intsV l) hs hown _ m (intsV l') hx
    (hat.src Tryd.underlying22 (by rw [hm]; simp [intsV]) (by
      intro y hy
      obtain ⟨z, _, rfl⟩ := List.mem_map.1 hy
      rfl) (by decide)) (by unfold maxLen; omega) (by omega) hbase ?_
  intro ao' cap' w' g1 g2 g3
  rw [own_slice] at g2 g3
  exact h ao' cap' w' (by simpa [intsV] using g1) g2 g3
theorem app_ints {w : World} {ops : Array Oper} {rest : List Oper} {o : Oper} {a : Act} {Q : Exit → Act → World → Prop} (hgd : Region.wanted o (yielded ops a.tmps) = true) (s x : Operand)
    (ho : o.op = .call { callee := .builtin .append, args := #[s, x], argTypes := #[22, 22] })
    (base : Nat) (ao : Option Addr) (cap : Nat) (l : List Int) (n : Nat) (hs : a.eval s = .slice ao n cap) (hown : w.ownsRow base 3 1 (.slice ao n cap) n (intsV l))
    (bo : Option Addr) (m c : Nat) (l' : List Int) (hx : a.eval x = .slice bo m c) (hat : At w bo (intsV l')) (hm : m = l'.length)
    (hb : n + m ≤ 1000000000) (hbase : base ≤ w.heap.size)
    (h : ∀ ao' cap' w', w'.ownsRow base 3 1 (.slice ao' (n + m) cap') (n + m) (intsV (l ++ l')) → w.grownBy w' (blk ao) → (blk ao' = blk ao ∨ blk ao' = some w.heap.size) → wpList Tryd.prog ops Q rest (a.put o.dst (.slice ao' (n + m) cap')) w') : wpList Tryd.prog ops Q (o :: rest) a w :=
  wpList_go hgd fun _ hK => wp_ints s x ho base ao cap l n hs hown bo m c l' hx hat hm hb hbase fun ao' cap' w' h1 h2 h3 => hK _ _ (h ao' cap' w' h1 h2 h3)
set_option maxHeartbeats 400000 in
theorem cloneI_any (ao : Option Addr) (l : List Int) (cap : Nat) (hm : l.length ≤ 900000000) (w : World) (hat : At w ao (intsV l)) :
    Calls Tryd.prog 47 #[.slice ao l.length cap] w (fun e w' => ∃ ao' cap', e = .returned (.slice ao' l.length cap') ∧ w'.ownsRow w.heap.size 3 1 (.slice ao' l.length cap') l.length (intsV l) ∧ Below w.heap.size w w') := by
  have HA := Lib.hid hat
  go_enter Tryd.func47, Tryd.ntmps47
  rcases ao with _ | a
  · have hl : l = [] := by
      rcases HA.out with h | ⟨b, o, h, _⟩
      · simpa [intsV] using h
      · cases h
    subst hl
    have heq := Lib.run_eql_slice_nil_nil (P := Tryd.prog) w 0 cap Tryd.underlying22
    simp only [List.length_nil] at *
    go_wp2_with fail
    go_ret
    exact ⟨none, 0, rfl, World.ownsRow_nil _ _ _ _, Below.refl _ _⟩
  · have heq := Lib.run_eql_slice_some_nil (P := Tryd.prog) w a l.length cap Tryd.underlying22
    have hlit : (w.alloc (.cells #[] 3)).ownsRow w.heap.size 3 1 (.slice (some ⟨w.heap.size, 0, none⟩) 0 0) 0 (intsV []) := World.ownsRow_lit w #[] 0 (Nat.le_refl _) (by decide) rfl
    go_wp2_with (at_builtin; refine app_ints rfl _ _ rfl w.heap.size (some ⟨w.heap.size, 0, none⟩) 0 [] 0 rfl hlit _ _ cap l rfl (HA.out.below ((Below.refl _ _).alloc (Nat.le_refl _) _)) rfl (by omega) (by simp) ?_; rintro co capc w1 q1 q2 q3)
    go_ret
    have hb1 : Below w.heap.size w w1 := ((Below.refl _ w).alloc (Nat.le_refl _) _).trans (below_grown hlit (by simp) q2)
    exact ⟨co, capc, by simp, by simpa using q1, hb1⟩
end Go.Proofs.YtnhdefaagicejaaDoor
