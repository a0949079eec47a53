/- The law's 'to': code with lists of its own. -/
import Derived.Test.YtnhdefaagicejaaDoorCodeG
import Derived.Test.YtnhdefaagicejaaDoorRegL
import Derived.Test.YtnhdefaagicejaaDoorApp0
import Derived.Deep.MidRow
namespace Go.Proofs.YtnhdefaagicejaaDoor
set_option linter.unusedSimpArgs false
set_option linter.unusedVariables false
open Go.RowKit

theorem infoStr : (Tryd.prog.info? 9).map (fun i => (i.zero, i.size, i.bytes)) = some (some (.string ⟨#[]⟩), 1, 16) := by kernel_rfl
/-- What the operations of to's first statement give. -/
def PhiTo (B : Nat) (c : CodeP) : Nat → Value → World → Prop
  | 0, v, w => ∃ g, v = .slice (some ⟨g, 0, none⟩) 0 0 ∧ B ≤ g ∧ g < w.heap.size
  | 3, v, w => ∃ b cap, v = .slice (some ⟨b, 0, none⟩) c.strs.length cap ∧ At w (some ⟨b, 0, none⟩) (strCells c.strs) ∧ (c.strs ≠ [] → B ≤ b ∧ b < w.heap.size)
  | 4, v, w => ∃ g, v = .slice (some ⟨g, 0, none⟩) 0 0 ∧ B ≤ g ∧ g < w.heap.size
  | 7, v, w => ∃ b cap, v = .slice (some ⟨b, 0, none⟩) c.funs.length cap ∧ At w (some ⟨b, 0, none⟩) (intsV c.funs) ∧ (c.funs ≠ [] → B ≤ b ∧ b < w.heap.size)
  | 10, v, w => ∃ b cap d bcap, v = .agg #[.slice none 0 0, .slice (some ⟨b, 0, none⟩) c.strs.length cap, .slice (some ⟨d, 0, none⟩) c.funs.length bcap, .int .i64 c.glob] ∧ At w (some ⟨b, 0, none⟩) (strCells c.strs) ∧ (c.strs ≠ [] → B ≤ b ∧ b < w.heap.size) ∧ At w (some ⟨d, 0, none⟩) (intsV c.funs) ∧ (c.funs ≠ [] → B ≤ d ∧ d < w.heap.size)
  | 11, v, w => ∃ g, v = .pointer (some ⟨g, 0, none⟩) ∧ B ≤ g ∧ w.heap[g]? = some (.cells #[.slice none 0 0, .slice none 0 0, .slice none 0 0, .int .i64 0] 35 (0, 0))
  | _, _, _ => True
theorem PhiTo_mono (B : Nat) (c : CodeP) : ∀ k v w w', PhiTo B c k v w → Below w.heap.size w w' → PhiTo B c k v w' := by
  intro k v w w' h hb
  have hs := hb.size
  unfold PhiTo at h ⊢
  split at h
  · obtain ⟨g, h1, h2, h3⟩ := h
    exact ⟨g, h1, h2, by omega⟩
  · obtain ⟨ao, cap, h1, h2, h3⟩ := h
    exact ⟨ao, cap, h1, h2.below hb, fun hne => ⟨(h3 hne).1, by have := (h3 hne).2; omega⟩⟩
  · obtain ⟨g, h1, h2, h3⟩ := h
    exact ⟨g, h1, h2, by omega⟩
  · obtain ⟨ao, cap, h1, h2, h3⟩ := h
    exact ⟨ao, cap, h1, h2.below hb, fun hne => ⟨(h3 hne).1, by have := (h3 hne).2; omega⟩⟩
  · obtain ⟨ao, cap, bo, bcap, h1, h2, h3, h4, h5⟩ := h
    exact ⟨ao, cap, bo, bcap, h1, h2.below hb, fun hne => ⟨(h3 hne).1, by have := (h3 hne).2; omega⟩, h4.below hb, fun hne => ⟨(h5 hne).1, by have := (h5 hne).2; omega⟩⟩
  · obtain ⟨g, h1, h2, h3⟩ := h
    exact ⟨g, h1, h2, (hb.block g (Array.getElem?_eq_some_iff.1 h3).1).trans h3⟩
  · trivial
theorem code_one (a b d : Option Addr) (n1 n2 n3 c1 c2 c3 : Nat) (z : Int) : (#[Value.slice a n1 c1, .slice b n2 c2, .slice d n3 c3, .int .i64 z] : Array Value).all (·.oneCell') = true :=
  all_oneCell_toArray (cs := [Value.slice a n1 c1, .slice b n2 c2, .slice d n3 c3, .int .i64 z]) (by intro v hv; simp at hv; rcases hv with rfl | rfl | rfl | rfl <;> rfl)
theorem code_there {w : World} {g : Nat} {v0 v1 v2 v3 : Value} {t : TypeId} (h : w.heap[g]? = some (.cells #[v0, v1, v2, v3] t (0, 0))) : w.there g 0 4 := by
  intro j hj
  refine ⟨?_, frozen_of_row _ _ _ _ _ h⟩
  rw [cell_of_row _ _ (0 + j) _ _ (0, 0) h, Array.getElem?_eq_getElem (by simp; omega)]
  rfl
theorem code_row {w : World} {g : Nat} {v0 v1 v2 v3 : Value} {t : TypeId} (h : w.heap[g]? = some (.cells #[v0, v1, v2, v3] t (0, 0))) (u0 u1 u2 u3 : Value) : (w.setCells g 0 [u0, u1, u2, u3]).heap[g]? = some (.cells #[u0, u1, u2, u3] t (0, 0)) := by
  simp only [World.setCells]
  exact setCell_row0 3 u3 (setCell_row0 2 u2 (setCell_row0 1 u1 (setCell_row0 0 u0 h)))
theorem infoIns : (Tryd.prog.info? 50).map (fun i => (i.zero, i.size, i.bytes)) = some (some (.agg #[.int .i64 0, .int .i64 0, .int .i64 0]), 3, 24) := by kernel_rfl
/-- A step more. -/
theorem wp_ins {w : World} {o : Oper} {a : Act} {K : Act → World → Prop} {Q : Exit → Act → World → Prop} (s x : Operand)
    (ho : o.op = .call { callee := .builtin .append, args := #[s, x], argTypes := #[33, 33] })
    (base : Nat) (ao : Option Addr) (cap n : Nat) (xs : List Value) (hs : a.eval s = .slice ao n cap) (hown : w.ownsRow base 50 3 (.slice ao n cap) n xs)
    (y : InsP) (g : Nat) (hx : a.eval x = .slice (some ⟨g, 0, none⟩) 1 1) (hat : At w (some ⟨g, 0, none⟩) (insRow y)) (hb : n ≤ 1000000000) (hbase : base ≤ w.heap.size)
    (h : ∀ ao' cap' w', w'.ownsRow base 50 3 (.slice ao' (n + 1) cap') (n + 1) (xs ++ insRow y) → w.grownBy w' (blk ao) → (blk ao' = blk ao ∨ blk ao' = some w.heap.size) → K (a.put o.dst (.slice ao' (n + 1) cap')) w') : o.wp Tryd.prog a w K Q := by
  obtain ⟨i0, hi, hz0, hz1, hz2⟩ := info_parts infoIns
  refine wp_append s x 33 33 ho base 50 i0 (.agg #[.int .i64 0, .int .i64 0, .int .i64 0]) 3 24 Tryd.underlying33 hi hz0 hz1 hz2 rfl _ n xs hs hown _ 1 (insRow y) hx
    (hat.src Tryd.underlying33 rfl (by intro v hv; simp [insRow] at hv; rcases hv with rfl | rfl | rfl <;> rfl) (by decide)) (by unfold maxLen; omega) (by omega) hbase ?_
  intro ao' cap' w' g1 g2 g3
  rw [own_slice] at g2 g3
  exact h ao' cap' w' g1 g2 g3
theorem flat_get3 : ∀ (rows : List (List Value)), (∀ r ∈ rows, r.length = 3) → ∀ i r, rows[i]? = some r → ∀ j v, r[j]? = some v → rows.flatten[i * 3 + j]? = some v
  | [], _, i, r, hi, _, _, _ => by simp at hi
  | x :: xs, h, i, r, hi, j, v, hj => by
    have hx : x.length = 3 := h x (by simp)
    rw [List.flatten_cons]
    cases i with
    | zero =>
      simp at hi
      subst hi
      have hjl : j < x.length := by
        rcases Nat.lt_or_ge j x.length with h | h
        · exact h
        · rw [List.getElem?_eq_none h] at hj; cases hj
      rw [Nat.zero_mul, Nat.zero_add, List.getElem?_append_left hjl, hj]
    | succ i =>
      have := flat_get3 xs (fun r hr => h r (by simp [hr])) i r (by simpa using hi) j v hj
      rw [List.getElem?_append_right (by omega), show (i + 1) * 3 + j - x.length = i * 3 + j by omega]
      exact this
theorem rowsAt_of_flat3 {w : World} {ao : Option Addr} {rows : List (List Value)} (h : At w ao rows.flatten) (h4 : ∀ r ∈ rows, r.length = 3) : RowsAt w ao 3 rows := by
  rcases Classical.em (rows = []) with rfl | hne
  · exact .inl rfl
  rcases h with h | ⟨b, o, rfl, hc⟩
  · exfalso
    cases rows with
    | nil => exact hne rfl
    | cons r rs =>
      have := h4 r (by simp)
      rw [List.flatten_cons] at h
      have h2 := congrArg List.length h
      rw [List.length_append, List.length_nil] at h2
      omega
  · exact .inr ⟨b, o, rfl, fun i r hi j v hj => hc _ v (flat_get3 rows h4 i r hi j v hj)⟩
theorem results_to (tmps : Array Value) (W : World) (g : Nat) (v0 v1 v2 v3 : Value) (hp : tmps[2]?.getD undef = .pointer (some ⟨g, 0, none⟩)) (hc : W.heap[g]? = some (.cells #[v0, v1, v2, v3] 35 (0, 0))) :
    (results Tryd.f8 tmps).run Tryd.prog W = .ok (.agg #[v0, v1, v2, v3]) W := by
  have c0 : W.cell? ⟨g, 0, none⟩ = some v0 := cell_of_row W _ 0 _ _ (0, 0) hc
  have c1 : W.cell? ⟨g, 1, none⟩ = some v1 := cell_of_row W _ 1 _ _ (0, 0) hc
  have c2 : W.cell? ⟨g, 2, none⟩ = some v2 := cell_of_row W _ 2 _ _ (0, 0) hc
  have c3 : W.cell? ⟨g, 3, none⟩ = some v3 := cell_of_row W _ 3 _ _ (0, 0) hc
  have hu := Tryd.underlying35
  simp only [results, Tryd.results8]
  go_simp
/-- What a call to 'to' leaves. -/
def Tos (w : World) (c : CodeP) (e : Ending) (w' : World) : Prop :=
  Below w.heap.size w w' ∧ ∃ io so fo icap scap fcap, e = .returned (.agg #[.slice io c.ins.length icap, .slice so c.strs.length scap, .slice fo c.funs.length fcap, .int .i64 c.glob]) ∧ CodeMem w' (fun b => b < w'.heap.size) c io so fo
set_option maxRecDepth 100000 in
set_option maxHeartbeats 4000000 in
theorem to_any {w : World} {c : CodeP} {io so fo : Option Addr} {icap scap fcap : Nat} (hmem : CodeMem w (fun b => b < w.heap.size) c io so fo) (hil : c.ins.length ≤ 1000000) (hsl : c.strs.length ≤ 1000000) (hfl : c.funs.length ≤ 1000000) :
    Calls Tryd.prog 8 #[.agg #[.slice io c.ins.length icap, .slice so c.strs.length scap, .slice fo c.funs.length fcap, .int .i64 c.glob]] w (Tos w c) := by
  obtain ⟨g, hg⟩ : ∃ g, w.heap.size = g := ⟨_, rfl⟩
  obtain ⟨W1, hW1⟩ : ∃ W1, w.alloc (.cells #[.slice io c.ins.length icap, .slice so c.strs.length scap, .slice fo c.funs.length fcap, .int .i64 c.glob] 26) = W1 := ⟨_, rfl⟩
  have hb1 : Below g w W1 := by rw [← hW1, ← hg]; exact (Below.refl _ w).alloc (Nat.le_refl _) _
  have hr1 : W1.heap[g]? = some (.cells #[.slice io c.ins.length icap, .slice so c.strs.length scap, .slice fo c.funs.length fcap, .int .i64 c.glob] 26 (0, 0)) := by rw [← hW1, ← hg]; exact heap_alloc_new w _
  have hs1 : W1.heap.size = g + 1 := by rw [← hW1, ← hg]; simp
  have H := Lib.hid (And.intro hmem (And.intro hb1 (And.intro hr1 (And.intro hs1 (And.intro hW1 hg)))))
  clear hmem hb1 hr1 hs1 hW1 hg
  go_enter Tryd.func8, Tryd.ntmps8
  go_upto_region 1 with (fail)
  rw [H.out.2.2.2.2.1, H.out.2.2.2.2.2]
  obtain ⟨W2, hW2⟩ : ∃ W2, W1.alloc (.cells #[.slice none 0 0, .slice none 0 0, .slice none 0 0, .int .i64 0] 35) = W2 := ⟨_, rfl⟩
  have hb2 : Below W1.heap.size W1 W2 := by rw [← hW2]; exact (Below.refl _ _).alloc (Nat.le_refl _) _
  have hs2 : W2.heap.size = g + 2 := by rw [← hW2]; simp [H.out.2.2.2.1]
  have hrt : W2.heap[g + 1]? = some (.cells #[.slice none 0 0, .slice none 0 0, .slice none 0 0, .int .i64 0] 35 (0, 0)) := by rw [← hW2, ← H.out.2.2.2.1]; exact heap_alloc_new W1 _
  have hrg : W2.heap[g]? = _ := (hb2.block g (by have := H.out.2.2.2.1; omega)).trans H.out.2.2.1
  rw [hW2]
  have H2 := Lib.hid (And.intro (H.out.2.1.trans (hb2.mono (by have := H.out.2.2.2.1; omega))) (And.intro hrg (And.intro hrt hs2)))
  have HC := Lib.hid (show CodeMem W2 (fun b => b < g) c io so fo from by
    have h1 := H.out.1.below (by rw [H.out.2.2.2.2.2]; exact H2.out.1)
    exact h1.mono (fun b hb => by have := H.out.2.2.2.2.2; omega))
  have HD := Lib.hid (And.intro (show W2.drew.cell? ⟨g, 1, none⟩ = some (.slice so c.strs.length scap) from cell_of_row W2 _ 1 _ _ (0, 0) hrg) (And.intro (show W2.drew.cell? ⟨g, 2, none⟩ = some (.slice fo c.funs.length fcap) from cell_of_row W2 _ 2 _ _ (0, 0) hrg) (show W2.drew.cell? ⟨g, 3, none⟩ = some (.int .i64 c.glob) from cell_of_row W2 _ 3 _ _ (0, 0) hrg)))
  clear hW2 hb2 hs2 hrt hrg
  go_cut [3] from 5 to 15 (fun v3 w' => ∃ g3 ao cap bo bcap, v3 = .pointer (some ⟨g3, 0, none⟩) ∧ g + 2 ≤ g3 ∧ w'.heap[g3]? = some (.cells #[.slice none 0 0, .slice (some ⟨ao, 0, none⟩) c.strs.length cap, .slice (some ⟨bo, 0, none⟩) c.funs.length bcap, .int .i64 c.glob] 35 (0, 0)) ∧ At w' (some ⟨ao, 0, none⟩) (strCells c.strs) ∧ (c.strs ≠ [] → g + 2 ≤ ao ∧ ao < w'.heap.size ∧ ao ≠ g3) ∧ At w' (some ⟨bo, 0, none⟩) (intsV c.funs) ∧ (c.funs ≠ [] → g + 2 ≤ bo ∧ bo < w'.heap.size ∧ bo ≠ g3) ∧ Below (g + 2) W2 w')
  case first =>
    refine seql_start [12] (by kernel_rfl) ?_
    refine seql_take 1 (v := ?_) rfl (by kernel_rfl) (fun _ _ _ h => h) (by rfl) (fun w' hw' => ?_) ?_
    rotate_left
    · go_simp; try with_reducible rfl
    try simp only [List.getElem_toArray, List.getElem_cons_succ, List.getElem_cons_zero, Act.put, List.setIfInBounds_toArray, List.set_cons_zero, List.set_cons_succ]
    refine seql_take 2 rfl (by kernel_rfl) (fun _ _ _ h => h) (by rfl) (seq_ldSS rfl rfl (HD.out.1)) ?_
    try simp only [List.getElem_toArray, List.getElem_cons_succ, List.getElem_cons_zero, Act.put, List.setIfInBounds_toArray, List.set_cons_zero, List.set_cons_succ]
    refine seql_take 5 (v := ?_) rfl (by kernel_rfl) (fun _ _ _ h => h) (by rfl) (fun w' hw' => ?_) ?_
    rotate_left
    · go_simp; try with_reducible rfl
    try simp only [List.getElem_toArray, List.getElem_cons_succ, List.getElem_cons_zero, Act.put, List.setIfInBounds_toArray, List.set_cons_zero, List.set_cons_succ]
    refine seql_take 6 rfl (by kernel_rfl) (fun _ _ _ h => h) (by rfl) (seq_ldII rfl rfl (HD.out.2.1)) ?_
    try simp only [List.getElem_toArray, List.getElem_cons_succ, List.getElem_cons_zero, Act.put, List.setIfInBounds_toArray, List.set_cons_zero, List.set_cons_succ]
    refine seql_take 8 (v := ?_) rfl (by kernel_rfl) (fun _ _ _ h => h) (by rfl) (fun w' hw' => ?_) ?_
    rotate_left
    · go_simp; try with_reducible rfl
    try simp only [List.getElem_toArray, List.getElem_cons_succ, List.getElem_cons_zero, Act.put, List.setIfInBounds_toArray, List.set_cons_zero, List.set_cons_succ]
    refine seql_take 9 rfl (by kernel_rfl) (fun _ _ _ h => h) (by rfl) (seq_ldi rfl rfl (HD.out.2.2)) ?_
    try simp only [List.getElem_toArray, List.getElem_cons_succ, List.getElem_cons_zero, Act.put, List.setIfInBounds_toArray, List.set_cons_zero, List.set_cons_succ]
    refine seql_inv [0, 3, 4, 7, 10, 11] 12 (PhiTo (g + 2) c) (by kernel_rfl) (by kernel_rfl) (by kernel_rfl) (by kernel_rfl) (by kernel_rfl) rfl ?mono ?step ?last
    case mono => exact PhiTo_mono _ _
    case step =>
      refine ⟨stepK_of rfl fun x w3 hb3 hd3 => ?_, stepK_of rfl fun x w3 hb3 hd3 => ?_, stepK_of rfl fun x w3 hb3 hd3 => ?_, stepK_of rfl fun x w3 hb3 hd3 => ?_, stepK_of rfl fun x w3 hb3 hd3 => ?_, stepK_of rfl fun x w3 hb3 hd3 => ?_, trivial⟩
      · clear hd3
        have hsz3 := hb3.size
        have hs2 := H2.out.2.2.2
        simp only [World.size_drew] at hsz3
        have HS := Lib.hid (show g + 2 ≤ w3.heap.size by omega)
        clear hb3 hsz3 hs2
        simp only [Fr, List.foldl_cons, List.foldl_nil, List.getElem?_toArray, List.getElem?_cons_succ, List.getElem?_cons_zero, Option.bind_some, Act.put, List.setIfInBounds_toArray, List.set_cons_zero, List.set_cons_succ, List.getElem_toArray, List.getElem_cons_succ, List.getElem_cons_zero]
        refine ⟨by rfl, fun KK hKK => ?_⟩
        go_wp2_with fail
        exact ⟨(Below.refl _ _).alloc (Nat.le_refl _) _, w3.heap.size, rfl, HS.out, by simp⟩
      · have hx0 : PhiTo (g + 2) c 0 (x 0) w3 := hd3 0 (of_decide_eq_true (by kernel_rfl))
        obtain ⟨g0, hx0e, hx1, hx2⟩ := hx0
        have hs2 := H2.out.2.2.2
        have hsz3 := hb3.size
        simp only [World.size_drew] at hsz3
        have hbw : Below W2.heap.size W2 w3 := (Below.refl _ W2).drew.trans (hb3.mono (by simp))
        have HA := Lib.hid (And.intro (HC.out.strs.below hbw) (And.intro hx1 (show g + 2 ≤ w3.heap.size by omega)))
        clear hd3 hb3 hsz3 hs2 hx1 hx2 hbw
        simp only [Fr, List.foldl_cons, List.foldl_nil, List.getElem?_toArray, List.getElem?_cons_succ, List.getElem?_cons_zero, Option.bind_some, Act.put, List.setIfInBounds_toArray, List.set_cons_zero, List.set_cons_succ, List.getElem_toArray, List.getElem_cons_succ, List.getElem_cons_zero]
        rw [hx0e]
        clear hx0e
        refine ⟨by rfl, fun KK hKK => ?_⟩
        obtain ⟨i0, hi, hz0, hz1, hz2⟩ := info_parts infoStr
        refine wp_app0 _ _ 24 24 rfl 9 i0 (.string ⟨#[]⟩) 16 Tryd.underlying24 hi hz0 hz1 hz2 rfl g0 rfl _ c.strs.length (strCells c.strs) rfl (HA.out.1.src Tryd.underlying24 (by simp [strCells]) (by intro u hu; obtain ⟨_, _, rfl⟩ := List.mem_map.1 hu; rfl) (by decide)) (by unfold maxLen; omega) (by omega) ?_
        intro v w' happ
        obtain ⟨ao, cap, rfl, _, _, h3, h4, h5⟩ := happ
        refine hKK _ _ ⟨h4, ao, cap, rfl, h3, fun hne => ⟨by have := h5 (by simpa [strCells] using hne); have := HA.out.2.2; omega, ?_⟩⟩
        have hlt := h3.lt (by simpa [strCells] using hne)
        obtain ⟨b', hb', hlt'⟩ := hlt
        obtain rfl : ao = b' := by simpa [blk] using hb'
        exact hlt'
      · clear hd3
        have hsz3 := hb3.size
        have hs2 := H2.out.2.2.2
        simp only [World.size_drew] at hsz3
        have HS := Lib.hid (show g + 2 ≤ w3.heap.size by omega)
        clear hb3 hsz3 hs2
        simp only [Fr, List.foldl_cons, List.foldl_nil, List.getElem?_toArray, List.getElem?_cons_succ, List.getElem?_cons_zero, Option.bind_some, Act.put, List.setIfInBounds_toArray, List.set_cons_zero, List.set_cons_succ, List.getElem_toArray, List.getElem_cons_succ, List.getElem_cons_zero]
        refine ⟨by rfl, fun KK hKK => ?_⟩
        go_wp2_with fail
        exact ⟨(Below.refl _ _).alloc (Nat.le_refl _) _, w3.heap.size, rfl, HS.out, by simp⟩
      · have hx0 : PhiTo (g + 2) c 4 (x 4) w3 := hd3 4 (of_decide_eq_true (by kernel_rfl))
        obtain ⟨g0, hx0e, hx1, hx2⟩ := hx0
        have hs2 := H2.out.2.2.2
        have hsz3 := hb3.size
        simp only [World.size_drew] at hsz3
        have hbw : Below W2.heap.size W2 w3 := (Below.refl _ W2).drew.trans (hb3.mono (by simp))
        have HA := Lib.hid (And.intro (HC.out.funs.below hbw) (And.intro hx1 (show g + 2 ≤ w3.heap.size by omega)))
        clear hd3 hb3 hsz3 hs2 hx1 hx2 hbw
        simp only [Fr, List.foldl_cons, List.foldl_nil, List.getElem?_toArray, List.getElem?_cons_succ, List.getElem?_cons_zero, Option.bind_some, Act.put, List.setIfInBounds_toArray, List.set_cons_zero, List.set_cons_succ, List.getElem_toArray, List.getElem_cons_succ, List.getElem_cons_zero]
        rw [hx0e]
        clear hx0e
        refine ⟨by rfl, fun KK hKK => ?_⟩
        obtain ⟨i0, hi, hz0, hz1, hz2⟩ := info_parts infoInt
        refine wp_app0 _ _ 22 22 rfl 3 i0 (.int .i64 0) 8 Tryd.underlying22 hi hz0 hz1 hz2 rfl g0 rfl _ c.funs.length (intsV c.funs) rfl (HA.out.1.src Tryd.underlying22 (by simp [intsV]) (by intro u hu; obtain ⟨_, _, rfl⟩ := List.mem_map.1 hu; rfl) (by decide)) (by unfold maxLen; omega) (by omega) ?_
        intro v w' happ
        obtain ⟨ao, cap, rfl, _, _, h3, h4, h5⟩ := happ
        refine hKK _ _ ⟨h4, ao, cap, rfl, h3, fun hne => ⟨by have := h5 (by simpa [intsV] using hne); have := HA.out.2.2; omega, ?_⟩⟩
        have hlt := h3.lt (by simpa [intsV] using hne)
        obtain ⟨b', hb', hlt'⟩ := hlt
        obtain rfl : ao = b' := by simpa [blk] using hb'
        exact hlt'
      · have hx3 : PhiTo (g + 2) c 3 (x 3) w3 := hd3 3 (of_decide_eq_true (by kernel_rfl))
        have hx7 : PhiTo (g + 2) c 7 (x 7) w3 := hd3 7 (of_decide_eq_true (by kernel_rfl))
        obtain ⟨ao, cap, hx3e, h31, h32⟩ := hx3
        obtain ⟨bo, bcap, hx7e, h71, h72⟩ := hx7
        have HA := Lib.hid (And.intro h31 (And.intro h32 (And.intro h71 h72)))
        clear hd3 hb3 h31 h32 h71 h72
        simp only [Fr, List.foldl_cons, List.foldl_nil, List.getElem?_toArray, List.getElem?_cons_succ, List.getElem?_cons_zero, Option.bind_some, Act.put, List.setIfInBounds_toArray, List.set_cons_zero, List.set_cons_succ, List.getElem_toArray, List.getElem_cons_succ, List.getElem_cons_zero]
        rw [hx3e, hx7e]
        clear hx3e hx7e
        refine ⟨by rfl, fun KK hKK => ?_⟩
        go_wp2_with fail
        exact ⟨Below.refl _ _, ao, cap, bo, bcap, rfl, HA.out⟩
      · clear hd3
        have hsz3 := hb3.size
        have hs2 := H2.out.2.2.2
        simp only [World.size_drew] at hsz3
        have HS := Lib.hid (show g + 2 ≤ w3.heap.size by omega)
        clear hb3 hsz3 hs2
        simp only [Fr, List.foldl_cons, List.foldl_nil, List.getElem?_toArray, List.getElem?_cons_succ, List.getElem?_cons_zero, Option.bind_some, Act.put, List.setIfInBounds_toArray, List.set_cons_zero, List.set_cons_succ, List.getElem_toArray, List.getElem_cons_succ, List.getElem_cons_zero]
        refine ⟨by rfl, fun KK hKK => ?_⟩
        go_wp2_with fail
        exact ⟨(Below.refl _ _).alloc (Nat.le_refl _) _, w3.heap.size, rfl, HS.out, heap_alloc_new w3 _⟩
    case last =>
      refine lastK_of rfl fun x w3 hb3 hx => ?_
      have hx10 : PhiTo (g + 2) c 10 (x 10) w3 := hx.mem 10 (by simp)
      have hx11 : PhiTo (g + 2) c 11 (x 11) w3 := hx.mem 11 (by simp)
      obtain ⟨ao, cap, bo, bcap, hx10e, a1, a2, a3, a4⟩ := hx10
      obtain ⟨g3, hx11e, g31, g32⟩ := hx11
      have hbw : Below W2.heap.size W2 w3 := (Below.refl _ W2).drew.trans (hb3.mono (by simp))
      have hc3 : w3.cell? ⟨g3, 0, none⟩ = some (.slice none 0 0) := cell_of_row _ _ 0 _ _ (0, 0) g32
      have hnA : c.strs ≠ [] → ao ≠ g3 := fun hne he => by
        subst he
        obtain ⟨s0, r0, hs0⟩ := List.exists_cons_of_ne_nil hne
        have := a1.cell 0 (.string ⟨s0.toArray⟩) (by rw [hs0]; rfl)
        rw [Nat.add_zero, hc3] at this
        cases this
      have hnB : c.funs ≠ [] → bo ≠ g3 := fun hne he => by
        subst he
        obtain ⟨s0, r0, hs0⟩ := List.exists_cons_of_ne_nil hne
        have := a3.cell 0 (.int .i64 s0) (by rw [hs0]; rfl)
        rw [Nat.add_zero, hc3] at this
        cases this
      have HA := Lib.hid (And.intro a1 (And.intro a2 (And.intro a3 (And.intro a4 (And.intro hnA (And.intro hnB (And.intro hbw (And.intro g31 g32))))))))
      clear hx hb3 a1 a2 a3 a4 hnA hnB hbw g31 hc3
      simp only [Fr, List.foldl_cons, List.foldl_nil, List.getElem?_toArray, List.getElem?_cons_succ, List.getElem?_cons_zero, Option.bind_some, Act.put, List.setIfInBounds_toArray, List.set_cons_zero, List.set_cons_succ, List.getElem_toArray, List.getElem_cons_succ, List.getElem_cons_zero]
      rw [hx10e, hx11e]
      clear hx10e hx11e
      refine ⟨by rfl, fun KK hKK => ?_⟩
      refine wp_store_mid 35 _ _ rfl g3 0 #[.slice none 0 0, .slice (some ⟨ao, 0, none⟩) c.strs.length cap, .slice (some ⟨bo, 0, none⟩) c.funs.length bcap, .int .i64 c.glob] rfl rfl (code_there g32) (by kernel_rfl) (code_one _ _ _ _ _ _ _ _ _ _) ?_
      refine hKK _ _ ?_
      clear g32
      go_wp2_with fail
      go_meet
      case rel =>
        obtain ⟨a1, a2, a3, a4, hnA, hnB, hbw, g31, g32⟩ := HA.out
        have hk := Keeps.setCells g3 [.slice none 0 0, .slice (some ⟨ao, 0, none⟩) c.strs.length cap, .slice (some ⟨bo, 0, none⟩) c.funs.length bcap, .int .i64 c.glob] 0 w3
        have hs := hk.size
        have hs2 := H2.out.2.2.2
        refine ⟨g3, ao, cap, bo, bcap, rfl, g31, code_row g32 _ _ _ _, a1.keeps hk (fun b hb hne => ?_), fun hne => ⟨(a2 hne).1, by have := (a2 hne).2; omega, hnA hne⟩, a3.keeps hk (fun b hb hne => ?_), fun hne => ⟨(a4 hne).1, by have := (a4 hne).2; omega, hnB hne⟩, (by rw [← hs2]; exact hbw.trans (hk.below (fun i hi h => by omega) (by have := hbw.size; omega)))⟩
        · obtain rfl : ao = b := by simpa [blk] using hb
          exact hnA (by simpa [strCells] using hne)
        · obtain rfl : bo = b := by simpa [blk] using hb
          exact hnB (by simpa [intsV] using hne)
  case rest =>
    obtain ⟨g3, sb, scp, fb, fcp, rfl, hg3, hr3, hsA, hsL, hfA, hfL, hbw⟩ := hcut
    have hl3 := (Array.getElem?_eq_some_iff.1 hr3).1
    have hsw := hbw.size
    have HR := Lib.hid (And.intro hr3 (And.intro hsA (And.intro hsL (And.intro hfA (And.intro hfL hbw)))))
    clear hr3 hsA hsL hfA hfL hbw
    go_upto_block 0 with (fail)
    go_wp2_with fail
    go_loopw [4] (fun v4 wr => ∃ i ao cap, i ≤ c.ins.length ∧ v4 = .int .i64 (i : Int) ∧ wr.heap[g3]? = some (.cells #[.slice ao i cap, .slice (some ⟨sb, 0, none⟩) c.strs.length scp, .slice (some ⟨fb, 0, none⟩) c.funs.length fcp, .int .i64 c.glob] 35 (0, 0)) ∧ wr.ownsRow wc.heap.size 50 3 (.slice ao i cap) i ((c.ins.take i).map insRow).flatten ∧ Keeps (fun b => b = g3 ∨ wc.heap.size ≤ b) wc wr) (fun v4 _ => c.ins.length - (intOf v4).toNat)
    case atStart => exact ⟨0, none, 0, by omega, rfl, HR.out.1, World.ownsRow_nil _ _ _ _, Keeps.refl _ _⟩
    case round =>
      obtain ⟨i, ao, cap, hi, rfl, hr, hown, hk⟩ := hrel
      have hsk := hk.size
      have hs2 := H2.out.2.2.2
      have hW2s : W2.heap.size ≤ wc.heap.size := by have := HR.out.2.2.2.2.2.size; omega
      have hkg : Keeps (fun b => g + 2 ≤ b) W2 wr := (Keeps.mono (X := fun b => g + 2 ≤ b) ⟨HR.out.2.2.2.2.2.os, HR.out.2.2.2.2.2.tape, HR.out.2.2.2.2.2.output, hW2s, fun k hk hne => HR.out.2.2.2.2.2.block k (by omega)⟩ (fun _ _ h => h)).trans' (hk.mono (fun b _ h => by omega))
      have hrg : wr.heap[g]? = _ := (hkg.block g (by omega) (fun h => by omega)).trans H2.out.2.1
      have hrt : wr.heap[g + 1]? = _ := (hkg.block (g + 1) (by omega) (fun h => by omega)).trans H2.out.2.2.1
      have hmw : CodeMem wr (fun b => b < g) c io so fo := HC.out.keeps hkg (fun b hb h => by omega)
      have k0 : wr.cell? ⟨g, 0, none⟩ = some (.slice io c.ins.length icap) := cell_of_row _ _ 0 _ _ (0, 0) hrg
      have HI := Lib.hid (And.intro hr (And.intro hown (And.intro hk (And.intro hkg (And.intro hrg (And.intro hrt hmw))))))
      clear hs2 hW2s hkg hrg hrt hmw
      by_cases hlt : i < c.ins.length
      · have hd1 : decide ((i : Int) < (c.ins.length : Int)) = true := decide_eq_true (by omega)
        obtain ⟨ib, fi, rfl, i0, i1, i2⟩ := HI.out.2.2.2.2.2.2.insAt i hlt
        obtain ⟨x, hx⟩ : ∃ x, c.ins[i] = x := ⟨_, rfl⟩
        rw [hx] at i0 i1 i2
        have HX := Lib.hid (show c.ins.take (i + 1) = c.ins.take i ++ [x] by rw [← hx]; exact List.take_succ_eq_append_getElem hlt)
        obtain ⟨op, a, b⟩ := x
        simp only at i0 i1 i2
        have HD1 := Lib.hid (And.intro (show wr.drew.cell? ⟨g3, 0, none⟩ = some (.slice ao i cap) from cell_of_row wr _ 0 _ _ (0, 0) hr) (And.intro (show wr.drew.cell? ⟨g, 0, none⟩ = _ from k0) (And.intro (show wr.drew.cell? ⟨ib, fi + i * 3, none⟩ = _ from i0) (And.intro (show wr.drew.cell? ⟨ib, fi + i * 3 + 1, none⟩ = _ from i1) (show wr.drew.cell? ⟨ib, fi + i * 3 + 2, none⟩ = _ from i2)))))
        clear hx hr hown hk i0 i1 i2
        go_wp2_with fail
        clear k0
        refine seql_start [22, 24] (by kernel_rfl) ?_
        refine seql_take 0 (v := ?_) rfl (by kernel_rfl) (fun _ _ _ h => h) (by rfl) (fun w' hw' => ?_) ?_
        rotate_left
        · go_simp; try with_reducible rfl
        try simp only [List.getElem_toArray, List.getElem_cons_succ, List.getElem_cons_zero, Act.put, List.setIfInBounds_toArray, List.set_cons_zero, List.set_cons_succ]
        refine seql_take 1 rfl (by kernel_rfl) (fun _ _ _ h => h) (by rfl) (seq_ldInss rfl rfl (HD1.out.1)) ?_
        try simp only [List.getElem_toArray, List.getElem_cons_succ, List.getElem_cons_zero, Act.put, List.setIfInBounds_toArray, List.set_cons_zero, List.set_cons_succ]
        refine seql_take 2 (v := ?_) rfl (by kernel_rfl) (fun _ _ _ h => h) (by rfl) (fun w' hw' => ?_) ?_
        rotate_left
        · go_simp; try with_reducible rfl
        try simp only [List.getElem_toArray, List.getElem_cons_succ, List.getElem_cons_zero, Act.put, List.setIfInBounds_toArray, List.set_cons_zero, List.set_cons_succ]
        refine seql_take 3 rfl (by kernel_rfl) (fun _ _ _ h => h) (by rfl) (seq_ldRI rfl rfl (HD1.out.2.1)) ?_
        try simp only [List.getElem_toArray, List.getElem_cons_succ, List.getElem_cons_zero, Act.put, List.setIfInBounds_toArray, List.set_cons_zero, List.set_cons_succ]
        refine seql_take 4 (v := ?_) rfl (by kernel_rfl) (fun _ _ _ h => h) (by rfl) (fun w' hw' => ?_) ?_
        rotate_left
        · go_simp; try with_reducible rfl
        try simp only [List.getElem_toArray, List.getElem_cons_succ, List.getElem_cons_zero, Act.put, List.setIfInBounds_toArray, List.set_cons_zero, List.set_cons_succ]
        refine seql_take 5 (v := ?_) rfl (by kernel_rfl) (fun _ _ _ h => h) (by rfl) (fun w' hw' => ?_) ?_
        rotate_left
        · go_simp; try with_reducible rfl
        try simp only [List.getElem_toArray, List.getElem_cons_succ, List.getElem_cons_zero, Act.put, List.setIfInBounds_toArray, List.set_cons_zero, List.set_cons_succ]
        refine seql_take 6 (v := ?_) rfl (by kernel_rfl) (fun _ _ _ h => h) (by rfl) (fun w' hw' => ?_) ?_
        rotate_left
        · go_simp; try with_reducible rfl
        try simp only [List.getElem_toArray, List.getElem_cons_succ, List.getElem_cons_zero, Act.put, List.setIfInBounds_toArray, List.set_cons_zero, List.set_cons_succ]
        refine seql_take 7 rfl (by kernel_rfl) (fun _ _ _ h => h) (by rfl) (seq_ldi rfl rfl (HD1.out.2.2.1)) ?_
        try simp only [List.getElem_toArray, List.getElem_cons_succ, List.getElem_cons_zero, Act.put, List.setIfInBounds_toArray, List.set_cons_zero, List.set_cons_succ]
        refine seql_take 8 (v := ?_) rfl (by kernel_rfl) (fun _ _ _ h => h) (by rfl) (fun w' hw' => ?_) ?_
        rotate_left
        · go_simp; try with_reducible rfl
        try simp only [List.getElem_toArray, List.getElem_cons_succ, List.getElem_cons_zero, Act.put, List.setIfInBounds_toArray, List.set_cons_zero, List.set_cons_succ]
        refine seql_take 9 rfl (by kernel_rfl) (fun _ _ _ h => h) (by rfl) (seq_ldRI rfl rfl (HD1.out.2.1)) ?_
        try simp only [List.getElem_toArray, List.getElem_cons_succ, List.getElem_cons_zero, Act.put, List.setIfInBounds_toArray, List.set_cons_zero, List.set_cons_succ]
        refine seql_take 10 (v := ?_) rfl (by kernel_rfl) (fun _ _ _ h => h) (by rfl) (fun w' hw' => ?_) ?_
        rotate_left
        · go_simp; try with_reducible rfl
        try simp only [List.getElem_toArray, List.getElem_cons_succ, List.getElem_cons_zero, Act.put, List.setIfInBounds_toArray, List.set_cons_zero, List.set_cons_succ]
        refine seql_take 11 (v := ?_) rfl (by kernel_rfl) (fun _ _ _ h => h) (by rfl) (fun w' hw' => ?_) ?_
        rotate_left
        · go_simp; try with_reducible rfl
        try simp only [List.getElem_toArray, List.getElem_cons_succ, List.getElem_cons_zero, Act.put, List.setIfInBounds_toArray, List.set_cons_zero, List.set_cons_succ]
        refine seql_take 12 (v := ?_) rfl (by kernel_rfl) (fun _ _ _ h => h) (by rfl) (fun w' hw' => ?_) ?_
        rotate_left
        · go_simp; try with_reducible rfl
        try simp only [List.getElem_toArray, List.getElem_cons_succ, List.getElem_cons_zero, Act.put, List.setIfInBounds_toArray, List.set_cons_zero, List.set_cons_succ]
        refine seql_take 13 rfl (by kernel_rfl) (fun _ _ _ h => h) (by rfl) (seq_ldi rfl rfl (HD1.out.2.2.2.1)) ?_
        try simp only [List.getElem_toArray, List.getElem_cons_succ, List.getElem_cons_zero, Act.put, List.setIfInBounds_toArray, List.set_cons_zero, List.set_cons_succ]
        refine seql_take 14 (v := ?_) rfl (by kernel_rfl) (fun _ _ _ h => h) (by rfl) (fun w' hw' => ?_) ?_
        rotate_left
        · go_simp; try with_reducible rfl
        try simp only [List.getElem_toArray, List.getElem_cons_succ, List.getElem_cons_zero, Act.put, List.setIfInBounds_toArray, List.set_cons_zero, List.set_cons_succ]
        refine seql_take 15 rfl (by kernel_rfl) (fun _ _ _ h => h) (by rfl) (seq_ldRI rfl rfl (HD1.out.2.1)) ?_
        try simp only [List.getElem_toArray, List.getElem_cons_succ, List.getElem_cons_zero, Act.put, List.setIfInBounds_toArray, List.set_cons_zero, List.set_cons_succ]
        refine seql_take 16 (v := ?_) rfl (by kernel_rfl) (fun _ _ _ h => h) (by rfl) (fun w' hw' => ?_) ?_
        rotate_left
        · go_simp; try with_reducible rfl
        try simp only [List.getElem_toArray, List.getElem_cons_succ, List.getElem_cons_zero, Act.put, List.setIfInBounds_toArray, List.set_cons_zero, List.set_cons_succ]
        refine seql_take 17 (v := ?_) rfl (by kernel_rfl) (fun _ _ _ h => h) (by rfl) (fun w' hw' => ?_) ?_
        rotate_left
        · go_simp; try with_reducible rfl
        try simp only [List.getElem_toArray, List.getElem_cons_succ, List.getElem_cons_zero, Act.put, List.setIfInBounds_toArray, List.set_cons_zero, List.set_cons_succ]
        refine seql_take 18 (v := ?_) rfl (by kernel_rfl) (fun _ _ _ h => h) (by rfl) (fun w' hw' => ?_) ?_
        rotate_left
        · go_simp; try with_reducible rfl
        try simp only [List.getElem_toArray, List.getElem_cons_succ, List.getElem_cons_zero, Act.put, List.setIfInBounds_toArray, List.set_cons_zero, List.set_cons_succ]
        refine seql_take 19 rfl (by kernel_rfl) (fun _ _ _ h => h) (by rfl) (seq_ldi rfl rfl (HD1.out.2.2.2.2)) ?_
        try simp only [List.getElem_toArray, List.getElem_cons_succ, List.getElem_cons_zero, Act.put, List.setIfInBounds_toArray, List.set_cons_zero, List.set_cons_succ]
        refine seql_take 20 (v := ?_) rfl (by kernel_rfl) (fun _ _ _ h => h) (by rfl) (fun w' hw' => ?_) ?_
        rotate_left
        · go_simp; try with_reducible rfl
        try simp only [List.getElem_toArray, List.getElem_cons_succ, List.getElem_cons_zero, Act.put, List.setIfInBounds_toArray, List.set_cons_zero, List.set_cons_succ]
        refine seql_run 21 rfl (by kernel_rfl) (by rfl) (fun KK hKK => ?_)
        go_wp2_with fail
        refine ⟨(Below.refl _ _).alloc (Nat.le_refl _) _, ?_⟩
        have hba : Below wr.heap.size wr (wr.alloc (.cells #[.int .i64 op, .int .i64 a, .int .i64 b] 50)).drew := ((Below.refl _ wr).alloc (Nat.le_refl _) _).drew
        have HBA := Lib.hid hba
        clear hba
        refine seql_last 22 rfl (by kernel_rfl) (by kernel_rfl) (by rfl) (fun KK hKK => ?_)
        refine wp_ins _ _ rfl wc.heap.size ao cap i _ rfl (owns_below HI.out.2.1 HBA.out) ⟨op, a, b⟩ wr.heap.size rfl ((At.new wr #[.int .i64 op, .int .i64 a, .int .i64 b] 50).below (Below.refl _ _).drew) (by omega) (by have := HBA.out.size; omega) ?_
        intro ao2 cap2 w5 q1 q2 q3
        refine hKK _ _ ?_
        have hk5 : Keeps (fun b => blk ao = some b) wr w5 := (Keeps.of_below HBA.out).trans' (Keeps.of_grown' q2 (fun b hb => hb))
        have hao : ∀ b, blk ao = some b → wc.heap.size ≤ b := fun b hb => (HI.out.2.1.lt b (by rw [own_slice]; exact hb)).1
        have hr5 : w5.heap[g3]? = _ := (hk5.block g3 (by omega) (fun h => by have := hao g3 h; omega)).trans HI.out.1
        have c5 : w5.cell? ⟨g3, 0, none⟩ = some (.slice ao i cap) := cell_of_row _ _ 0 _ _ (0, 0) hr5
        have f5 := frozen_of_row w5 g3 0 _ _ hr5
        have HQ := Lib.hid (And.intro q1 (And.intro hk5 (And.intro hr5 (And.intro hao (show ∀ b, blk ao2 = some b → wc.heap.size ≤ b from fun b hb => (q1.lt b (by rw [own_slice]; exact hb)).1)))))
        clear q1 q2 q3 hk5 hr5 hao
        refine seql_more 23 rfl (by kernel_rfl) (by kernel_rfl) (by rfl) (fun KK hKK => ?_)
        go_wp2_with fail
        refine seql_more 24 rfl (by kernel_rfl) (by kernel_rfl) (by rfl) (fun KK hKK => ?_)
        go_wp2_with fail
        refine seql_done (by kernel_rfl) ?_
        go_wp2_with fail
        go_roundw
        case rel =>
          have hk6 : Keeps (fun b => b = g3) w5 (w5.setCell ⟨g3, 0, none⟩ (.slice ao2 (i + 1) cap2)) := Keeps.of_grown (setCell_grown0 _ _ _ _) rfl
          refine ⟨i + 1, ao2, cap2, by omega, by simp, ?_, ?_, (HI.out.2.2.1.trans' (HQ.out.2.1.mono (fun b _ h => .inr (HQ.out.2.2.2.1 b h)))).trans' (hk6.mono (fun _ _ h => .inl h))⟩
          · rw [setCell_row0 0 _ HQ.out.2.2.1]
            rfl
          · have := owns_keeps HQ.out.1 hk6 (fun b hb h => by rw [own_slice] at hb; have := HQ.out.2.2.2.2 b hb; omega)
            rw [HX.out]
            simpa using this
        case measure => simp [intOf]; omega
      · obtain rfl : i = c.ins.length := by omega
        have hd1 : decide ((c.ins.length : Int) < (c.ins.length : Int)) = false := decide_eq_false (by omega)
        have d0 : wr.cell? ⟨g3, 0, none⟩ = some (.slice ao c.ins.length cap) := cell_of_row _ _ 0 _ _ (0, 0) hr
        have d1 : wr.cell? ⟨g3, 1, none⟩ = some (.slice (some ⟨sb, 0, none⟩) c.strs.length scp) := cell_of_row _ _ 1 _ _ (0, 0) hr
        have d2 : wr.cell? ⟨g3, 2, none⟩ = some (.slice (some ⟨fb, 0, none⟩) c.funs.length fcp) := cell_of_row _ _ 2 _ _ (0, 0) hr
        have d3 : wr.cell? ⟨g3, 3, none⟩ = some (.int .i64 c.glob) := cell_of_row _ _ 3 _ _ (0, 0) hr
        clear hr hown hk
        go_wp2_with (refine wpList_store_mid rfl 35 _ _ rfl (g + 1) 0 #[.slice ao c.ins.length cap, .slice (some ⟨sb, 0, none⟩) c.strs.length scp, .slice (some ⟨fb, 0, none⟩) c.funs.length fcp, .int .i64 c.glob] rfl rfl (code_there HI.out.2.2.2.2.2.1) (by kernel_rfl) (code_one _ _ _ _ _ _ _ _ _ _) ?_)
        obtain ⟨hr, hown, hk, hkg, hrg, hrt, hmw⟩ := HI.out
        refine bodyPost_ret (v := .agg #[.slice ao c.ins.length cap, .slice (some ⟨sb, 0, none⟩) c.strs.length scp, .slice (some ⟨fb, 0, none⟩) c.funs.length fcp, .int .i64 c.glob]) (results_to _ _ (g + 1) _ _ _ _ rfl (code_row hrt _ _ _ _)) rfl ?_
        have hks := Keeps.setCells (g + 1) [.slice ao c.ins.length cap, .slice (some ⟨sb, 0, none⟩) c.strs.length scp, .slice (some ⟨fb, 0, none⟩) c.funs.length fcp, .int .i64 c.glob] 0 wr
        have hwc := HR.out.2.2.2.2.2.size
        have hs2 := H2.out.2.2.2
        have hg := H.out.2.2.2.2.2
        have hs := hks.size
        have hs1 := hk.size
        have haoL : ∀ b, blk ao = some b → wc.heap.size ≤ b ∧ b < wr.heap.size := fun b hb => hown.lt b (by rw [own_slice]; exact hb)
        refine ⟨?_, ao, some ⟨sb, 0, none⟩, some ⟨fb, 0, none⟩, cap, scp, fcp, rfl, ?_, ?_, ?_, fun b hb hne => ?_, fun b hb hne => ?_, fun b hb hne => ?_, HC.out.insR, HC.out.strR, HC.out.funR⟩
        · rw [hg]
          exact H2.out.1.trans ((hkg.below (fun i hi h => by omega) (by omega)).trans (hks.below (fun i hi h => by omega) (by omega)))
        · have h1 := owns_keeps hown hks (fun b hb h => by rw [own_slice] at hb; have := haoL b hb; omega)
          rw [List.take_length] at h1
          exact rowsAt_of_flat3 (At.own h1) (by intro r hr; obtain ⟨x, _, rfl⟩ := List.mem_map.1 hr; rfl)
        · refine (HR.out.2.1.keeps hk (fun b hb hne h => ?_)).keeps hks (fun b hb hne h => ?_)
          all_goals
            have h5 := HR.out.2.2.1 (by simpa [strCells] using hne)
            obtain rfl : sb = b := by simpa [blk] using hb
            omega
        · refine (HR.out.2.2.2.1.keeps hk (fun b hb hne h => ?_)).keeps hks (fun b hb hne h => ?_)
          all_goals
            have h5 := HR.out.2.2.2.2.1 (by simpa [intsV] using hne)
            obtain rfl : fb = b := by simpa [blk] using hb
            omega
        · have := haoL b hb; omega
        · have h5 := HR.out.2.2.1 hne
          obtain rfl : sb = b := by simpa [blk] using hb
          omega
        · have h5 := HR.out.2.2.2.2.1 hne
          obtain rfl : fb = b := by simpa [blk] using hb
          omega
end Go.Proofs.YtnhdefaagicejaaDoor
