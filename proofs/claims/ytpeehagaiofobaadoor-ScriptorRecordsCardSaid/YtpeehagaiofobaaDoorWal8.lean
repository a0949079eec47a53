/- The walk of a log's Append: where it is refused. -/
import Derived.Test.YtpeehagaiofobaaDoorWal7
import Derived.Test.YtpeehagaiofobaaDoorChunk
namespace Go.Proofs.YtpeehagaiofobaaDoor
open Go.RowKit Go.Shelf

/-- What Append hands back lies in a variable of its own. -/
theorem results_errno (tmps : Array Value) (W : World) (a : Addr) (v : Value) (hp : tmps[4]?.getD undef = .pointer (some a)) (hc : W.cell? a = some v) : (results Tryd.f11 tmps).run Tryd.prog W = .ok v W := by
  have hu := Tryd.underlying25
  simp only [results, Tryd.results11]
  go_simp

theorem appendNil_any (bo : Option Addr) (k cap : Nat) (w : World) :
    Calls Tryd.prog 11 #[.pointer none, .slice bo k cap] w (fun e w' => e = .returned (.int .i64 1) ∧ Below w.heap.size w w') := by
  go_enter Tryd.func11, Tryd.ntmps11
  go_wp2_with fail
  have hbx := heap_alloc_new (w.alloc (.cells #[.pointer none] 30)) (.cells #[.int .i64 1] 25)
  rw [World.size_alloc] at hbx
  refine bodyPost_ret (v := .int .i64 1) (results_errno _ _ ⟨w.heap.size + 1, 0, none⟩ _ rfl (cell_of_row _ (w.heap.size + 1) 0 _ _ (0, 0) hbx)) rfl ?_
  exact ⟨rfl, (((Below.refl _ w).alloc (Nat.le_refl _) _).alloc (by simp) _)⟩

theorem needZ_any (n : Nat) (z : Int) (hz : z = n) (hn : n ≤ 1000000000) (w : World) : Calls Tryd.prog 25 #[.int .i64 z] w (fun e w' => e = .returned (.int .i64 (needN n : Int)) ∧ w = w') := by
  subst hz
  exact need_any n hn w

/-- The two boxes of Append: the receiver's, the result's. -/
def Boxes (w : World) (g : Nat) (W : World) : Prop := Below w.heap.size w W ∧ W.heap.size = w.heap.size + 2 ∧ W.heap[w.heap.size]? = some (.cells #[.pointer (some ⟨g, 0, none⟩)] 30 (0, 0)) ∧ W.heap[w.heap.size + 1]? = some (.cells #[.int .i64 0] 25 (0, 0))
theorem boxes_new (w : World) (g : Nat) : Boxes w g ((w.alloc (.cells #[.pointer (some ⟨g, 0, none⟩)] 30)).alloc (.cells #[.int .i64 0] 25)) := by
  refine ⟨((Below.refl _ w).alloc (Nat.le_refl _) _).alloc (by simp) _, by simp, ?_, ?_⟩
  · rw [Below.heap_alloc _ _ _ (by simp)]
    exact heap_alloc_new w _
  · have := heap_alloc_new (w.alloc (.cells #[.pointer (some ⟨g, 0, none⟩)] 30)) (.cells #[.int .i64 0] 25)
    rw [World.size_alloc] at this
    exact this

set_option maxRecDepth 100000 in
set_option maxHeartbeats 1000000 in
theorem appendFull_any {g d : Nat} {l : LS} (bo : Option Addr) (k cap : Nat) (w : World) (hl : LogAt w g d l) (hk : k ≤ 1000000) (hc : l.cnt ≤ 1000000) (ha : l.at_ ≤ l.cnt) (hn : l.cnt - l.at_ < needN k) :
    Calls Tryd.prog 11 #[.pointer (some ⟨g, 0, none⟩), .slice bo k cap] w (fun e w' => e = .returned (.int .i64 7) ∧ Below w.heap.size w w') := by
  have H := Lib.hid hl
  have hwr1 : IntKind.i64.wrap ((l.cnt : Int) - (l.at_ : Int)) = (l.cnt : Int) - l.at_ := by rw [IntKind.wrap_i64]; omega
  have hnd : decide ((l.cnt : Int) - (l.at_ : Int) < (needN k : Int)) = true := decide_eq_true (by omega)
  have hbig : decide (16777216 < (k : Int)) = false := decide_eq_false (by omega)
  clear hl
  go_enter Tryd.func11, Tryd.ntmps11
  go_wp2_with fail
  have hbx := boxes_new w g
  generalize hW : (w.alloc (.cells #[.pointer (some ⟨g, 0, none⟩)] 30)).alloc (.cells #[.int .i64 0] 25) = W at *
  have HB := Lib.hid hbx
  have HL := Lib.hid (H.out.below hbx.1).cells
  have HG := Lib.hid (show W.drew.cell? ⟨w.heap.size, 0, none⟩ = some (.pointer (some ⟨g, 0, none⟩)) from cell_of_row W w.heap.size 0 _ _ (0, 0) hbx.2.2.1)
  have HX := Lib.hid (And.intro (show W.cell? ⟨w.heap.size + 1, 0, none⟩ = some (.int .i64 0) from cell_of_row W (w.heap.size + 1) 0 _ _ (0, 0) hbx.2.2.2) (show W.frozen? ⟨w.heap.size + 1, 0, none⟩ = false from frozen_of_row W (w.heap.size + 1) 0 _ _ hbx.2.2.2))
  clear hbx hW hbig
  refine seq_start (by kernel_rfl) ?_
  refine seq_take 0 (v := ?_) rfl (by kernel_rfl) (fun _ _ _ h => h) (by rfl) (fun w' hw' => ?_) ?_
  rotate_left
  · go_simp; try with_reducible rfl
  try simp only [List.getElem_toArray, List.getElem_cons_succ, List.getElem_cons_zero, Act.put, List.setIfInBounds_toArray, List.set_cons_zero, List.set_cons_succ]
  refine seq_take 1 (v := ?_) rfl (by kernel_rfl) (fun _ _ _ h => h) (by rfl) (fun w' hw' => ?_) ?_
  rotate_left
  · go_simp; try with_reducible rfl
  try simp only [List.getElem_toArray, List.getElem_cons_succ, List.getElem_cons_zero, Act.put, List.setIfInBounds_toArray, List.set_cons_zero, List.set_cons_succ]
  refine seq_take 3 rfl (by kernel_rfl) (fun _ _ _ h => h) (by rfl) (seq_ldl rfl rfl (HG.out)) ?_
  try simp only [List.getElem_toArray, List.getElem_cons_succ, List.getElem_cons_zero, Act.put, List.setIfInBounds_toArray, List.set_cons_zero, List.set_cons_succ]
  refine seq_take 4 (v := ?_) rfl (by kernel_rfl) (fun _ _ _ h => h) (by rfl) (fun w' hw' => ?_) ?_
  rotate_left
  · go_simp; try with_reducible rfl
  try simp only [List.getElem_toArray, List.getElem_cons_succ, List.getElem_cons_zero, Act.put, List.setIfInBounds_toArray, List.set_cons_zero, List.set_cons_succ]
  refine seq_take 5 (v := ?_) rfl (by kernel_rfl) (fun _ _ _ h => h) (by rfl) (fun w' hw' => ?_) ?_
  rotate_left
  · go_simp; try with_reducible rfl
  try simp only [List.getElem_toArray, List.getElem_cons_succ, List.getElem_cons_zero, Act.put, List.setIfInBounds_toArray, List.set_cons_zero, List.set_cons_succ]
  refine seq_take 6 (v := ?_) rfl (by kernel_rfl) (fun _ _ _ h => h) (by rfl) (fun w' hw' => ?_) ?_
  rotate_left
  · go_simp; try with_reducible rfl
  try simp only [List.getElem_toArray, List.getElem_cons_succ, List.getElem_cons_zero, Act.put, List.setIfInBounds_toArray, List.set_cons_zero, List.set_cons_succ]
  refine seq_take 7 rfl (by kernel_rfl) (fun _ _ _ h => h) (by rfl) (seq_ldi rfl rfl ((show W.drew.cell? ⟨g, 2, none⟩ = _ from HL.out.2.2.1))) ?_
  try simp only [List.getElem_toArray, List.getElem_cons_succ, List.getElem_cons_zero, Act.put, List.setIfInBounds_toArray, List.set_cons_zero, List.set_cons_succ]
  refine seq_take 8 rfl (by kernel_rfl) (fun _ _ _ h => h) (by rfl) (seq_ldl rfl rfl (HG.out)) ?_
  try simp only [List.getElem_toArray, List.getElem_cons_succ, List.getElem_cons_zero, Act.put, List.setIfInBounds_toArray, List.set_cons_zero, List.set_cons_succ]
  refine seq_take 9 (v := ?_) rfl (by kernel_rfl) (fun _ _ _ h => h) (by rfl) (fun w' hw' => ?_) ?_
  rotate_left
  · go_simp; try with_reducible rfl
  try simp only [List.getElem_toArray, List.getElem_cons_succ, List.getElem_cons_zero, Act.put, List.setIfInBounds_toArray, List.set_cons_zero, List.set_cons_succ]
  refine seq_take 10 (v := ?_) rfl (by kernel_rfl) (fun _ _ _ h => h) (by rfl) (fun w' hw' => ?_) ?_
  rotate_left
  · go_simp; try with_reducible rfl
  try simp only [List.getElem_toArray, List.getElem_cons_succ, List.getElem_cons_zero, Act.put, List.setIfInBounds_toArray, List.set_cons_zero, List.set_cons_succ]
  refine seq_take 11 rfl (by kernel_rfl) (fun _ _ _ h => h) (by rfl) (seq_ldi rfl rfl ((show W.drew.cell? ⟨g, 5, none⟩ = _ from HL.out.2.2.2.2.2))) ?_
  try simp only [List.getElem_toArray, List.getElem_cons_succ, List.getElem_cons_zero, Act.put, List.setIfInBounds_toArray, List.set_cons_zero, List.set_cons_succ]
  refine seq_take 12 (v := ?_) rfl (by kernel_rfl) (fun _ _ _ h => h) (by rfl) (fun w' hw' => ?_) ?_
  rotate_left
  · go_simp; try with_reducible rfl
  try simp only [List.getElem_toArray, List.getElem_cons_succ, List.getElem_cons_zero, Act.put, List.setIfInBounds_toArray, List.set_cons_zero, List.set_cons_succ]
  refine seq_run 2 rfl (by kernel_rfl) (by rfl) (fun KK hKK => ?_)
  go_wp2_with fail
  refine (need_any k (by omega) W.drew).mono ?_
  rintro e w1 ⟨rfl, rfl⟩
  go_wp2_with fail
  refine ⟨Below.refl _ _, ?_⟩
  refine seq_take 13 (v := ?_) rfl (by kernel_rfl) (fun _ _ _ h => h) (by rfl) (fun w' hw' => ?_) ?_
  rotate_left
  · go_simp; try with_reducible rfl
  try simp only [List.getElem_toArray, List.getElem_cons_succ, List.getElem_cons_zero, Act.put, List.setIfInBounds_toArray, List.set_cons_zero, List.set_cons_succ]
  refine seq_take 14 (v := ?_) rfl (by kernel_rfl) (fun _ _ _ h => h) (by rfl) (fun w' hw' => ?_) ?_
  rotate_left
  · go_simp; try with_reducible rfl
  try simp only [List.getElem_toArray, List.getElem_cons_succ, List.getElem_cons_zero, Act.put, List.setIfInBounds_toArray, List.set_cons_zero, List.set_cons_succ]
  refine seq_done (by kernel_rfl) ?_
  have hx0 := HX.out.1
  have hx1 := HX.out.2
  have hres : (W.setCell ⟨w.heap.size + 1, 0, none⟩ (.int .i64 7)).cell? ⟨w.heap.size + 1, 0, none⟩ = some (.int .i64 7) := World.cell?_setCell_same _ _ _ hx0
  go_wp2_with fail
  refine bodyPost_ret (v := .int .i64 7) (results_errno _ _ ⟨w.heap.size + 1, 0, none⟩ _ rfl hres) rfl ?_
  exact ⟨rfl, (HB.out.1.setCell (p := ⟨w.heap.size + 1, 0, none⟩) (by simp) _).drew⟩

end Go.Proofs.YtpeehagaiofobaaDoor
