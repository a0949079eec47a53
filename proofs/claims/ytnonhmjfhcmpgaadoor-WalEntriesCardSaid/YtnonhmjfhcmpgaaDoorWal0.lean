/- A log's object in memory; the walks of the smallest of its functions. -/
import Derived.Test.YtnonhmjfhcmpgaaDoorWalP
import Derived.Test.YtnonhmjfhcmpgaaDoorWalIn
import Derived.Test.YtnonhmjfhcmpgaaDoorWalImg
import Derived.Test.YtnonhmjfhcmpgaaDoorZeros
namespace Go.Proofs.YtnonhmjfhcmpgaaDoor
open Go.RowKit

theorem seq_ldd {o : Oper} {x : Operand} {a : Act} {w : World} (ho : o.op = .load 23 x) {ad : Addr} {v : Value} (hx : a.eval x = .pointer (some ad)) (hc : w.cell? ad = some v) :
    ∀ w', Below w.heap.size w w' → (execOp a.eval o).run Tryd.prog w' = .ok (.value v) w' := by
  intro w' hb
  have hc' : w'.cell? ad = some v := (World.cell?_of_block (hb.block ad.block (World.block_lt_of_cell? (a := ad) w hc))).trans hc
  have hu := Tryd.underlying23
  unfold execOp
  simp only [ho, hx]
  go_simp
theorem seq_ldl {o : Oper} {x : Operand} {a : Act} {w : World} (ho : o.op = .load 30 x) {ad : Addr} {v : Value} (hx : a.eval x = .pointer (some ad)) (hc : w.cell? ad = some v) :
    ∀ w', Below w.heap.size w w' → (execOp a.eval o).run Tryd.prog w' = .ok (.value v) w' := by
  intro w' hb
  have hc' : w'.cell? ad = some v := (World.cell?_of_block (hb.block ad.block (World.block_lt_of_cell? (a := ad) w hc))).trans hc
  have hu := Tryd.underlying30
  unfold execOp
  simp only [ho, hx]
  go_simp

/-- A log's object. -/
structure LS where
  f : Nat
  cnt : Nat
  age : Nat
  next : Nat
  at_ : Nat
def LogAt (w : World) (g d : Nat) (l : LS) : Prop := w.heap[g]? = some (.cells #[.pointer (some ⟨d, 0, none⟩), .int .i64 (l.f : Int), .int .i64 (l.cnt : Int), .int .i64 (l.age : Int), .int .i64 (l.next : Int), .int .i64 (l.at_ : Int)] 81 (0, 0))
/-- A place, as a value. -/
def placeV (d f cnt : Nat) : Value := .agg #[.pointer (some ⟨d, 0, none⟩), .int .i64 (f : Int), .int .i64 (cnt : Int)]
theorem LogAt.keeps {X : Nat → Prop} {w w' : World} {g d : Nat} {l : LS} (h : LogAt w g d l) (hk : Keeps X w w') (hX : ¬ X g) : LogAt w' g d l := (hk.block g (Array.getElem?_eq_some_iff.1 h).1 hX).trans h
theorem LogAt.below {w w' : World} {g d : Nat} {l : LS} (h : LogAt w g d l) (hb : Below w.heap.size w w') : LogAt w' g d l := (hb.block g (Array.getElem?_eq_some_iff.1 h).1).trans h
theorem LogAt.lt {w : World} {g d : Nat} {l : LS} (h : LogAt w g d l) : g < w.heap.size := (Array.getElem?_eq_some_iff.1 h).1
theorem LogAt.cells {w : World} {g d : Nat} {l : LS} (h : LogAt w g d l) : w.cell? ⟨g, 0, none⟩ = some (.pointer (some ⟨d, 0, none⟩)) ∧ w.cell? ⟨g, 1, none⟩ = some (.int .i64 (l.f : Int)) ∧ w.cell? ⟨g, 2, none⟩ = some (.int .i64 (l.cnt : Int)) ∧
    w.cell? ⟨g, 3, none⟩ = some (.int .i64 (l.age : Int)) ∧ w.cell? ⟨g, 4, none⟩ = some (.int .i64 (l.next : Int)) ∧ w.cell? ⟨g, 5, none⟩ = some (.int .i64 (l.at_ : Int)) :=
  ⟨cell_of_row _ g 0 _ _ (0, 0) h, cell_of_row _ g 1 _ _ (0, 0) h, cell_of_row _ g 2 _ _ (0, 0) h, cell_of_row _ g 3 _ _ (0, 0) h, cell_of_row _ g 4 _ _ (0, 0) h, cell_of_row _ g 5 _ _ (0, 0) h⟩
theorem LogAt.fz {w : World} {g d : Nat} {l : LS} (h : LogAt w g d l) (j : Nat) : w.frozen? ⟨g, j, none⟩ = false := frozen_of_row w g j _ _ h
theorem LogAt.drew {w : World} {g d : Nat} {l : LS} (h : LogAt w g d l) : LogAt w.drew g d l := h

/-- The load of a place, in a region that draws. -/
theorem seq_ldp {o : Oper} {x : Operand} {a : Act} {w : World} (ho : o.op = .load 74 x) {g d : Nat} {l : LS} (hx : a.eval x = .pointer (some ⟨g, 0, none⟩)) (hl : LogAt w g d l) :
    ∀ w', Below w.heap.size w w' → (execOp a.eval o).run Tryd.prog w' = .ok (.value (placeV d l.f l.cnt)) w' := by
  intro w' hb
  obtain ⟨c0, c1, c2, _⟩ := (hl.below hb).cells
  have hu := Tryd.underlying74
  unfold execOp placeV
  simp only [ho, hx]
  go_simp

theorem need_any (n : Nat) (hn : n ≤ 1000000000) (w : World) : Calls Tryd.prog 41 #[.int .i64 (n : Int)] w (fun e w' => e = .returned (.int .i64 (needN n : Int)) ∧ w = w') := by
  have e : (1 : Int) + ((n : Int) + 511 - 1) / 511 = (needN n : Int) := by unfold needN nparts; omega
  have HE := Lib.hid e
  clear e
  go_enter Tryd.func41, Tryd.ntmps41
  go_wp2_with fail
  go_ret
  refine ⟨?_, rfl⟩
  rw [← HE.out]
  rfl

theorem slot_any (n : Nat) (hn : n ≤ 1000000000) (w : World) : Calls Tryd.prog 44 #[.int .i64 (n : Int)] w (fun e w' => e = .returned (.int .i64 ((1 - n % 2 : Nat) : Int)) ∧ w = w') := by
  have e : (1 : Int) - (n : Int) % 2 = ((1 - n % 2 : Nat) : Int) := by omega
  have HE := Lib.hid e
  clear e
  go_enter Tryd.func44, Tryd.ntmps44
  go_wp2_with fail
  go_ret
  refine ⟨?_, rfl⟩
  rw [← HE.out]
  rfl

theorem count_any {B : Nat} {M I : Nat → Prop} {d : Nat} {s : DS} (w : World) (h : DiskAt B w M I d s) :
    Calls Tryd.prog 55 #[.pointer (some ⟨d, 0, none⟩)] w (fun e w' => e = .returned (.int .i64 (s.L.length : Int)) ∧ w = w') := by
  obtain ⟨lb, lcap, mb, wo, wcap, c0, _⟩ := h.cells
  generalize s.L.length = k at *
  clear h
  go_enter Tryd.func55, Tryd.ntmps55
  go_wp2_with fail
  go_returns
  exact ⟨rfl, rfl⟩

theorem age_any {g d : Nat} {l : LS} (w : World) (h : LogAt w g d l) :
    Calls Tryd.prog 18 #[.pointer (some ⟨g, 0, none⟩)] w (fun e w' => e = .returned (.int .i64 (l.age : Int)) ∧ w = w') := by
  obtain ⟨_, _, _, c3, _, _⟩ := h.cells
  clear h
  go_enter Tryd.func18, Tryd.ntmps18
  go_wp2_with fail
  go_returns
  exact ⟨rfl, rfl⟩

/-- How many bytes there is room for. -/
def roomP (l : LS) : Int := if l.cnt ≤ l.at_ then -1 else ((l.cnt - l.at_ - 1 : Nat) : Int) * 511
set_option maxRecDepth 100000 in
set_option maxHeartbeats 400000 in
theorem room_any {g d : Nat} {l : LS} (w : World) (h : LogAt w g d l) (hc : l.cnt ≤ 30000) (ha : l.at_ ≤ 30000) :
    Calls Tryd.prog 22 #[.pointer (some ⟨g, 0, none⟩)] w (fun e w' => e = .returned (.int .i64 (roomP l)) ∧ Below w.heap.size w w') := by
  obtain ⟨_, _, c2, _, _, c5⟩ := h.cells
  have HC := Lib.hid (And.intro c2 c5)
  have HR := Lib.hid (show roomP l = if l.cnt ≤ l.at_ then -1 else ((l.cnt - l.at_ - 1 : Nat) : Int) * 511 from rfl)
  generalize roomP l = r at *
  obtain ⟨f, cnt, age, next, at_⟩ := l
  simp only at HC HR hc ha
  clear h c2 c5
  go_enter Tryd.func22, Tryd.ntmps22
  go_wp2_with fail
  refine seq_start (by kernel_rfl) ?_
  refine seq_take 0 (v := ?_) rfl (by kernel_rfl) (fun _ _ _ h => h) (by rfl) (fun w' hw' => ?_) ?_
  rotate_left
  · go_simp; try with_reducible rfl
  try simp only [List.getElem_toArray, List.getElem_cons_succ, List.getElem_cons_zero, Act.put, List.setIfInBounds_toArray, List.set_cons_zero, List.set_cons_succ]
  refine seq_take 1 (v := ?_) rfl (by kernel_rfl) (fun _ _ _ h => h) (by rfl) (fun w' hw' => ?_) ?_
  rotate_left
  · go_simp; try with_reducible rfl
  try simp only [List.getElem_toArray, List.getElem_cons_succ, List.getElem_cons_zero, Act.put, List.setIfInBounds_toArray, List.set_cons_zero, List.set_cons_succ]
  refine seq_take 2 (v := ?_) rfl (by kernel_rfl) (fun _ _ _ h => h) (by rfl) (fun w' hw' => ?_) ?_
  rotate_left
  · go_simp; try with_reducible rfl
  try simp only [List.getElem_toArray, List.getElem_cons_succ, List.getElem_cons_zero, Act.put, List.setIfInBounds_toArray, List.set_cons_zero, List.set_cons_succ]
  refine seq_take 3 (v := ?_) rfl (by kernel_rfl) (fun _ _ _ h => h) (by rfl) (fun w' hw' => ?_) ?_
  rotate_left
  · go_simp; try with_reducible rfl
  try simp only [List.getElem_toArray, List.getElem_cons_succ, List.getElem_cons_zero, Act.put, List.setIfInBounds_toArray, List.set_cons_zero, List.set_cons_succ]
  refine seq_take 4 (v := ?_) rfl (by kernel_rfl) (fun _ _ _ h => h) (by rfl) (fun w' hw' => ?_) ?_
  rotate_left
  · go_simp; try with_reducible rfl
  try simp only [List.getElem_toArray, List.getElem_cons_succ, List.getElem_cons_zero, Act.put, List.setIfInBounds_toArray, List.set_cons_zero, List.set_cons_succ]
  refine seq_take 5 (v := ?_) rfl (by kernel_rfl) (fun _ _ _ h => h) (by rfl) (fun w' hw' => ?_) ?_
  rotate_left
  · go_simp; try with_reducible rfl
  try simp only [List.getElem_toArray, List.getElem_cons_succ, List.getElem_cons_zero, Act.put, List.setIfInBounds_toArray, List.set_cons_zero, List.set_cons_succ]
  refine seq_take 6 rfl (by kernel_rfl) (fun _ _ _ h => h) (by rfl) (seq_ldi rfl rfl (HC.out.2)) ?_
  try simp only [List.getElem_toArray, List.getElem_cons_succ, List.getElem_cons_zero, Act.put, List.setIfInBounds_toArray, List.set_cons_zero, List.set_cons_succ]
  refine seq_take 7 (v := ?_) rfl (by kernel_rfl) (fun _ _ _ h => h) (by rfl) (fun w' hw' => ?_) ?_
  rotate_left
  · go_simp; try with_reducible rfl
  try simp only [List.getElem_toArray, List.getElem_cons_succ, List.getElem_cons_zero, Act.put, List.setIfInBounds_toArray, List.set_cons_zero, List.set_cons_succ]
  refine seq_take 8 (v := ?_) rfl (by kernel_rfl) (fun _ _ _ h => h) (by rfl) (fun w' hw' => ?_) ?_
  rotate_left
  · go_simp; try with_reducible rfl
  try simp only [List.getElem_toArray, List.getElem_cons_succ, List.getElem_cons_zero, Act.put, List.setIfInBounds_toArray, List.set_cons_zero, List.set_cons_succ]
  refine seq_take 9 (v := ?_) rfl (by kernel_rfl) (fun _ _ _ h => h) (by rfl) (fun w' hw' => ?_) ?_
  rotate_left
  · go_simp; try with_reducible rfl
  try simp only [List.getElem_toArray, List.getElem_cons_succ, List.getElem_cons_zero, Act.put, List.setIfInBounds_toArray, List.set_cons_zero, List.set_cons_succ]
  refine seq_take 10 (v := ?_) rfl (by kernel_rfl) (fun _ _ _ h => h) (by rfl) (fun w' hw' => ?_) ?_
  rotate_left
  · go_simp; try with_reducible rfl
  try simp only [List.getElem_toArray, List.getElem_cons_succ, List.getElem_cons_zero, Act.put, List.setIfInBounds_toArray, List.set_cons_zero, List.set_cons_succ]
  refine seq_take 11 rfl (by kernel_rfl) (fun _ _ _ h => h) (by rfl) (seq_ldi rfl rfl (HC.out.1)) ?_
  try simp only [List.getElem_toArray, List.getElem_cons_succ, List.getElem_cons_zero, Act.put, List.setIfInBounds_toArray, List.set_cons_zero, List.set_cons_succ]
  by_cases hle : cnt ≤ at_
  · have hr : r = -1 := by rw [HR.out, if_pos hle]
    have HRR := Lib.hid hr
    clear hr
    refine seq_take 12 (v := ?_) rfl (by kernel_rfl) (fun _ _ _ h => h) (by rfl) (fun w' hw' => ?_) ?_
    rotate_left
    · go_simp; try with_reducible rfl
    try simp only [List.getElem_toArray, List.getElem_cons_succ, List.getElem_cons_zero, Act.put, List.setIfInBounds_toArray, List.set_cons_zero, List.set_cons_succ]
    refine seq_take 13 (v := ?_) rfl (by kernel_rfl) (fun _ _ _ h => h) (by rfl) (fun w' hw' => ?_) ?_
    rotate_left
    · go_simp; try with_reducible rfl
    try simp only [List.getElem_toArray, List.getElem_cons_succ, List.getElem_cons_zero, Act.put, List.setIfInBounds_toArray, List.set_cons_zero, List.set_cons_succ]
    refine seq_done (by kernel_rfl) ?_
    go_wp2_with fail
    go_returns
    exact ⟨by rw [HRR.out]; rfl, (Below.refl _ _).drew⟩
  · have hr : r = ((cnt - at_ - 1 : Nat) : Int) * 511 := by rw [HR.out, if_neg hle]
    have hcast : ((cnt - at_ - 1 : Nat) : Int) * 511 = ((cnt : Int) - at_ - 1) * 511 := by omega
    rw [hcast] at hr
    have HRR := Lib.hid hr
    clear hr hcast
    have hlt : ¬ ((cnt : Int) ≤ at_) := by omega
    have HM := Lib.hid (show min (IntKind.i64.wrap (IntKind.i64.wrap (IntKind.i64.wrap ((cnt : Int) - at_) - 1) * 511)) 16777216 = ((cnt : Int) - at_ - 1) * 511 by
      have e1 : IntKind.i64.wrap ((cnt : Int) - at_) = (cnt : Int) - at_ := by rw [IntKind.wrap_i64]; omega
      have e2 : IntKind.i64.wrap ((cnt : Int) - at_ - 1) = (cnt : Int) - at_ - 1 := by rw [IntKind.wrap_i64]; omega
      have e3 : IntKind.i64.wrap (((cnt : Int) - at_ - 1) * 511) = ((cnt : Int) - at_ - 1) * 511 := by rw [IntKind.wrap_i64]; omega
      rw [e1, e2, e3]
      omega)
    refine seq_take 12 (v := ?_) rfl (by kernel_rfl) (fun _ _ _ h => h) (by rfl) (fun w' hw' => ?_) ?_
    rotate_left
    · go_simp; try with_reducible rfl
    try simp only [List.getElem_toArray, List.getElem_cons_succ, List.getElem_cons_zero, Act.put, List.setIfInBounds_toArray, List.set_cons_zero, List.set_cons_succ]
    refine seq_take 13 (v := ?_) rfl (by kernel_rfl) (fun _ _ _ h => h) (by rfl) (fun w' hw' => ?_) ?_
    rotate_left
    · go_simp; try with_reducible rfl
    try simp only [List.getElem_toArray, List.getElem_cons_succ, List.getElem_cons_zero, Act.put, List.setIfInBounds_toArray, List.set_cons_zero, List.set_cons_succ]
    refine seq_done (by kernel_rfl) ?_
    go_wp2_with fail
    refine seq_start (by kernel_rfl) ?_
    refine seq_take 0 (v := ?_) rfl (by kernel_rfl) (fun _ _ _ h => h) (by rfl) (fun w' hw' => ?_) ?_
    rotate_left
    · go_simp; try with_reducible rfl
    try simp only [List.getElem_toArray, List.getElem_cons_succ, List.getElem_cons_zero, Act.put, List.setIfInBounds_toArray, List.set_cons_zero, List.set_cons_succ]
    refine seq_take 1 (v := ?_) rfl (by kernel_rfl) (fun _ _ _ h => h) (by rfl) (fun w' hw' => ?_) ?_
    rotate_left
    · go_simp; try with_reducible rfl
    try simp only [List.getElem_toArray, List.getElem_cons_succ, List.getElem_cons_zero, Act.put, List.setIfInBounds_toArray, List.set_cons_zero, List.set_cons_succ]
    refine seq_take 2 (v := ?_) rfl (by kernel_rfl) (fun _ _ _ h => h) (by rfl) (fun w' hw' => ?_) ?_
    rotate_left
    · go_simp; try with_reducible rfl
    try simp only [List.getElem_toArray, List.getElem_cons_succ, List.getElem_cons_zero, Act.put, List.setIfInBounds_toArray, List.set_cons_zero, List.set_cons_succ]
    refine seq_take 3 (v := ?_) rfl (by kernel_rfl) (fun _ _ _ h => h) (by rfl) (fun w' hw' => ?_) ?_
    rotate_left
    · go_simp; try with_reducible rfl
    try simp only [List.getElem_toArray, List.getElem_cons_succ, List.getElem_cons_zero, Act.put, List.setIfInBounds_toArray, List.set_cons_zero, List.set_cons_succ]
    refine seq_take 4 rfl (by kernel_rfl) (fun _ _ _ h => h) (by rfl) (seq_ldi rfl rfl ((show w.drew.cell? ⟨g, 2, none⟩ = _ from HC.out.1))) ?_
    try simp only [List.getElem_toArray, List.getElem_cons_succ, List.getElem_cons_zero, Act.put, List.setIfInBounds_toArray, List.set_cons_zero, List.set_cons_succ]
    refine seq_take 5 (v := ?_) rfl (by kernel_rfl) (fun _ _ _ h => h) (by rfl) (fun w' hw' => ?_) ?_
    rotate_left
    · go_simp; try with_reducible rfl
    try simp only [List.getElem_toArray, List.getElem_cons_succ, List.getElem_cons_zero, Act.put, List.setIfInBounds_toArray, List.set_cons_zero, List.set_cons_succ]
    refine seq_take 6 (v := ?_) rfl (by kernel_rfl) (fun _ _ _ h => h) (by rfl) (fun w' hw' => ?_) ?_
    rotate_left
    · go_simp; try with_reducible rfl
    try simp only [List.getElem_toArray, List.getElem_cons_succ, List.getElem_cons_zero, Act.put, List.setIfInBounds_toArray, List.set_cons_zero, List.set_cons_succ]
    refine seq_take 7 (v := ?_) rfl (by kernel_rfl) (fun _ _ _ h => h) (by rfl) (fun w' hw' => ?_) ?_
    rotate_left
    · go_simp; try with_reducible rfl
    try simp only [List.getElem_toArray, List.getElem_cons_succ, List.getElem_cons_zero, Act.put, List.setIfInBounds_toArray, List.set_cons_zero, List.set_cons_succ]
    refine seq_take 8 rfl (by kernel_rfl) (fun _ _ _ h => h) (by rfl) (seq_ldi rfl rfl ((show w.drew.cell? ⟨g, 5, none⟩ = _ from HC.out.2))) ?_
    try simp only [List.getElem_toArray, List.getElem_cons_succ, List.getElem_cons_zero, Act.put, List.setIfInBounds_toArray, List.set_cons_zero, List.set_cons_succ]
    refine seq_take 9 (v := ?_) rfl (by kernel_rfl) (fun _ _ _ h => h) (by rfl) (fun w' hw' => ?_) ?_
    rotate_left
    · go_simp; try with_reducible rfl
    try simp only [List.getElem_toArray, List.getElem_cons_succ, List.getElem_cons_zero, Act.put, List.setIfInBounds_toArray, List.set_cons_zero, List.set_cons_succ]
    refine seq_take 10 (v := ?_) rfl (by kernel_rfl) (fun _ _ _ h => h) (by rfl) (fun w' hw' => ?_) ?_
    rotate_left
    · go_simp; try with_reducible rfl
    try simp only [List.getElem_toArray, List.getElem_cons_succ, List.getElem_cons_zero, Act.put, List.setIfInBounds_toArray, List.set_cons_zero, List.set_cons_succ]
    refine seq_take 11 (v := ?_) rfl (by kernel_rfl) (fun _ _ _ h => h) (by rfl) (fun w' hw' => ?_) ?_
    rotate_left
    · go_simp; try with_reducible rfl
    try simp only [List.getElem_toArray, List.getElem_cons_succ, List.getElem_cons_zero, Act.put, List.setIfInBounds_toArray, List.set_cons_zero, List.set_cons_succ]
    refine seq_take 12 rfl (by kernel_rfl) (fun _ _ _ h => h) (by rfl) (yields_min2 rfl rfl rfl (HM.out)) ?_
    try simp only [List.getElem_toArray, List.getElem_cons_succ, List.getElem_cons_zero, Act.put, List.setIfInBounds_toArray, List.set_cons_zero, List.set_cons_succ]
    refine seq_take 13 (v := ?_) rfl (by kernel_rfl) (fun _ _ _ h => h) (by rfl) (fun w' hw' => ?_) ?_
    rotate_left
    · go_simp; try with_reducible rfl
    try simp only [List.getElem_toArray, List.getElem_cons_succ, List.getElem_cons_zero, Act.put, List.setIfInBounds_toArray, List.set_cons_zero, List.set_cons_succ]
    refine seq_done (by kernel_rfl) ?_
    go_wp2_with fail
    go_returns
    exact ⟨by rw [HRR.out]; rfl, (Below.refl _ _).drew.drew⟩

end Go.Proofs.YtnonhmjfhcmpgaaDoor
