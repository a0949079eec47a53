/- A log's object in memory; the walks of the smallest of its functions. -/
import Derived.Test.YtpeehagaiofobaaDoorWalP
import Derived.Test.YtpeehagaiofobaaDoorWalIn
import Derived.Test.YtpeehagaiofobaaDoorWalImg
import Derived.Test.YtpeehagaiofobaaDoorZeros
namespace Go.Proofs.YtpeehagaiofobaaDoor
open Go.RowKit

theorem seq_ldd {o : Oper} {x : Operand} {a : Act} {w : World} (ho : o.op = .load 24 x) {ad : Addr} {v : Value} (hx : a.eval x = .pointer (some ad)) (hc : w.cell? ad = some v) :
    ∀ w', Below w.heap.size w w' → (execOp a.eval o).run Tryd.prog w' = .ok (.value v) w' := by
  intro w' hb
  have hc' : w'.cell? ad = some v := (World.cell?_of_block (hb.block ad.block (World.block_lt_of_cell? (a := ad) w hc))).trans hc
  have hu := Tryd.underlying24
  unfold execOp
  simp only [ho, hx]
  go_simp
theorem seq_ldl {o : Oper} {x : Operand} {a : Act} {w : World} (ho : o.op = .load 30 x) {ad : Addr} {v : Value} (hx : a.eval x = .pointer (some ad)) (hc : w.cell? ad = some v) :
    ∀ w', Below w.heap.size w w' → (execOp a.eval o).run Tryd.prog w' = .ok (.value v) w' := by
  intro w' hb
  have hc' : w'.cell? ad = some v := (World.cell?_of_block (hb.block ad.block (World.block_lt_of_cell? (a := ad) w hc))).trans hc
  have hu := Tryd.underlying30
  unfold execOp
  simp only [ho, hx]
  go_simp

/-- A log's object. -/
structure LS where
  f : Nat
  cnt : Nat
  age : Nat
  next : Nat
  at_ : Nat
def LogAt (w : World) (g d : Nat) (l : LS) : Prop := w.heap[g]? = some (.cells #[.pointer (some ⟨d, 0, none⟩), .int .i64 (l.f : Int), .int .i64 (l.cnt : Int), .int .i64 (l.age : Int), .int .i64 (l.next : Int), .int .i64 (l.at_ : Int)] 60 (0, 0))
/-- A place, as a value. -/
def placeV (d f cnt : Nat) : Value := .agg #[.pointer (some ⟨d, 0, none⟩), .int .i64 (f : Int), .int .i64 (cnt : Int)]
theorem LogAt.keeps {X : Nat → Prop} {w w' : World} {g d : Nat} {l : LS} (h : LogAt w g d l) (hk : Keeps X w w') (hX : ¬ X g) : LogAt w' g d l := (hk.block g (Array.getElem?_eq_some_iff.1 h).1 hX).trans h
theorem LogAt.below {w w' : World} {g d : Nat} {l : LS} (h : LogAt w g d l) (hb : Below w.heap.size w w') : LogAt w' g d l := (hb.block g (Array.getElem?_eq_some_iff.1 h).1).trans h
theorem LogAt.lt {w : World} {g d : Nat} {l : LS} (h : LogAt w g d l) : g < w.heap.size := (Array.getElem?_eq_some_iff.1 h).1
theorem LogAt.cells {w : World} {g d : Nat} {l : LS} (h : LogAt w g d l) : w.cell? ⟨g, 0, none⟩ = some (.pointer (some ⟨d, 0, none⟩)) ∧ w.cell? ⟨g, 1, none⟩ = some (.int .i64 (l.f : Int)) ∧ w.cell? ⟨g, 2, none⟩ = some (.int .i64 (l.cnt : Int)) ∧
    w.cell? ⟨g, 3, none⟩ = some (.int .i64 (l.age : Int)) ∧ w.cell? ⟨g, 4, none⟩ = some (.int .i64 (l.next : Int)) ∧ w.cell? ⟨g, 5, none⟩ = some (.int .i64 (l.at_ : Int)) :=
  ⟨cell_of_row _ g 0 _ _ (0, 0) h, cell_of_row _ g 1 _ _ (0, 0) h, cell_of_row _ g 2 _ _ (0, 0) h, cell_of_row _ g 3 _ _ (0, 0) h, cell_of_row _ g 4 _ _ (0, 0) h, cell_of_row _ g 5 _ _ (0, 0) h⟩
theorem LogAt.fz {w : World} {g d : Nat} {l : LS} (h : LogAt w g d l) (j : Nat) : w.frozen? ⟨g, j, none⟩ = false := frozen_of_row w g j _ _ h
theorem LogAt.drew {w : World} {g d : Nat} {l : LS} (h : LogAt w g d l) : LogAt w.drew g d l := h

/-- The load of a place, in a region that draws. -/
theorem seq_ldp {o : Oper} {x : Operand} {a : Act} {w : World} (ho : o.op = .load 55 x) {g d : Nat} {l : LS} (hx : a.eval x = .pointer (some ⟨g, 0, none⟩)) (hl : LogAt w g d l) :
    ∀ w', Below w.heap.size w w' → (execOp a.eval o).run Tryd.prog w' = .ok (.value (placeV d l.f l.cnt)) w' := by
  intro w' hb
  obtain ⟨c0, c1, c2, _⟩ := (hl.below hb).cells
  have hu := Tryd.underlying55
  unfold execOp placeV
  simp only [ho, hx]
  go_simp

theorem need_any (n : Nat) (hn : n ≤ 1000000000) (w : World) : Calls Tryd.prog 25 #[.int .i64 (n : Int)] w (fun e w' => e = .returned (.int .i64 (needN n : Int)) ∧ w = w') := by
  have e : (1 : Int) + ((n : Int) + 511 - 1) / 511 = (needN n : Int) := by unfold needN nparts; omega
  have HE := Lib.hid e
  clear e
  go_enter Tryd.func25, Tryd.ntmps25
  go_wp2_with fail
  go_ret
  refine ⟨?_, rfl⟩
  rw [← HE.out]
  rfl

theorem count_any {B : Nat} {M I : Nat → Prop} {d : Nat} {s : DS} (w : World) (h : DiskAt B w M I d s) :
    Calls Tryd.prog 35 #[.pointer (some ⟨d, 0, none⟩)] w (fun e w' => e = .returned (.int .i64 (s.L.length : Int)) ∧ w = w') := by
  obtain ⟨lb, lcap, mb, wo, wcap, c0, _⟩ := h.cells
  generalize s.L.length = k at *
  clear h
  go_enter Tryd.func35, Tryd.ntmps35
  go_wp2_with fail
  go_returns
  exact ⟨rfl, rfl⟩

/-- How many bytes there is room for. -/
def roomP (l : LS) : Int := if l.cnt ≤ l.at_ then -1 else ((l.cnt - l.at_ - 1 : Nat) : Int) * 511
end Go.Proofs.YtpeehagaiofobaaDoor
