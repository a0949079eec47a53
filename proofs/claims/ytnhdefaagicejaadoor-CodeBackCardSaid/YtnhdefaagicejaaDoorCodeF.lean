/- The walk of fits: a step's numbers, at a height. -/
import Derived.Test.YtnhdefaagicejaaDoorCodeN
import Derived.Deep.CutBlock
namespace Go.Proofs.YtnhdefaagicejaaDoor
set_option linter.unusedSimpArgs false
set_option linter.unusedVariables false
open Go.RowKit

/-- A float's bytes. -/
def flC (t : List UInt8) : Bool := decide (t.length = 8) && floatOk t
set_option maxRecDepth 100000 in
set_option maxHeartbeats 1000000 in
theorem cfloat_any (t : List UInt8) (ht : t.length ≤ 1000000) (w : World) :
    Calls Tryd.prog 53 #[.string ⟨t.toArray⟩] w (fun e w' => e = .returned (.bool (flC t)) ∧ w = w') := by
  have hsz : (ByteArray.mk t.toArray).size = t.length := by rw [ByteArray.size]; simp
  have HS := Lib.hid (fun k (hk : k < t.length) => show bits .or .u64 (IntKind.u64.wrap (fbits (t.take k) * 256)) (IntKind.u64.wrap ((t[k]).toNat : Int)) = fbits (t.take (k + 1)) from by
    rw [List.take_succ_eq_append_getElem hk]
    unfold fbits
    rw [List.foldl_append]
    rfl)
  go_enter Tryd.func53, Tryd.ntmps53
  go_wp2_with fail
  go_loopw [3, 7] (fun v3 v7 wr => ∃ k : Nat, k ≤ t.length ∧ v7 = .int .i64 (k : Int) ∧ v3 = .int .u64 (fbits (t.take k)) ∧ wr = w) (fun _ v7 _ => t.length - (intOf v7).toNat)
  case atStart => exact ⟨0, by omega, rfl, rfl, rfl⟩
  case round =>
    obtain ⟨k, hk, rfl, rfl, rfl⟩ := hrel
    by_cases hlt : k < t.length
    · have hd1 : decide ((k : Int) < (t.length : Int)) = true := decide_eq_true (by omega)
      have hidx : (ByteArray.mk t.toArray)[k]'(by omega) = t[k] := by
        show t.toArray[k] = t[k]
        simp
      go_wp2_with fail
      go_roundw
      case rel => exact ⟨k + 1, by omega, by simp, by rw [HS.out k hlt], trivial⟩
      case measure => simp [intOf]; omega
    · obtain rfl : k = t.length := by omega
      rw [List.take_length]
      have hd1 : decide ((t.length : Int) < (t.length : Int)) = false := decide_eq_false (by omega)
      by_cases h8 : t.length = 8
      · have h8' : ((t.length : Int) == 8) = true := by simp [h8]
        obtain ⟨n, hn⟩ : ∃ n, fbits t = n := ⟨_, rfl⟩
        have HF := Lib.hid (show flC t = (ofM n.toNat == n) by unfold flC floatOk; rw [hn, h8]; rfl)
        rw [hn]
        clear hn HS
        go_wp2_with fail
        refine (go_any n wr).mono ?_
        rintro e w1 ⟨rfl, rfl⟩
        go_wp2_with fail
        refine (of_any n.toNat wr).mono ?_
        rintro e w1 ⟨rfl, rfl⟩
        go_wp2_with fail
        go_ret
        exact ⟨by rw [HF.out]; rfl, rfl⟩
      · have h8' : ((t.length : Int) == 8) = false := by simp; omega
        have HF := Lib.hid (show flC t = false by unfold flC; simp [h8])
        go_wp2_with fail
        go_ret
        exact ⟨by rw [HF.out]; rfl, rfl⟩
/-- What fits answers. -/
def Fits (w : World) (r : Bool × Int) (e : Ending) (w' : World) : Prop := ∃ z, e = .returned (.tuple #[.bool r.1, .int .i64 z]) ∧ (r.1 = true → z = r.2) ∧ Below w.heap.size w w'
/-- A step's cells. -/
def InCell (w : World) (g : Nat) (op a b : Int) : Prop := w.cell? ⟨g, 0, none⟩ = some (.int .i64 op) ∧ w.cell? ⟨g, 1, none⟩ = some (.int .i64 a) ∧ w.cell? ⟨g, 2, none⟩ = some (.int .i64 b)
theorem InCell.below {w w' : World} {g : Nat} {op a b : Int} (hc : InCell w g op a b) (hb : Below w.heap.size w w') : InCell w' g op a b := by
  have hl := World.block_lt_of_cell? (a := ⟨g, 0, none⟩) w hc.1
  exact ⟨(World.cell?_of_block (hb.block g hl)).trans hc.1, (World.cell?_of_block (hb.block g hl)).trans hc.2.1, (World.cell?_of_block (hb.block g hl)).trans hc.2.2⟩
theorem InCell.new (w : World) (op a b : Int) : InCell (w.alloc (.cells #[.int .i64 op, .int .i64 a, .int .i64 b] 50)) w.heap.size op a b := by
  have hrow : (w.alloc (.cells #[.int .i64 op, .int .i64 a, .int .i64 b] 50)).heap[w.heap.size]? = _ := heap_alloc_new w _
  exact ⟨cell_of_row _ _ 0 _ _ (0, 0) hrow, cell_of_row _ _ 1 _ _ (0, 0) hrow, cell_of_row _ _ 2 _ _ (0, 0) hrow⟩
theorem seq_ldII {o : Oper} {x : Operand} {a : Act} {w : World} (ho : o.op = .load 22 x) {ad : Addr} {v : Value} (hx : a.eval x = .pointer (some ad)) (hc : w.cell? ad = some v) :
    ∀ w', Below w.heap.size w w' → (execOp a.eval o).run Tryd.prog w' = .ok (.value v) w' := by
  intro w' hb
  have hc' := (World.cell?_of_block (hb.block ad.block (World.block_lt_of_cell? (a := ad) w hc))).trans hc
  have hu := Tryd.underlying22
  unfold execOp
  simp only [ho, hx]
  go_simp
theorem seq_ldSS {o : Oper} {x : Operand} {a : Act} {w : World} (ho : o.op = .load 24 x) {ad : Addr} {v : Value} (hx : a.eval x = .pointer (some ad)) (hc : w.cell? ad = some v) :
    ∀ w', Below w.heap.size w w' → (execOp a.eval o).run Tryd.prog w' = .ok (.value v) w' := by
  intro w' hb
  have hc' := (World.cell?_of_block (hb.block ad.block (World.block_lt_of_cell? (a := ad) w hc))).trans hc
  have hu := Tryd.underlying24
  unfold execOp
  simp only [ho, hx]
  go_simp
set_option maxRecDepth 100000 in
set_option maxHeartbeats 20000000 in
theorem fits_any {B : Nat} {A : Nat → Prop} {w : World} {c : CodeP} {L : List Int} {s : CS} {wo : Option Addr} {S : Int → Option FrP} {W : List Int} (hc : ChkAt B A w c L s wo S W) (hp : Pre c) (hL : L.length = c.funs.length) (hLr : ∀ z ∈ L, R64i z)
    (x : InsP) (hx : R64i x.a ∧ R64i x.b) (hop0 : 0 ≤ x.op) (hop1 : x.op ≤ 28) (f : FrP) (hh0 : 0 ≤ f.h) (hh1 : f.h ≤ 10000) (hfn : f.fn < c.funs.length) (hol : f.op.length ≤ 1000000) (v : Value) (O : Nat → Prop) (hv : FrV w O v f) :
    Calls Tryd.prog 46 #[.pointer (some ⟨s.cb, 0, none⟩), .agg #[.int .i64 x.op, .int .i64 x.a, .int .i64 x.b], v] w (Fits w (fitsP flC c L x f)) := by
  obtain ⟨oo, ocap, rfl, v2, v3, v4, _⟩ := hv
  obtain ⟨op, a, b⟩ := x
  obtain ⟨fn, h, o⟩ := f
  simp only at *
  obtain ⟨⟨ha0, ha1⟩, hb0, hb1⟩ := hx
  obtain ⟨W1, hW1⟩ : ∃ W1, (w.alloc (.cells #[.int .i64 op, .int .i64 a, .int .i64 b] 50)).alloc (.cells #[.int .i64 (fn : Int), .int .i64 h, .slice oo o.length ocap] 87) = W1 := ⟨_, rfl⟩
  have hbw : Below w.heap.size w W1 := by rw [← hW1]; exact ((Below.refl _ w).alloc (Nat.le_refl _) _).alloc (by simp) _
  have hci : InCell W1 w.heap.size op a b := by rw [← hW1]; exact (InCell.new w op a b).below ((Below.refl _ _).alloc (Nat.le_refl _) _)
  have hcf : FrCell W1 (w.heap.size + 1) fn h oo o.length ocap := by
    rw [← hW1]
    have := FrCell.new (w.alloc (.cells #[.int .i64 op, .int .i64 a, .int .i64 b] 50)) fn h oo o.length ocap
    simpa using this
  have hck := hc.below hbw
  obtain ⟨wcap, hrow, _⟩ := hck.row
  have c0 : W1.cell? ⟨s.cb, 0, none⟩ = some (.slice s.io c.ins.length s.icap) := cell_of_row _ _ 0 _ _ (0, 0) hrow
  have c1 : W1.cell? ⟨s.cb, 1, none⟩ = some (.slice s.so c.strs.length s.scap) := cell_of_row _ _ 1 _ _ (0, 0) hrow
  have c2 : W1.cell? ⟨s.cb, 2, none⟩ = some (.slice s.fo c.funs.length s.fcap) := cell_of_row _ _ 2 _ _ (0, 0) hrow
  have c3 : W1.cell? ⟨s.cb, 3, none⟩ = some (.int .i64 c.glob) := cell_of_row _ _ 3 _ _ (0, 0) hrow
  have c4 : W1.cell? ⟨s.cb, 4, none⟩ = some (.slice s.lo L.length s.lcap) := cell_of_row _ _ 4 _ _ (0, 0) hrow
  have H1 := Lib.hid (And.intro hbw (And.intro hci (And.intro hcf (And.intro (And.intro c0 (And.intro c1 (And.intro c2 (And.intro c3 c4)))) (And.intro hck.code (And.intro hck.frees (v4.below hbw)))))))
  have HB0 := Lib.hid hbw
  have hsl := hp.s
  have hfl := hp.f2
  have hg1 := hp.g1
  have hg2 := hp.g2
  have HP := Lib.hid hp
  have HLR := Lib.hid hLr
  have f1 := hcf.2.1
  clear hbw hci hcf hrow c0 c1 c2 c3 c4 hck v4 hc hp hLr
  go_enter Tryd.func46, Tryd.ntmps46
  go_wp2_with fail
  clear hW1 f1
  obtain ⟨gi, hgi⟩ : ∃ gi, w.heap.size = gi := ⟨_, rfl⟩
  rw [hgi] at H1 ⊢
  refine seq_start (by kernel_rfl) ?_
  refine seq_take 0 (v := ?_) rfl (by kernel_rfl) (fun _ _ _ h => h) (by rfl) (fun w' hw' => ?_) ?_
  rotate_left
  · go_simp; try with_reducible rfl
  try simp only [List.getElem_toArray, List.getElem_cons_succ, List.getElem_cons_zero, Act.put, List.setIfInBounds_toArray, List.set_cons_zero, List.set_cons_succ]
  refine seq_take 1 rfl (by kernel_rfl) (fun _ _ _ h => h) (by rfl) (seq_ldi rfl rfl ((show W1.drew.cell? ⟨gi, 1, none⟩ = _ from H1.out.2.1.2.1))) ?_
  try simp only [List.getElem_toArray, List.getElem_cons_succ, List.getElem_cons_zero, Act.put, List.setIfInBounds_toArray, List.set_cons_zero, List.set_cons_succ]
  refine seq_take 2 (v := ?_) rfl (by kernel_rfl) (fun _ _ _ h => h) (by rfl) (fun w' hw' => ?_) ?_
  rotate_left
  · go_simp; try with_reducible rfl
  try simp only [List.getElem_toArray, List.getElem_cons_succ, List.getElem_cons_zero, Act.put, List.setIfInBounds_toArray, List.set_cons_zero, List.set_cons_succ]
  refine seq_take 3 (v := ?_) rfl (by kernel_rfl) (fun _ _ _ h => h) (by rfl) (fun w' hw' => ?_) ?_
  rotate_left
  · go_simp; try with_reducible rfl
  try simp only [List.getElem_toArray, List.getElem_cons_succ, List.getElem_cons_zero, Act.put, List.setIfInBounds_toArray, List.set_cons_zero, List.set_cons_succ]
  refine seq_take 4 (v := ?_) rfl (by kernel_rfl) (fun _ _ _ h => h) (by rfl) (fun w' hw' => ?_) ?_
  rotate_left
  · go_simp; try with_reducible rfl
  try simp only [List.getElem_toArray, List.getElem_cons_succ, List.getElem_cons_zero, Act.put, List.setIfInBounds_toArray, List.set_cons_zero, List.set_cons_succ]
  refine seq_take 5 (v := ?_) rfl (by kernel_rfl) (fun _ _ _ h => h) (by rfl) (fun w' hw' => ?_) ?_
  rotate_left
  · go_simp; try with_reducible rfl
  try simp only [List.getElem_toArray, List.getElem_cons_succ, List.getElem_cons_zero, Act.put, List.setIfInBounds_toArray, List.set_cons_zero, List.set_cons_succ]
  refine seq_take 6 rfl (by kernel_rfl) (fun _ _ _ h => h) (by rfl) (seq_ldSS rfl rfl (show W1.drew.cell? ⟨s.cb, 1, none⟩ = _ from H1.out.2.2.2.1.2.1)) ?_
  try simp only [List.getElem_toArray, List.getElem_cons_succ, List.getElem_cons_zero, Act.put, List.setIfInBounds_toArray, List.set_cons_zero, List.set_cons_succ]
  refine seq_take 7 (v := ?_) rfl (by kernel_rfl) (fun _ _ _ h => h) (by rfl) (fun w' hw' => ?_) ?_
  rotate_left
  · go_simp; try with_reducible rfl
  try simp only [List.getElem_toArray, List.getElem_cons_succ, List.getElem_cons_zero, Act.put, List.setIfInBounds_toArray, List.set_cons_zero, List.set_cons_succ]
  refine seq_take 8 (v := ?_) rfl (by kernel_rfl) (fun _ _ _ h => h) (by rfl) (fun w' hw' => ?_) ?_
  rotate_left
  · go_simp; try with_reducible rfl
  try simp only [List.getElem_toArray, List.getElem_cons_succ, List.getElem_cons_zero, Act.put, List.setIfInBounds_toArray, List.set_cons_zero, List.set_cons_succ]
  refine seq_run 9 rfl (by kernel_rfl) (by rfl) (fun KK hKK => ?_)
  go_wp2_with fail
  refine (within_any a 0 ((c.strs.length : Int) - 1) W1.drew).mono ?_
  rintro e w2 ⟨rfl, rfl⟩
  go_wp2_with fail
  refine ⟨Below.refl _ _, ?_⟩
  refine seq_take 10 (v := ?_) rfl (by kernel_rfl) (fun _ _ _ h => h) (by rfl) (fun w' hw' => ?_) ?_
  rotate_left
  · go_simp; try with_reducible rfl
  try simp only [List.getElem_toArray, List.getElem_cons_succ, List.getElem_cons_zero, Act.put, List.setIfInBounds_toArray, List.set_cons_zero, List.set_cons_succ]
  refine seq_done (by kernel_rfl) ?_
  go_wp2_with fail
  have hI : (wrap63 a == a) = int63 a := by
    unfold int63
    rw [Bool.eq_iff_iff, beq_iff_eq, wrap63_iff, decide_eq_true_iff]
  have hI2 : decide (wrap63 a = a) = int63 a := by
    unfold int63
    rw [Bool.eq_iff_iff, decide_eq_true_iff, wrap63_iff, decide_eq_true_iff]
  refine seq_start (by kernel_rfl) ?_
  refine seq_take 0 (v := ?_) rfl (by kernel_rfl) (fun _ _ _ h => h) (by rfl) (fun w' hw' => ?_) ?_
  rotate_left
  · go_simp; try with_reducible rfl
  try simp only [List.getElem_toArray, List.getElem_cons_succ, List.getElem_cons_zero, Act.put, List.setIfInBounds_toArray, List.set_cons_zero, List.set_cons_succ]
  refine seq_take 1 rfl (by kernel_rfl) (fun _ _ _ h => h) (by rfl) (seq_ldi rfl rfl ((show W1.drew.drew.cell? ⟨gi, 1, none⟩ = _ from H1.out.2.1.2.1))) ?_
  try simp only [List.getElem_toArray, List.getElem_cons_succ, List.getElem_cons_zero, Act.put, List.setIfInBounds_toArray, List.set_cons_zero, List.set_cons_succ]
  refine seq_take 3 (v := ?_) rfl (by kernel_rfl) (fun _ _ _ h => h) (by rfl) (fun w' hw' => ?_) ?_
  rotate_left
  · go_simp; try with_reducible rfl
  try simp only [List.getElem_toArray, List.getElem_cons_succ, List.getElem_cons_zero, Act.put, List.setIfInBounds_toArray, List.set_cons_zero, List.set_cons_succ]
  refine seq_take 4 rfl (by kernel_rfl) (fun _ _ _ h => h) (by rfl) (seq_ldi rfl rfl ((show W1.drew.drew.cell? ⟨gi, 1, none⟩ = _ from H1.out.2.1.2.1))) ?_
  try simp only [List.getElem_toArray, List.getElem_cons_succ, List.getElem_cons_zero, Act.put, List.setIfInBounds_toArray, List.set_cons_zero, List.set_cons_succ]
  refine seq_run 2 rfl (by kernel_rfl) (by rfl) (fun KK hKK => ?_)
  go_wp2_with fail
  refine (wrap_any a W1.drew.drew).mono ?_
  rintro e w2 ⟨rfl, rfl⟩
  go_wp2_with fail
  refine ⟨Below.refl _ _, ?_⟩
  refine seq_take 5 (v := ?_) rfl (by kernel_rfl) (fun _ _ _ h => h) (by rfl) (fun w' hw' => ?_) ?_
  rotate_left
  · go_simp; try with_reducible rfl
  try simp only [List.getElem_toArray, List.getElem_cons_succ, List.getElem_cons_zero, Act.put, List.setIfInBounds_toArray, List.set_cons_zero, List.set_cons_succ]
  refine seq_take 6 (v := ?_) rfl (by kernel_rfl) (fun _ _ _ h => h) (by rfl) (fun w' hw' => ?_) ?_
  rotate_left
  · go_simp; try with_reducible rfl
  try simp only [List.getElem_toArray, List.getElem_cons_succ, List.getElem_cons_zero, Act.put, List.setIfInBounds_toArray, List.set_cons_zero, List.set_cons_succ]
  refine seq_done (by kernel_rfl) ?_
  obtain ⟨W3, hW3⟩ : ∃ W3, W1.drew.drew = W3 := ⟨_, rfl⟩
  rw [hW3]
  obtain ⟨T, hT⟩ : ∃ T, betw a 0 ((c.strs.length : Int) - 1) = T := ⟨_, rfl⟩
  obtain ⟨I, hIn⟩ : ∃ I, int63 a = I := ⟨_, rfl⟩
  rw [hIn] at hI hI2
  have hbw3 : Below W1.heap.size W1 W3 := by rw [← hW3]; exact (Below.refl _ W1).drew.drew
  have e0 : W3.cell? ⟨gi, 0, none⟩ = some (.int .i64 op) := by rw [← hW3]; exact H1.out.2.1.1
  have H3 := Lib.hid (And.intro (HB0.out.trans (hbw3.mono HB0.out.size)) (And.intro (H1.out.2.1.below hbw3) (And.intro (H1.out.2.2.1.below hbw3) (And.intro (H1.out.2.2.2.2.1.below hbw3) (And.intro (H1.out.2.2.2.2.2.1.below hbw3) (H1.out.2.2.2.2.2.2.below hbw3))))))
  have HCB := Lib.hid (show W3.cell? ⟨s.cb, 1, none⟩ = some (.slice s.so c.strs.length s.scap) ∧ W3.cell? ⟨s.cb, 2, none⟩ = some (.slice s.fo c.funs.length s.fcap) ∧ W3.cell? ⟨s.cb, 3, none⟩ = some (.int .i64 c.glob) ∧ W3.cell? ⟨s.cb, 4, none⟩ = some (.slice s.lo L.length s.lcap) from by rw [← hW3]; exact H1.out.2.2.2.1.2)
  have HTI := Lib.hid (And.intro hT (And.intro hIn (And.intro hI hI2)))
  rw [hT, hIn]
  clear hW3 hbw3 hT hIn hI hI2 hgi
  go_upto_block 0 with (fail)
  clear e0
  have hcs := op_cases hop0 hop1
  clear hop0 hop1
  rcases hcs with rfl | rfl | rfl | rfl | rfl | rfl | rfl | rfl | rfl | rfl | rfl | rfl | rfl | rfl | rfl | rfl | rfl | rfl | rfl | rfl | rfl | rfl | rfl | rfl | rfl | rfl | rfl | rfl | rfl
  · skip
    go_wp2_with fail
    go_returns
    exact ⟨1, by rw [← HTI.out.2.1]; rfl, fun _ => rfl, H3.out.1⟩
  · skip
    go_wp2_with fail
    go_returns
    exact ⟨1, by rw [← HTI.out.1]; rfl, fun _ => rfl, H3.out.1⟩
  · skip
    cases T with
    | false =>
      go_wp2_with fail
      refine seq_start (by kernel_rfl) ?_
      refine seq_take 0 (v := ?_) rfl (by kernel_rfl) (fun _ _ _ h => h) (by rfl) (fun w' hw' => ?_) ?_
      rotate_left
      · go_simp; try with_reducible rfl
      try simp only [List.getElem_toArray, List.getElem_cons_succ, List.getElem_cons_zero, Act.put, List.setIfInBounds_toArray, List.set_cons_zero, List.set_cons_succ]
      refine seq_take 1 (v := ?_) rfl (by kernel_rfl) (fun _ _ _ h => h) (by rfl) (fun w' hw' => ?_) ?_
      rotate_left
      · go_simp; try with_reducible rfl
      try simp only [List.getElem_toArray, List.getElem_cons_succ, List.getElem_cons_zero, Act.put, List.setIfInBounds_toArray, List.set_cons_zero, List.set_cons_succ]
      refine seq_skip 2 rfl (by kernel_rfl) (fun _ _ _ h => h) (by rfl) ?_
      try simp only [List.getElem_toArray, List.getElem_cons_succ, List.getElem_cons_zero, Act.put, List.setIfInBounds_toArray, List.set_cons_zero, List.set_cons_succ]
      refine seq_skip 3 rfl (by kernel_rfl) (fun _ _ _ h => h) (by rfl) ?_
      try simp only [List.getElem_toArray, List.getElem_cons_succ, List.getElem_cons_zero, Act.put, List.setIfInBounds_toArray, List.set_cons_zero, List.set_cons_succ]
      refine seq_skip 4 rfl (by kernel_rfl) (fun _ _ _ h => h) (by rfl) ?_
      try simp only [List.getElem_toArray, List.getElem_cons_succ, List.getElem_cons_zero, Act.put, List.setIfInBounds_toArray, List.set_cons_zero, List.set_cons_succ]
      refine seq_skip 5 rfl (by kernel_rfl) (fun _ _ _ h => h) (by rfl) ?_
      try simp only [List.getElem_toArray, List.getElem_cons_succ, List.getElem_cons_zero, Act.put, List.setIfInBounds_toArray, List.set_cons_zero, List.set_cons_succ]
      refine seq_skip 6 rfl (by kernel_rfl) (fun _ _ _ h => h) (by rfl) ?_
      try simp only [List.getElem_toArray, List.getElem_cons_succ, List.getElem_cons_zero, Act.put, List.setIfInBounds_toArray, List.set_cons_zero, List.set_cons_succ]
      refine seq_skip 7 rfl (by kernel_rfl) (fun _ _ _ h => h) (by rfl) ?_
      try simp only [List.getElem_toArray, List.getElem_cons_succ, List.getElem_cons_zero, Act.put, List.setIfInBounds_toArray, List.set_cons_zero, List.set_cons_succ]
      refine seq_skip 8 rfl (by kernel_rfl) (fun _ _ _ h => h) (by rfl) ?_
      try simp only [List.getElem_toArray, List.getElem_cons_succ, List.getElem_cons_zero, Act.put, List.setIfInBounds_toArray, List.set_cons_zero, List.set_cons_succ]
      refine seq_skip 9 rfl (by kernel_rfl) (fun _ _ _ h => h) (by rfl) ?_
      try simp only [List.getElem_toArray, List.getElem_cons_succ, List.getElem_cons_zero, Act.put, List.setIfInBounds_toArray, List.set_cons_zero, List.set_cons_succ]
      refine seq_skip 10 rfl (by kernel_rfl) (fun _ _ _ h => h) (by rfl) ?_
      try simp only [List.getElem_toArray, List.getElem_cons_succ, List.getElem_cons_zero, Act.put, List.setIfInBounds_toArray, List.set_cons_zero, List.set_cons_succ]
      refine seq_skip 11 rfl (by kernel_rfl) (fun _ _ _ h => h) (by rfl) ?_
      try simp only [List.getElem_toArray, List.getElem_cons_succ, List.getElem_cons_zero, Act.put, List.setIfInBounds_toArray, List.set_cons_zero, List.set_cons_succ]
      refine seq_take 12 (v := ?_) rfl (by kernel_rfl) (fun _ _ _ h => h) (by rfl) (fun w' hw' => ?_) ?_
      rotate_left
      · go_simp; try with_reducible rfl
      try simp only [List.getElem_toArray, List.getElem_cons_succ, List.getElem_cons_zero, Act.put, List.setIfInBounds_toArray, List.set_cons_zero, List.set_cons_succ]
      refine seq_take 13 (v := ?_) rfl (by kernel_rfl) (fun _ _ _ h => h) (by rfl) (fun w' hw' => ?_) ?_
      rotate_left
      · go_simp; try with_reducible rfl
      try simp only [List.getElem_toArray, List.getElem_cons_succ, List.getElem_cons_zero, Act.put, List.setIfInBounds_toArray, List.set_cons_zero, List.set_cons_succ]
      refine seq_take 14 (v := ?_) rfl (by kernel_rfl) (fun _ _ _ h => h) (by rfl) (fun w' hw' => ?_) ?_
      rotate_left
      · go_simp; try with_reducible rfl
      try simp only [List.getElem_toArray, List.getElem_cons_succ, List.getElem_cons_zero, Act.put, List.setIfInBounds_toArray, List.set_cons_zero, List.set_cons_succ]
      refine seq_done (by kernel_rfl) ?_
      go_wp2_with fail
      go_returns
      exact ⟨1, by rw [show (fitsP flC c L ⟨2, a, b⟩ ⟨fn, h, o⟩).1 = false from by show (betw a 0 ((c.strs.length : Int) - 1) && _) = false; rw [HTI.out.1]; rfl]; rfl, fun _ => rfl, H3.out.1.drew⟩
    | true =>
      have hin := of_decide_eq_true HTI.out.1
      obtain ⟨k, rfl⟩ : ∃ k : Nat, a = (k : Int) := ⟨a.toNat, by omega⟩
      have hk : k < c.strs.length := by omega
      obtain ⟨sb, sf, hso, hsc⟩ := H3.out.2.2.2.1.strs.exv k (by simpa [strCells] using hk)
      have hse : (strCells c.strs)[k]'(by simpa [strCells] using hk) = .string ⟨(c.strs[k]).toArray⟩ := by simp [strCells]
      rw [hse] at hsc
      have hsl4 := HP.out.str _ (List.getElem_mem hk)
      have HF := Lib.hid (show fitsP flC c L ⟨2, (k : Int), b⟩ ⟨fn, h, o⟩ = (flC c.strs[k], 1) from by
        show (betw (k : Int) 0 ((c.strs.length : Int) - 1) && flC (c.strs.getD ((k : Int)).toNat []), (1 : Int)) = _
        rw [HTI.out.1, Int.toNat_natCast, List.getD_eq_getElem?_getD, List.getElem?_eq_getElem hk]; rfl)
      have HSC := Lib.hid (And.intro hso (show W3.drew.cell? ⟨sb, sf + k, none⟩ = _ from hsc))
      generalize c.strs[k] = st at *
      rw [HSC.out.1] at HCB
      clear hso hsc hse
      go_wp2_with fail
      refine seq_start (by kernel_rfl) ?_
      refine seq_take 0 (v := ?_) rfl (by kernel_rfl) (fun _ _ _ h => h) (by rfl) (fun w' hw' => ?_) ?_
      rotate_left
      · go_simp; try with_reducible rfl
      try simp only [List.getElem_toArray, List.getElem_cons_succ, List.getElem_cons_zero, Act.put, List.setIfInBounds_toArray, List.set_cons_zero, List.set_cons_succ]
      refine seq_take 1 (v := ?_) rfl (by kernel_rfl) (fun _ _ _ h => h) (by rfl) (fun w' hw' => ?_) ?_
      rotate_left
      · go_simp; try with_reducible rfl
      try simp only [List.getElem_toArray, List.getElem_cons_succ, List.getElem_cons_zero, Act.put, List.setIfInBounds_toArray, List.set_cons_zero, List.set_cons_succ]
      refine seq_take 2 (v := ?_) rfl (by kernel_rfl) (fun _ _ _ h => h) (by rfl) (fun w' hw' => ?_) ?_
      rotate_left
      · go_simp; try with_reducible rfl
      try simp only [List.getElem_toArray, List.getElem_cons_succ, List.getElem_cons_zero, Act.put, List.setIfInBounds_toArray, List.set_cons_zero, List.set_cons_succ]
      refine seq_take 3 (v := ?_) rfl (by kernel_rfl) (fun _ _ _ h => h) (by rfl) (fun w' hw' => ?_) ?_
      rotate_left
      · go_simp; try with_reducible rfl
      try simp only [List.getElem_toArray, List.getElem_cons_succ, List.getElem_cons_zero, Act.put, List.setIfInBounds_toArray, List.set_cons_zero, List.set_cons_succ]
      refine seq_take 4 (v := ?_) rfl (by kernel_rfl) (fun _ _ _ h => h) (by rfl) (fun w' hw' => ?_) ?_
      rotate_left
      · go_simp; try with_reducible rfl
      try simp only [List.getElem_toArray, List.getElem_cons_succ, List.getElem_cons_zero, Act.put, List.setIfInBounds_toArray, List.set_cons_zero, List.set_cons_succ]
      refine seq_take 5 (v := ?_) rfl (by kernel_rfl) (fun _ _ _ h => h) (by rfl) (fun w' hw' => ?_) ?_
      rotate_left
      · go_simp; try with_reducible rfl
      try simp only [List.getElem_toArray, List.getElem_cons_succ, List.getElem_cons_zero, Act.put, List.setIfInBounds_toArray, List.set_cons_zero, List.set_cons_succ]
      refine seq_take 6 rfl (by kernel_rfl) (fun _ _ _ h => h) (by rfl) (seq_ldSS rfl rfl (show W3.drew.cell? ⟨s.cb, 1, none⟩ = _ from HCB.out.1)) ?_
      try simp only [List.getElem_toArray, List.getElem_cons_succ, List.getElem_cons_zero, Act.put, List.setIfInBounds_toArray, List.set_cons_zero, List.set_cons_succ]
      refine seq_take 7 (v := ?_) rfl (by kernel_rfl) (fun _ _ _ h => h) (by rfl) (fun w' hw' => ?_) ?_
      rotate_left
      · go_simp; try with_reducible rfl
      try simp only [List.getElem_toArray, List.getElem_cons_succ, List.getElem_cons_zero, Act.put, List.setIfInBounds_toArray, List.set_cons_zero, List.set_cons_succ]
      refine seq_take 8 rfl (by kernel_rfl) (fun _ _ _ h => h) (by rfl) (seq_ldi rfl rfl ((show W3.drew.cell? ⟨gi, 1, none⟩ = _ from H3.out.2.1.2.1))) ?_
      try simp only [List.getElem_toArray, List.getElem_cons_succ, List.getElem_cons_zero, Act.put, List.setIfInBounds_toArray, List.set_cons_zero, List.set_cons_succ]
      refine seq_take 9 (v := ?_) rfl (by kernel_rfl) (fun _ _ _ h => h) (by rfl) (fun w' hw' => ?_) ?_
      rotate_left
      · go_simp; try with_reducible rfl
      try simp only [List.getElem_toArray, List.getElem_cons_succ, List.getElem_cons_zero, Act.put, List.setIfInBounds_toArray, List.set_cons_zero, List.set_cons_succ]
      refine seq_take 10 rfl (by kernel_rfl) (fun _ _ _ h => h) (by rfl) (seq_lds rfl rfl (HSC.out.2)) ?_
      try simp only [List.getElem_toArray, List.getElem_cons_succ, List.getElem_cons_zero, Act.put, List.setIfInBounds_toArray, List.set_cons_zero, List.set_cons_succ]
      refine seq_run 11 rfl (by kernel_rfl) (by rfl) (fun KK hKK => ?_)
      go_wp2_with fail
      refine (cfloat_any st (by omega) W3.drew).mono ?_
      rintro e w2 ⟨rfl, rfl⟩
      go_wp2_with fail
      refine ⟨Below.refl _ _, ?_⟩
      refine seq_take 12 (v := ?_) rfl (by kernel_rfl) (fun _ _ _ h => h) (by rfl) (fun w' hw' => ?_) ?_
      rotate_left
      · go_simp; try with_reducible rfl
      try simp only [List.getElem_toArray, List.getElem_cons_succ, List.getElem_cons_zero, Act.put, List.setIfInBounds_toArray, List.set_cons_zero, List.set_cons_succ]
      refine seq_take 13 (v := ?_) rfl (by kernel_rfl) (fun _ _ _ h => h) (by rfl) (fun w' hw' => ?_) ?_
      rotate_left
      · go_simp; try with_reducible rfl
      try simp only [List.getElem_toArray, List.getElem_cons_succ, List.getElem_cons_zero, Act.put, List.setIfInBounds_toArray, List.set_cons_zero, List.set_cons_succ]
      refine seq_take 14 (v := ?_) rfl (by kernel_rfl) (fun _ _ _ h => h) (by rfl) (fun w' hw' => ?_) ?_
      rotate_left
      · go_simp; try with_reducible rfl
      try simp only [List.getElem_toArray, List.getElem_cons_succ, List.getElem_cons_zero, Act.put, List.setIfInBounds_toArray, List.set_cons_zero, List.set_cons_succ]
      refine seq_done (by kernel_rfl) ?_
      go_wp2_with fail
      go_returns
      rw [HF.out]
      exact ⟨1, rfl, fun _ => rfl, H3.out.1.drew⟩
  · skip
    go_wp2_with fail
    go_returns
    exact ⟨1, rfl, fun _ => rfl, H3.out.1⟩
  · skip
    have e1 := H3.out.2.1.2.1
    go_wp2_with fail
    refine (within_any a 0 (h - 1) W3).mono ?_
    rintro e w2 ⟨rfl, rfl⟩
    go_wp2_with fail
    go_returns
    exact ⟨1, rfl, fun _ => rfl, H3.out.1⟩
  · skip
    have hfl5 : fn < L.length := by omega
    obtain ⟨lb, lf, hlo, hlc⟩ := H3.out.2.2.2.2.1.exv fn (by simpa [intsV] using hfl5)
    rw [intsV_get L fn hfl5] at hlc
    have hz := HLR.out L[fn] (List.getElem_mem _)
    have hgd : L.getD fn 0 = L[fn] := by simp [List.getD_eq_getElem?_getD, hfl5]
    obtain ⟨z, hze⟩ : ∃ z, L[fn] = z := ⟨_, rfl⟩
    rw [hze] at hlc hz hgd
    obtain ⟨hz0, hz1⟩ := hz
    have hdec : wrap64 (z - 1) = dec64 z := by unfold wrap64 dec64; split <;> omega
    have HF := Lib.hid (show fitsP flC c L ⟨5, a, b⟩ ⟨fn, h, o⟩ = (betw a 0 (dec64 z), 1) from by show (betw a 0 (dec64 (L.getD fn 0)), (1 : Int)) = _; rw [hgd])
    have HLC := Lib.hid (And.intro hlo (And.intro (show W3.drew.cell? ⟨lb, lf + fn, none⟩ = _ from hlc) hdec))
    rw [HLC.out.1] at HCB
    clear hlo hlc hgd hze hdec
    go_wp2_with fail
    refine seq_start (by kernel_rfl) ?_
    refine seq_take 0 (v := ?_) rfl (by kernel_rfl) (fun _ _ _ h => h) (by rfl) (fun w' hw' => ?_) ?_
    rotate_left
    · go_simp; try with_reducible rfl
    try simp only [List.getElem_toArray, List.getElem_cons_succ, List.getElem_cons_zero, Act.put, List.setIfInBounds_toArray, List.set_cons_zero, List.set_cons_succ]
    refine seq_take 1 rfl (by kernel_rfl) (fun _ _ _ h => h) (by rfl) (seq_ldi rfl rfl ((show W3.drew.cell? ⟨gi, 1, none⟩ = _ from H3.out.2.1.2.1))) ?_
    try simp only [List.getElem_toArray, List.getElem_cons_succ, List.getElem_cons_zero, Act.put, List.setIfInBounds_toArray, List.set_cons_zero, List.set_cons_succ]
    refine seq_take 2 (v := ?_) rfl (by kernel_rfl) (fun _ _ _ h => h) (by rfl) (fun w' hw' => ?_) ?_
    rotate_left
    · go_simp; try with_reducible rfl
    try simp only [List.getElem_toArray, List.getElem_cons_succ, List.getElem_cons_zero, Act.put, List.setIfInBounds_toArray, List.set_cons_zero, List.set_cons_succ]
    refine seq_take 3 (v := ?_) rfl (by kernel_rfl) (fun _ _ _ h => h) (by rfl) (fun w' hw' => ?_) ?_
    rotate_left
    · go_simp; try with_reducible rfl
    try simp only [List.getElem_toArray, List.getElem_cons_succ, List.getElem_cons_zero, Act.put, List.setIfInBounds_toArray, List.set_cons_zero, List.set_cons_succ]
    refine seq_take 4 (v := ?_) rfl (by kernel_rfl) (fun _ _ _ h => h) (by rfl) (fun w' hw' => ?_) ?_
    rotate_left
    · go_simp; try with_reducible rfl
    try simp only [List.getElem_toArray, List.getElem_cons_succ, List.getElem_cons_zero, Act.put, List.setIfInBounds_toArray, List.set_cons_zero, List.set_cons_succ]
    refine seq_take 5 rfl (by kernel_rfl) (fun _ _ _ h => h) (by rfl) (seq_ldII rfl rfl (show W3.drew.cell? ⟨s.cb, 4, none⟩ = _ from HCB.out.2.2.2)) ?_
    try simp only [List.getElem_toArray, List.getElem_cons_succ, List.getElem_cons_zero, Act.put, List.setIfInBounds_toArray, List.set_cons_zero, List.set_cons_succ]
    refine seq_take 6 (v := ?_) rfl (by kernel_rfl) (fun _ _ _ h => h) (by rfl) (fun w' hw' => ?_) ?_
    rotate_left
    · go_simp; try with_reducible rfl
    try simp only [List.getElem_toArray, List.getElem_cons_succ, List.getElem_cons_zero, Act.put, List.setIfInBounds_toArray, List.set_cons_zero, List.set_cons_succ]
    refine seq_take 7 rfl (by kernel_rfl) (fun _ _ _ h => h) (by rfl) (seq_ldi rfl rfl ((show W3.drew.cell? ⟨gi + 1, 0, none⟩ = _ from H3.out.2.2.1.1))) ?_
    try simp only [List.getElem_toArray, List.getElem_cons_succ, List.getElem_cons_zero, Act.put, List.setIfInBounds_toArray, List.set_cons_zero, List.set_cons_succ]
    refine seq_take 8 (v := ?_) rfl (by kernel_rfl) (fun _ _ _ h => h) (by rfl) (fun w' hw' => ?_) ?_
    rotate_left
    · go_simp; try with_reducible rfl
    try simp only [List.getElem_toArray, List.getElem_cons_succ, List.getElem_cons_zero, Act.put, List.setIfInBounds_toArray, List.set_cons_zero, List.set_cons_succ]
    refine seq_take 9 rfl (by kernel_rfl) (fun _ _ _ h => h) (by rfl) (seq_ldi rfl rfl (HLC.out.2.1)) ?_
    try simp only [List.getElem_toArray, List.getElem_cons_succ, List.getElem_cons_zero, Act.put, List.setIfInBounds_toArray, List.set_cons_zero, List.set_cons_succ]
    refine seq_take 10 (v := ?_) rfl (by kernel_rfl) (fun _ _ _ h => h) (by rfl) (fun w' hw' => ?_) ?_
    rotate_left
    · go_simp; try with_reducible rfl
    try simp only [List.getElem_toArray, List.getElem_cons_succ, List.getElem_cons_zero, Act.put, List.setIfInBounds_toArray, List.set_cons_zero, List.set_cons_succ]
    refine seq_run 11 rfl (by kernel_rfl) (by rfl) (fun KK hKK => ?_)
    go_wp2_with fail
    refine (within_any a 0 _ W3.drew).mono ?_
    rintro e w2 ⟨rfl, rfl⟩
    go_wp2_with fail
    refine ⟨Below.refl _ _, ?_⟩
    refine seq_take 12 (v := ?_) rfl (by kernel_rfl) (fun _ _ _ h => h) (by rfl) (fun w' hw' => ?_) ?_
    rotate_left
    · go_simp; try with_reducible rfl
    try simp only [List.getElem_toArray, List.getElem_cons_succ, List.getElem_cons_zero, Act.put, List.setIfInBounds_toArray, List.set_cons_zero, List.set_cons_succ]
    refine seq_take 13 (v := ?_) rfl (by kernel_rfl) (fun _ _ _ h => h) (by rfl) (fun w' hw' => ?_) ?_
    rotate_left
    · go_simp; try with_reducible rfl
    try simp only [List.getElem_toArray, List.getElem_cons_succ, List.getElem_cons_zero, Act.put, List.setIfInBounds_toArray, List.set_cons_zero, List.set_cons_succ]
    refine seq_done (by kernel_rfl) ?_
    go_wp2_with fail
    go_returns
    rw [HF.out]
    refine ⟨1, ?_, fun _ => rfl, H3.out.1.drew⟩
    rw [← HLC.out.2.2]
    rfl
  · skip
    have f0 := H3.out.2.2.1.1
    by_cases hf0 : fn = 0
    · subst hf0
      go_wp2_with fail
      go_returns
      exact ⟨1, rfl, fun _ => rfl, H3.out.1⟩
    · have hd1 : ((fn : Int) != 0) = true := by simp; omega
      have hd2 : (fn != 0) = true := by simp; omega
      have HF := Lib.hid (show fitsP flC c L ⟨6, a, b⟩ ⟨fn, h, o⟩ = (true, 1) from by show (decide (fn ≠ 0), (1 : Int)) = _; rw [decide_eq_true hf0])
      go_wp2_with fail
      go_returns
      rw [HF.out]
      exact ⟨1, rfl, fun _ => rfl, H3.out.1⟩
  · skip
    go_wp2_with fail
    refine seq_start (by kernel_rfl) ?_
    refine seq_take 0 (v := ?_) rfl (by kernel_rfl) (fun _ _ _ h => h) (by rfl) (fun w' hw' => ?_) ?_
    rotate_left
    · go_simp; try with_reducible rfl
    try simp only [List.getElem_toArray, List.getElem_cons_succ, List.getElem_cons_zero, Act.put, List.setIfInBounds_toArray, List.set_cons_zero, List.set_cons_succ]
    refine seq_take 1 rfl (by kernel_rfl) (fun _ _ _ h => h) (by rfl) (seq_ldi rfl rfl ((show W3.drew.cell? ⟨gi, 1, none⟩ = _ from H3.out.2.1.2.1))) ?_
    try simp only [List.getElem_toArray, List.getElem_cons_succ, List.getElem_cons_zero, Act.put, List.setIfInBounds_toArray, List.set_cons_zero, List.set_cons_succ]
    refine seq_take 2 (v := ?_) rfl (by kernel_rfl) (fun _ _ _ h => h) (by rfl) (fun w' hw' => ?_) ?_
    rotate_left
    · go_simp; try with_reducible rfl
    try simp only [List.getElem_toArray, List.getElem_cons_succ, List.getElem_cons_zero, Act.put, List.setIfInBounds_toArray, List.set_cons_zero, List.set_cons_succ]
    refine seq_take 3 (v := ?_) rfl (by kernel_rfl) (fun _ _ _ h => h) (by rfl) (fun w' hw' => ?_) ?_
    rotate_left
    · go_simp; try with_reducible rfl
    try simp only [List.getElem_toArray, List.getElem_cons_succ, List.getElem_cons_zero, Act.put, List.setIfInBounds_toArray, List.set_cons_zero, List.set_cons_succ]
    refine seq_take 4 (v := ?_) rfl (by kernel_rfl) (fun _ _ _ h => h) (by rfl) (fun w' hw' => ?_) ?_
    rotate_left
    · go_simp; try with_reducible rfl
    try simp only [List.getElem_toArray, List.getElem_cons_succ, List.getElem_cons_zero, Act.put, List.setIfInBounds_toArray, List.set_cons_zero, List.set_cons_succ]
    refine seq_take 5 (v := ?_) rfl (by kernel_rfl) (fun _ _ _ h => h) (by rfl) (fun w' hw' => ?_) ?_
    rotate_left
    · go_simp; try with_reducible rfl
    try simp only [List.getElem_toArray, List.getElem_cons_succ, List.getElem_cons_zero, Act.put, List.setIfInBounds_toArray, List.set_cons_zero, List.set_cons_succ]
    refine seq_take 6 rfl (by kernel_rfl) (fun _ _ _ h => h) (by rfl) (seq_ldi rfl rfl ((show W3.drew.cell? ⟨s.cb, 3, none⟩ = _ from HCB.out.2.2.1))) ?_
    try simp only [List.getElem_toArray, List.getElem_cons_succ, List.getElem_cons_zero, Act.put, List.setIfInBounds_toArray, List.set_cons_zero, List.set_cons_succ]
    refine seq_take 7 (v := ?_) rfl (by kernel_rfl) (fun _ _ _ h => h) (by rfl) (fun w' hw' => ?_) ?_
    rotate_left
    · go_simp; try with_reducible rfl
    try simp only [List.getElem_toArray, List.getElem_cons_succ, List.getElem_cons_zero, Act.put, List.setIfInBounds_toArray, List.set_cons_zero, List.set_cons_succ]
    refine seq_run 8 rfl (by kernel_rfl) (by rfl) (fun KK hKK => ?_)
    go_wp2_with fail
    refine (within_any a 0 (c.glob - 1) W3.drew).mono ?_
    rintro e w2 ⟨rfl, rfl⟩
    go_wp2_with fail
    refine ⟨Below.refl _ _, ?_⟩
    refine seq_take 9 (v := ?_) rfl (by kernel_rfl) (fun _ _ _ h => h) (by rfl) (fun w' hw' => ?_) ?_
    rotate_left
    · go_simp; try with_reducible rfl
    try simp only [List.getElem_toArray, List.getElem_cons_succ, List.getElem_cons_zero, Act.put, List.setIfInBounds_toArray, List.set_cons_zero, List.set_cons_succ]
    refine seq_take 10 (v := ?_) rfl (by kernel_rfl) (fun _ _ _ h => h) (by rfl) (fun w' hw' => ?_) ?_
    rotate_left
    · go_simp; try with_reducible rfl
    try simp only [List.getElem_toArray, List.getElem_cons_succ, List.getElem_cons_zero, Act.put, List.setIfInBounds_toArray, List.set_cons_zero, List.set_cons_succ]
    refine seq_done (by kernel_rfl) ?_
    go_wp2_with fail
    go_returns
    exact ⟨1, rfl, fun _ => rfl, H3.out.1.drew⟩
  · skip
    by_cases h1 : 1 ≤ h
    · have hd1 : decide (1 ≤ h) = true := decide_eq_true h1
      have HF := Lib.hid (show fitsP flC c L ⟨8, a, b⟩ ⟨fn, h, o⟩ = (betw a 0 (c.glob - 1), -1) from by show (decide (1 ≤ h) && betw a 0 (c.glob - 1), (-1 : Int)) = _; rw [hd1, Bool.true_and])
      go_wp2_with fail
      refine seq_start (by kernel_rfl) ?_
      refine seq_take 0 (v := ?_) rfl (by kernel_rfl) (fun _ _ _ h => h) (by rfl) (fun w' hw' => ?_) ?_
      rotate_left
      · go_simp; try with_reducible rfl
      try simp only [List.getElem_toArray, List.getElem_cons_succ, List.getElem_cons_zero, Act.put, List.setIfInBounds_toArray, List.set_cons_zero, List.set_cons_succ]
      refine seq_take 1 (v := ?_) rfl (by kernel_rfl) (fun _ _ _ h => h) (by rfl) (fun w' hw' => ?_) ?_
      rotate_left
      · go_simp; try with_reducible rfl
      try simp only [List.getElem_toArray, List.getElem_cons_succ, List.getElem_cons_zero, Act.put, List.setIfInBounds_toArray, List.set_cons_zero, List.set_cons_succ]
      refine seq_take 2 (v := ?_) rfl (by kernel_rfl) (fun _ _ _ h => h) (by rfl) (fun w' hw' => ?_) ?_
      rotate_left
      · go_simp; try with_reducible rfl
      try simp only [List.getElem_toArray, List.getElem_cons_succ, List.getElem_cons_zero, Act.put, List.setIfInBounds_toArray, List.set_cons_zero, List.set_cons_succ]
      refine seq_take 3 (v := ?_) rfl (by kernel_rfl) (fun _ _ _ h => h) (by rfl) (fun w' hw' => ?_) ?_
      rotate_left
      · go_simp; try with_reducible rfl
      try simp only [List.getElem_toArray, List.getElem_cons_succ, List.getElem_cons_zero, Act.put, List.setIfInBounds_toArray, List.set_cons_zero, List.set_cons_succ]
      refine seq_take 4 rfl (by kernel_rfl) (fun _ _ _ h => h) (by rfl) (seq_ldi rfl rfl ((show W3.drew.cell? ⟨gi, 1, none⟩ = _ from H3.out.2.1.2.1))) ?_
      try simp only [List.getElem_toArray, List.getElem_cons_succ, List.getElem_cons_zero, Act.put, List.setIfInBounds_toArray, List.set_cons_zero, List.set_cons_succ]
      refine seq_take 5 (v := ?_) rfl (by kernel_rfl) (fun _ _ _ h => h) (by rfl) (fun w' hw' => ?_) ?_
      rotate_left
      · go_simp; try with_reducible rfl
      try simp only [List.getElem_toArray, List.getElem_cons_succ, List.getElem_cons_zero, Act.put, List.setIfInBounds_toArray, List.set_cons_zero, List.set_cons_succ]
      refine seq_take 6 (v := ?_) rfl (by kernel_rfl) (fun _ _ _ h => h) (by rfl) (fun w' hw' => ?_) ?_
      rotate_left
      · go_simp; try with_reducible rfl
      try simp only [List.getElem_toArray, List.getElem_cons_succ, List.getElem_cons_zero, Act.put, List.setIfInBounds_toArray, List.set_cons_zero, List.set_cons_succ]
      refine seq_take 7 (v := ?_) rfl (by kernel_rfl) (fun _ _ _ h => h) (by rfl) (fun w' hw' => ?_) ?_
      rotate_left
      · go_simp; try with_reducible rfl
      try simp only [List.getElem_toArray, List.getElem_cons_succ, List.getElem_cons_zero, Act.put, List.setIfInBounds_toArray, List.set_cons_zero, List.set_cons_succ]
      refine seq_take 8 (v := ?_) rfl (by kernel_rfl) (fun _ _ _ h => h) (by rfl) (fun w' hw' => ?_) ?_
      rotate_left
      · go_simp; try with_reducible rfl
      try simp only [List.getElem_toArray, List.getElem_cons_succ, List.getElem_cons_zero, Act.put, List.setIfInBounds_toArray, List.set_cons_zero, List.set_cons_succ]
      refine seq_take 9 rfl (by kernel_rfl) (fun _ _ _ h => h) (by rfl) (seq_ldi rfl rfl ((show W3.drew.cell? ⟨s.cb, 3, none⟩ = _ from HCB.out.2.2.1))) ?_
      try simp only [List.getElem_toArray, List.getElem_cons_succ, List.getElem_cons_zero, Act.put, List.setIfInBounds_toArray, List.set_cons_zero, List.set_cons_succ]
      refine seq_take 10 (v := ?_) rfl (by kernel_rfl) (fun _ _ _ h => h) (by rfl) (fun w' hw' => ?_) ?_
      rotate_left
      · go_simp; try with_reducible rfl
      try simp only [List.getElem_toArray, List.getElem_cons_succ, List.getElem_cons_zero, Act.put, List.setIfInBounds_toArray, List.set_cons_zero, List.set_cons_succ]
      refine seq_run 11 rfl (by kernel_rfl) (by rfl) (fun KK hKK => ?_)
      go_wp2_with fail
      refine (within_any a 0 (c.glob - 1) W3.drew).mono ?_
      rintro e w2 ⟨rfl, rfl⟩
      go_wp2_with fail
      refine ⟨Below.refl _ _, ?_⟩
      refine seq_take 12 (v := ?_) rfl (by kernel_rfl) (fun _ _ _ h => h) (by rfl) (fun w' hw' => ?_) ?_
      rotate_left
      · go_simp; try with_reducible rfl
      try simp only [List.getElem_toArray, List.getElem_cons_succ, List.getElem_cons_zero, Act.put, List.setIfInBounds_toArray, List.set_cons_zero, List.set_cons_succ]
      refine seq_take 13 (v := ?_) rfl (by kernel_rfl) (fun _ _ _ h => h) (by rfl) (fun w' hw' => ?_) ?_
      rotate_left
      · go_simp; try with_reducible rfl
      try simp only [List.getElem_toArray, List.getElem_cons_succ, List.getElem_cons_zero, Act.put, List.setIfInBounds_toArray, List.set_cons_zero, List.set_cons_succ]
      refine seq_take 14 (v := ?_) rfl (by kernel_rfl) (fun _ _ _ h => h) (by rfl) (fun w' hw' => ?_) ?_
      rotate_left
      · go_simp; try with_reducible rfl
      try simp only [List.getElem_toArray, List.getElem_cons_succ, List.getElem_cons_zero, Act.put, List.setIfInBounds_toArray, List.set_cons_zero, List.set_cons_succ]
      refine seq_done (by kernel_rfl) ?_
      go_wp2_with fail
      go_returns
      rw [HF.out]
      exact ⟨-1, rfl, fun _ => rfl, H3.out.1.drew⟩
    · have hd1 : decide (1 ≤ h) = false := decide_eq_false h1
      have HF := Lib.hid (show (fitsP flC c L ⟨8, a, b⟩ ⟨fn, h, o⟩) = (false, -1) from by show (decide (1 ≤ h) && betw a 0 (c.glob - 1), (-1 : Int)) = _; rw [hd1, Bool.false_and])
      go_wp2_with fail
      refine seq_start (by kernel_rfl) ?_
      refine seq_take 0 (v := ?_) rfl (by kernel_rfl) (fun _ _ _ h => h) (by rfl) (fun w' hw' => ?_) ?_
      rotate_left
      · go_simp; try with_reducible rfl
      try simp only [List.getElem_toArray, List.getElem_cons_succ, List.getElem_cons_zero, Act.put, List.setIfInBounds_toArray, List.set_cons_zero, List.set_cons_succ]
      refine seq_take 1 (v := ?_) rfl (by kernel_rfl) (fun _ _ _ h => h) (by rfl) (fun w' hw' => ?_) ?_
      rotate_left
      · go_simp; try with_reducible rfl
      try simp only [List.getElem_toArray, List.getElem_cons_succ, List.getElem_cons_zero, Act.put, List.setIfInBounds_toArray, List.set_cons_zero, List.set_cons_succ]
      refine seq_take 2 (v := ?_) rfl (by kernel_rfl) (fun _ _ _ h => h) (by rfl) (fun w' hw' => ?_) ?_
      rotate_left
      · go_simp; try with_reducible rfl
      try simp only [List.getElem_toArray, List.getElem_cons_succ, List.getElem_cons_zero, Act.put, List.setIfInBounds_toArray, List.set_cons_zero, List.set_cons_succ]
      refine seq_skip 3 rfl (by kernel_rfl) (fun _ _ _ h => h) (by rfl) ?_
      try simp only [List.getElem_toArray, List.getElem_cons_succ, List.getElem_cons_zero, Act.put, List.setIfInBounds_toArray, List.set_cons_zero, List.set_cons_succ]
      refine seq_skip 4 rfl (by kernel_rfl) (fun _ _ _ h => h) (by rfl) ?_
      try simp only [List.getElem_toArray, List.getElem_cons_succ, List.getElem_cons_zero, Act.put, List.setIfInBounds_toArray, List.set_cons_zero, List.set_cons_succ]
      refine seq_skip 5 rfl (by kernel_rfl) (fun _ _ _ h => h) (by rfl) ?_
      try simp only [List.getElem_toArray, List.getElem_cons_succ, List.getElem_cons_zero, Act.put, List.setIfInBounds_toArray, List.set_cons_zero, List.set_cons_succ]
      refine seq_skip 6 rfl (by kernel_rfl) (fun _ _ _ h => h) (by rfl) ?_
      try simp only [List.getElem_toArray, List.getElem_cons_succ, List.getElem_cons_zero, Act.put, List.setIfInBounds_toArray, List.set_cons_zero, List.set_cons_succ]
      refine seq_skip 7 rfl (by kernel_rfl) (fun _ _ _ h => h) (by rfl) ?_
      try simp only [List.getElem_toArray, List.getElem_cons_succ, List.getElem_cons_zero, Act.put, List.setIfInBounds_toArray, List.set_cons_zero, List.set_cons_succ]
      refine seq_skip 8 rfl (by kernel_rfl) (fun _ _ _ h => h) (by rfl) ?_
      try simp only [List.getElem_toArray, List.getElem_cons_succ, List.getElem_cons_zero, Act.put, List.setIfInBounds_toArray, List.set_cons_zero, List.set_cons_succ]
      refine seq_skip 9 rfl (by kernel_rfl) (fun _ _ _ h => h) (by rfl) ?_
      try simp only [List.getElem_toArray, List.getElem_cons_succ, List.getElem_cons_zero, Act.put, List.setIfInBounds_toArray, List.set_cons_zero, List.set_cons_succ]
      refine seq_skip 10 rfl (by kernel_rfl) (fun _ _ _ h => h) (by rfl) ?_
      try simp only [List.getElem_toArray, List.getElem_cons_succ, List.getElem_cons_zero, Act.put, List.setIfInBounds_toArray, List.set_cons_zero, List.set_cons_succ]
      refine seq_skip 11 rfl (by kernel_rfl) (fun _ _ _ h => h) (by rfl) ?_
      try simp only [List.getElem_toArray, List.getElem_cons_succ, List.getElem_cons_zero, Act.put, List.setIfInBounds_toArray, List.set_cons_zero, List.set_cons_succ]
      refine seq_take 12 (v := ?_) rfl (by kernel_rfl) (fun _ _ _ h => h) (by rfl) (fun w' hw' => ?_) ?_
      rotate_left
      · go_simp; try with_reducible rfl
      try simp only [List.getElem_toArray, List.getElem_cons_succ, List.getElem_cons_zero, Act.put, List.setIfInBounds_toArray, List.set_cons_zero, List.set_cons_succ]
      refine seq_take 13 (v := ?_) rfl (by kernel_rfl) (fun _ _ _ h => h) (by rfl) (fun w' hw' => ?_) ?_
      rotate_left
      · go_simp; try with_reducible rfl
      try simp only [List.getElem_toArray, List.getElem_cons_succ, List.getElem_cons_zero, Act.put, List.setIfInBounds_toArray, List.set_cons_zero, List.set_cons_succ]
      refine seq_take 14 (v := ?_) rfl (by kernel_rfl) (fun _ _ _ h => h) (by rfl) (fun w' hw' => ?_) ?_
      rotate_left
      · go_simp; try with_reducible rfl
      try simp only [List.getElem_toArray, List.getElem_cons_succ, List.getElem_cons_zero, Act.put, List.setIfInBounds_toArray, List.set_cons_zero, List.set_cons_succ]
      refine seq_done (by kernel_rfl) ?_
      go_wp2_with fail
      go_returns
      rw [HF.out]
      exact ⟨-1, rfl, fun _ => rfl, H3.out.1.drew⟩
  · skip
    have e1 := H3.out.2.1.2.1
    go_wp2_with fail
    refine (within_any a 0 39 W3).mono ?_
    rintro e w2 ⟨rfl, rfl⟩
    go_wp2_with fail
    go_returns
    exact ⟨1, rfl, fun _ => rfl, H3.out.1⟩
  · skip
    cases hq : betw a 0 255 with
    | true =>
      have HF := Lib.hid (And.intro hq (show fitsP flC c L ⟨10, a, b⟩ ⟨fn, h, o⟩ = (betw b 0 (min 8 h), 1 - b) from by show (betw a 0 255 && betw b 0 (min 8 h), 1 - b) = _; rw [hq, Bool.true_and]))
      clear hq
      go_wp2_with fail
      refine seq_start (by kernel_rfl) ?_
      refine seq_take 0 (v := ?_) rfl (by kernel_rfl) (fun _ _ _ h => h) (by rfl) (fun w' hw' => ?_) ?_
      rotate_left
      · go_simp; try with_reducible rfl
      try simp only [List.getElem_toArray, List.getElem_cons_succ, List.getElem_cons_zero, Act.put, List.setIfInBounds_toArray, List.set_cons_zero, List.set_cons_succ]
      refine seq_take 1 rfl (by kernel_rfl) (fun _ _ _ h => h) (by rfl) (seq_ldi rfl rfl ((show W3.drew.cell? ⟨gi, 1, none⟩ = _ from H3.out.2.1.2.1))) ?_
      try simp only [List.getElem_toArray, List.getElem_cons_succ, List.getElem_cons_zero, Act.put, List.setIfInBounds_toArray, List.set_cons_zero, List.set_cons_succ]
      refine seq_take 10 (v := ?_) rfl (by kernel_rfl) (fun _ _ _ h => h) (by rfl) (fun w' hw' => ?_) ?_
      rotate_left
      · go_simp; try with_reducible rfl
      try simp only [List.getElem_toArray, List.getElem_cons_succ, List.getElem_cons_zero, Act.put, List.setIfInBounds_toArray, List.set_cons_zero, List.set_cons_succ]
      refine seq_take 11 rfl (by kernel_rfl) (fun _ _ _ h => h) (by rfl) (seq_ldi rfl rfl ((show W3.drew.cell? ⟨gi, 2, none⟩ = _ from H3.out.2.1.2.2))) ?_
      try simp only [List.getElem_toArray, List.getElem_cons_succ, List.getElem_cons_zero, Act.put, List.setIfInBounds_toArray, List.set_cons_zero, List.set_cons_succ]
      refine seq_take 12 (v := ?_) rfl (by kernel_rfl) (fun _ _ _ h => h) (by rfl) (fun w' hw' => ?_) ?_
      rotate_left
      · go_simp; try with_reducible rfl
      try simp only [List.getElem_toArray, List.getElem_cons_succ, List.getElem_cons_zero, Act.put, List.setIfInBounds_toArray, List.set_cons_zero, List.set_cons_succ]
      refine seq_run 2 rfl (by kernel_rfl) (by rfl) (fun KK hKK => ?_)
      go_wp2_with fail
      refine (within_any a 0 255 W3.drew).mono ?_
      rintro e w2 ⟨rfl, rfl⟩
      rw [HF.out.1]
      go_wp2_with fail
      refine ⟨Below.refl _ _, ?_⟩
      refine seq_take 3 (v := ?_) rfl (by kernel_rfl) (fun _ _ _ h => h) (by rfl) (fun w' hw' => ?_) ?_
      rotate_left
      · go_simp; try with_reducible rfl
      try simp only [List.getElem_toArray, List.getElem_cons_succ, List.getElem_cons_zero, Act.put, List.setIfInBounds_toArray, List.set_cons_zero, List.set_cons_succ]
      refine seq_take 4 (v := ?_) rfl (by kernel_rfl) (fun _ _ _ h => h) (by rfl) (fun w' hw' => ?_) ?_
      rotate_left
      · go_simp; try with_reducible rfl
      try simp only [List.getElem_toArray, List.getElem_cons_succ, List.getElem_cons_zero, Act.put, List.setIfInBounds_toArray, List.set_cons_zero, List.set_cons_succ]
      refine seq_take 5 rfl (by kernel_rfl) (fun _ _ _ h => h) (by rfl) (seq_ldi rfl rfl ((show W3.drew.cell? ⟨gi, 2, none⟩ = _ from H3.out.2.1.2.2))) ?_
      try simp only [List.getElem_toArray, List.getElem_cons_succ, List.getElem_cons_zero, Act.put, List.setIfInBounds_toArray, List.set_cons_zero, List.set_cons_succ]
      refine seq_take 6 (v := ?_) rfl (by kernel_rfl) (fun _ _ _ h => h) (by rfl) (fun w' hw' => ?_) ?_
      rotate_left
      · go_simp; try with_reducible rfl
      try simp only [List.getElem_toArray, List.getElem_cons_succ, List.getElem_cons_zero, Act.put, List.setIfInBounds_toArray, List.set_cons_zero, List.set_cons_succ]
      refine seq_take 7 rfl (by kernel_rfl) (fun _ _ _ h => h) (by rfl) (yields_min2 rfl rfl rfl ((rfl : min (8 : Int) h = min 8 h))) ?_
      try simp only [List.getElem_toArray, List.getElem_cons_succ, List.getElem_cons_zero, Act.put, List.setIfInBounds_toArray, List.set_cons_zero, List.set_cons_succ]
      refine seq_run 8 rfl (by kernel_rfl) (by rfl) (fun KK hKK => ?_)
      go_wp2_with fail
      refine (within_any b 0 (min 8 h) W3.drew).mono ?_
      rintro e w2 ⟨rfl, rfl⟩
      go_wp2_with fail
      refine ⟨Below.refl _ _, ?_⟩
      refine seq_take 9 (v := ?_) rfl (by kernel_rfl) (fun _ _ _ h => h) (by rfl) (fun w' hw' => ?_) ?_
      rotate_left
      · go_simp; try with_reducible rfl
      try simp only [List.getElem_toArray, List.getElem_cons_succ, List.getElem_cons_zero, Act.put, List.setIfInBounds_toArray, List.set_cons_zero, List.set_cons_succ]
      refine seq_take 13 (v := ?_) rfl (by kernel_rfl) (fun _ _ _ h => h) (by rfl) (fun w' hw' => ?_) ?_
      rotate_left
      · go_simp; try with_reducible rfl
      try simp only [List.getElem_toArray, List.getElem_cons_succ, List.getElem_cons_zero, Act.put, List.setIfInBounds_toArray, List.set_cons_zero, List.set_cons_succ]
      refine seq_take 14 (v := ?_) rfl (by kernel_rfl) (fun _ _ _ h => h) (by rfl) (fun w' hw' => ?_) ?_
      rotate_left
      · go_simp; try with_reducible rfl
      try simp only [List.getElem_toArray, List.getElem_cons_succ, List.getElem_cons_zero, Act.put, List.setIfInBounds_toArray, List.set_cons_zero, List.set_cons_succ]
      refine seq_done (by kernel_rfl) ?_
      go_wp2_with fail
      go_returns
      rw [HF.out.2]
      refine ⟨_, rfl, fun hr => ?_, H3.out.1.drew⟩
      have := of_decide_eq_true hr
      simp only [intOf, wrap64]
      omega
    | false =>
      have HF := Lib.hid (And.intro hq (show (fitsP flC c L ⟨10, a, b⟩ ⟨fn, h, o⟩).1 = false from by show (betw a 0 255 && betw b 0 (min 8 h)) = _; rw [hq, Bool.false_and]))
      clear hq
      go_wp2_with fail
      refine seq_start (by kernel_rfl) ?_
      refine seq_take 0 (v := ?_) rfl (by kernel_rfl) (fun _ _ _ h => h) (by rfl) (fun w' hw' => ?_) ?_
      rotate_left
      · go_simp; try with_reducible rfl
      try simp only [List.getElem_toArray, List.getElem_cons_succ, List.getElem_cons_zero, Act.put, List.setIfInBounds_toArray, List.set_cons_zero, List.set_cons_succ]
      refine seq_take 1 rfl (by kernel_rfl) (fun _ _ _ h => h) (by rfl) (seq_ldi rfl rfl ((show W3.drew.cell? ⟨gi, 1, none⟩ = _ from H3.out.2.1.2.1))) ?_
      try simp only [List.getElem_toArray, List.getElem_cons_succ, List.getElem_cons_zero, Act.put, List.setIfInBounds_toArray, List.set_cons_zero, List.set_cons_succ]
      refine seq_take 10 (v := ?_) rfl (by kernel_rfl) (fun _ _ _ h => h) (by rfl) (fun w' hw' => ?_) ?_
      rotate_left
      · go_simp; try with_reducible rfl
      try simp only [List.getElem_toArray, List.getElem_cons_succ, List.getElem_cons_zero, Act.put, List.setIfInBounds_toArray, List.set_cons_zero, List.set_cons_succ]
      refine seq_take 11 rfl (by kernel_rfl) (fun _ _ _ h => h) (by rfl) (seq_ldi rfl rfl ((show W3.drew.cell? ⟨gi, 2, none⟩ = _ from H3.out.2.1.2.2))) ?_
      try simp only [List.getElem_toArray, List.getElem_cons_succ, List.getElem_cons_zero, Act.put, List.setIfInBounds_toArray, List.set_cons_zero, List.set_cons_succ]
      refine seq_take 12 (v := ?_) rfl (by kernel_rfl) (fun _ _ _ h => h) (by rfl) (fun w' hw' => ?_) ?_
      rotate_left
      · go_simp; try with_reducible rfl
      try simp only [List.getElem_toArray, List.getElem_cons_succ, List.getElem_cons_zero, Act.put, List.setIfInBounds_toArray, List.set_cons_zero, List.set_cons_succ]
      refine seq_run 2 rfl (by kernel_rfl) (by rfl) (fun KK hKK => ?_)
      go_wp2_with fail
      refine (within_any a 0 255 W3.drew).mono ?_
      rintro e w2 ⟨rfl, rfl⟩
      rw [HF.out.1]
      go_wp2_with fail
      refine ⟨Below.refl _ _, ?_⟩
      refine seq_take 3 (v := ?_) rfl (by kernel_rfl) (fun _ _ _ h => h) (by rfl) (fun w' hw' => ?_) ?_
      rotate_left
      · go_simp; try with_reducible rfl
      try simp only [List.getElem_toArray, List.getElem_cons_succ, List.getElem_cons_zero, Act.put, List.setIfInBounds_toArray, List.set_cons_zero, List.set_cons_succ]
      refine seq_skip 4 rfl (by kernel_rfl) (fun _ _ _ h => h) (by rfl) ?_
      try simp only [List.getElem_toArray, List.getElem_cons_succ, List.getElem_cons_zero, Act.put, List.setIfInBounds_toArray, List.set_cons_zero, List.set_cons_succ]
      refine seq_skip 5 rfl (by kernel_rfl) (fun _ _ _ h => h) (by rfl) ?_
      try simp only [List.getElem_toArray, List.getElem_cons_succ, List.getElem_cons_zero, Act.put, List.setIfInBounds_toArray, List.set_cons_zero, List.set_cons_succ]
      refine seq_skip 6 rfl (by kernel_rfl) (fun _ _ _ h => h) (by rfl) ?_
      try simp only [List.getElem_toArray, List.getElem_cons_succ, List.getElem_cons_zero, Act.put, List.setIfInBounds_toArray, List.set_cons_zero, List.set_cons_succ]
      refine seq_skip 7 rfl (by kernel_rfl) (fun _ _ _ h => h) (by rfl) ?_
      try simp only [List.getElem_toArray, List.getElem_cons_succ, List.getElem_cons_zero, Act.put, List.setIfInBounds_toArray, List.set_cons_zero, List.set_cons_succ]
      refine seq_skip 8 rfl (by kernel_rfl) (fun _ _ _ h => h) (by rfl) ?_
      try simp only [List.getElem_toArray, List.getElem_cons_succ, List.getElem_cons_zero, Act.put, List.setIfInBounds_toArray, List.set_cons_zero, List.set_cons_succ]
      refine seq_take 9 (v := ?_) rfl (by kernel_rfl) (fun _ _ _ h => h) (by rfl) (fun w' hw' => ?_) ?_
      rotate_left
      · go_simp; try with_reducible rfl
      try simp only [List.getElem_toArray, List.getElem_cons_succ, List.getElem_cons_zero, Act.put, List.setIfInBounds_toArray, List.set_cons_zero, List.set_cons_succ]
      refine seq_take 13 (v := ?_) rfl (by kernel_rfl) (fun _ _ _ h => h) (by rfl) (fun w' hw' => ?_) ?_
      rotate_left
      · go_simp; try with_reducible rfl
      try simp only [List.getElem_toArray, List.getElem_cons_succ, List.getElem_cons_zero, Act.put, List.setIfInBounds_toArray, List.set_cons_zero, List.set_cons_succ]
      refine seq_take 14 (v := ?_) rfl (by kernel_rfl) (fun _ _ _ h => h) (by rfl) (fun w' hw' => ?_) ?_
      rotate_left
      · go_simp; try with_reducible rfl
      try simp only [List.getElem_toArray, List.getElem_cons_succ, List.getElem_cons_zero, Act.put, List.setIfInBounds_toArray, List.set_cons_zero, List.set_cons_succ]
      refine seq_done (by kernel_rfl) ?_
      go_wp2_with fail
      go_returns
      rw [Fits, HF.out.2]
      exact ⟨_, rfl, fun hr => (by cases hr), H3.out.1.drew⟩
  · skip
    go_wp2_with fail
    refine seq_start (by kernel_rfl) ?_
    refine seq_take 0 (v := ?_) rfl (by kernel_rfl) (fun _ _ _ h => h) (by rfl) (fun w' hw' => ?_) ?_
    rotate_left
    · go_simp; try with_reducible rfl
    try simp only [List.getElem_toArray, List.getElem_cons_succ, List.getElem_cons_zero, Act.put, List.setIfInBounds_toArray, List.set_cons_zero, List.set_cons_succ]
    refine seq_take 1 rfl (by kernel_rfl) (fun _ _ _ h => h) (by rfl) (seq_ldi rfl rfl ((show W3.drew.cell? ⟨gi, 1, none⟩ = _ from H3.out.2.1.2.1))) ?_
    try simp only [List.getElem_toArray, List.getElem_cons_succ, List.getElem_cons_zero, Act.put, List.setIfInBounds_toArray, List.set_cons_zero, List.set_cons_succ]
    refine seq_take 2 (v := ?_) rfl (by kernel_rfl) (fun _ _ _ h => h) (by rfl) (fun w' hw' => ?_) ?_
    rotate_left
    · go_simp; try with_reducible rfl
    try simp only [List.getElem_toArray, List.getElem_cons_succ, List.getElem_cons_zero, Act.put, List.setIfInBounds_toArray, List.set_cons_zero, List.set_cons_succ]
    refine seq_take 3 rfl (by kernel_rfl) (fun _ _ _ h => h) (by rfl) (yields_min2 rfl rfl rfl ((rfl : min (8 : Int) h = min 8 h))) ?_
    try simp only [List.getElem_toArray, List.getElem_cons_succ, List.getElem_cons_zero, Act.put, List.setIfInBounds_toArray, List.set_cons_zero, List.set_cons_succ]
    refine seq_take 5 (v := ?_) rfl (by kernel_rfl) (fun _ _ _ h => h) (by rfl) (fun w' hw' => ?_) ?_
    rotate_left
    · go_simp; try with_reducible rfl
    try simp only [List.getElem_toArray, List.getElem_cons_succ, List.getElem_cons_zero, Act.put, List.setIfInBounds_toArray, List.set_cons_zero, List.set_cons_succ]
    refine seq_take 6 rfl (by kernel_rfl) (fun _ _ _ h => h) (by rfl) (seq_ldi rfl rfl ((show W3.drew.cell? ⟨gi, 1, none⟩ = _ from H3.out.2.1.2.1))) ?_
    try simp only [List.getElem_toArray, List.getElem_cons_succ, List.getElem_cons_zero, Act.put, List.setIfInBounds_toArray, List.set_cons_zero, List.set_cons_succ]
    refine seq_take 7 (v := ?_) rfl (by kernel_rfl) (fun _ _ _ h => h) (by rfl) (fun w' hw' => ?_) ?_
    rotate_left
    · go_simp; try with_reducible rfl
    try simp only [List.getElem_toArray, List.getElem_cons_succ, List.getElem_cons_zero, Act.put, List.setIfInBounds_toArray, List.set_cons_zero, List.set_cons_succ]
    refine seq_run 4 rfl (by kernel_rfl) (by rfl) (fun KK hKK => ?_)
    go_wp2_with fail
    refine (within_any a 2 (min 8 h) W3.drew).mono ?_
    rintro e w2 ⟨rfl, rfl⟩
    go_wp2_with fail
    refine ⟨Below.refl _ _, ?_⟩
    refine seq_take 8 (v := ?_) rfl (by kernel_rfl) (fun _ _ _ h => h) (by rfl) (fun w' hw' => ?_) ?_
    rotate_left
    · go_simp; try with_reducible rfl
    try simp only [List.getElem_toArray, List.getElem_cons_succ, List.getElem_cons_zero, Act.put, List.setIfInBounds_toArray, List.set_cons_zero, List.set_cons_succ]
    refine seq_take 9 (v := ?_) rfl (by kernel_rfl) (fun _ _ _ h => h) (by rfl) (fun w' hw' => ?_) ?_
    rotate_left
    · go_simp; try with_reducible rfl
    try simp only [List.getElem_toArray, List.getElem_cons_succ, List.getElem_cons_zero, Act.put, List.setIfInBounds_toArray, List.set_cons_zero, List.set_cons_succ]
    refine seq_done (by kernel_rfl) ?_
    go_wp2_with fail
    go_returns
    refine ⟨_, rfl, fun hr => ?_, H3.out.1.drew⟩
    have := of_decide_eq_true (show betw a 2 (min 8 h) = true from hr)
    show _ = 1 - a
    simp only [intOf, wrap64]
    omega
  · skip
    cases hq : betw a 1 ((c.funs.length : Int) - 1) with
    | true =>
      have HF := Lib.hid (And.intro hq (show fitsP flC c L ⟨12, a, b⟩ ⟨fn, h, o⟩ = (betw b 0 (min 200 h), 1 - b) from by show (betw a 1 ((c.funs.length : Int) - 1) && betw b 0 (min 200 h), 1 - b) = _; rw [hq, Bool.true_and]))
      clear hq
      go_wp2_with fail
      refine seq_start (by kernel_rfl) ?_
      refine seq_take 0 (v := ?_) rfl (by kernel_rfl) (fun _ _ _ h => h) (by rfl) (fun w' hw' => ?_) ?_
      rotate_left
      · go_simp; try with_reducible rfl
      try simp only [List.getElem_toArray, List.getElem_cons_succ, List.getElem_cons_zero, Act.put, List.setIfInBounds_toArray, List.set_cons_zero, List.set_cons_succ]
      refine seq_take 1 rfl (by kernel_rfl) (fun _ _ _ h => h) (by rfl) (seq_ldi rfl rfl ((show W3.drew.cell? ⟨gi, 1, none⟩ = _ from H3.out.2.1.2.1))) ?_
      try simp only [List.getElem_toArray, List.getElem_cons_succ, List.getElem_cons_zero, Act.put, List.setIfInBounds_toArray, List.set_cons_zero, List.set_cons_succ]
      refine seq_take 2 (v := ?_) rfl (by kernel_rfl) (fun _ _ _ h => h) (by rfl) (fun w' hw' => ?_) ?_
      rotate_left
      · go_simp; try with_reducible rfl
      try simp only [List.getElem_toArray, List.getElem_cons_succ, List.getElem_cons_zero, Act.put, List.setIfInBounds_toArray, List.set_cons_zero, List.set_cons_succ]
      refine seq_take 3 (v := ?_) rfl (by kernel_rfl) (fun _ _ _ h => h) (by rfl) (fun w' hw' => ?_) ?_
      rotate_left
      · go_simp; try with_reducible rfl
      try simp only [List.getElem_toArray, List.getElem_cons_succ, List.getElem_cons_zero, Act.put, List.setIfInBounds_toArray, List.set_cons_zero, List.set_cons_succ]
      refine seq_take 4 (v := ?_) rfl (by kernel_rfl) (fun _ _ _ h => h) (by rfl) (fun w' hw' => ?_) ?_
      rotate_left
      · go_simp; try with_reducible rfl
      try simp only [List.getElem_toArray, List.getElem_cons_succ, List.getElem_cons_zero, Act.put, List.setIfInBounds_toArray, List.set_cons_zero, List.set_cons_succ]
      refine seq_take 5 (v := ?_) rfl (by kernel_rfl) (fun _ _ _ h => h) (by rfl) (fun w' hw' => ?_) ?_
      rotate_left
      · go_simp; try with_reducible rfl
      try simp only [List.getElem_toArray, List.getElem_cons_succ, List.getElem_cons_zero, Act.put, List.setIfInBounds_toArray, List.set_cons_zero, List.set_cons_succ]
      refine seq_take 6 rfl (by kernel_rfl) (fun _ _ _ h => h) (by rfl) (seq_ldII rfl rfl (show W3.drew.cell? ⟨s.cb, 2, none⟩ = _ from HCB.out.2.1)) ?_
      try simp only [List.getElem_toArray, List.getElem_cons_succ, List.getElem_cons_zero, Act.put, List.setIfInBounds_toArray, List.set_cons_zero, List.set_cons_succ]
      refine seq_take 7 (v := ?_) rfl (by kernel_rfl) (fun _ _ _ h => h) (by rfl) (fun w' hw' => ?_) ?_
      rotate_left
      · go_simp; try with_reducible rfl
      try simp only [List.getElem_toArray, List.getElem_cons_succ, List.getElem_cons_zero, Act.put, List.setIfInBounds_toArray, List.set_cons_zero, List.set_cons_succ]
      refine seq_take 8 (v := ?_) rfl (by kernel_rfl) (fun _ _ _ h => h) (by rfl) (fun w' hw' => ?_) ?_
      rotate_left
      · go_simp; try with_reducible rfl
      try simp only [List.getElem_toArray, List.getElem_cons_succ, List.getElem_cons_zero, Act.put, List.setIfInBounds_toArray, List.set_cons_zero, List.set_cons_succ]
      refine seq_take 17 (v := ?_) rfl (by kernel_rfl) (fun _ _ _ h => h) (by rfl) (fun w' hw' => ?_) ?_
      rotate_left
      · go_simp; try with_reducible rfl
      try simp only [List.getElem_toArray, List.getElem_cons_succ, List.getElem_cons_zero, Act.put, List.setIfInBounds_toArray, List.set_cons_zero, List.set_cons_succ]
      refine seq_take 18 rfl (by kernel_rfl) (fun _ _ _ h => h) (by rfl) (seq_ldi rfl rfl ((show W3.drew.cell? ⟨gi, 2, none⟩ = _ from H3.out.2.1.2.2))) ?_
      try simp only [List.getElem_toArray, List.getElem_cons_succ, List.getElem_cons_zero, Act.put, List.setIfInBounds_toArray, List.set_cons_zero, List.set_cons_succ]
      refine seq_take 19 (v := ?_) rfl (by kernel_rfl) (fun _ _ _ h => h) (by rfl) (fun w' hw' => ?_) ?_
      rotate_left
      · go_simp; try with_reducible rfl
      try simp only [List.getElem_toArray, List.getElem_cons_succ, List.getElem_cons_zero, Act.put, List.setIfInBounds_toArray, List.set_cons_zero, List.set_cons_succ]
      refine seq_run 9 rfl (by kernel_rfl) (by rfl) (fun KK hKK => ?_)
      go_wp2_with fail
      refine (within_any a 1 ((c.funs.length : Int) - 1) W3.drew).mono ?_
      rintro e w2 ⟨rfl, rfl⟩
      rw [HF.out.1]
      go_wp2_with fail
      refine ⟨Below.refl _ _, ?_⟩
      refine seq_take 10 (v := ?_) rfl (by kernel_rfl) (fun _ _ _ h => h) (by rfl) (fun w' hw' => ?_) ?_
      rotate_left
      · go_simp; try with_reducible rfl
      try simp only [List.getElem_toArray, List.getElem_cons_succ, List.getElem_cons_zero, Act.put, List.setIfInBounds_toArray, List.set_cons_zero, List.set_cons_succ]
      refine seq_take 11 (v := ?_) rfl (by kernel_rfl) (fun _ _ _ h => h) (by rfl) (fun w' hw' => ?_) ?_
      rotate_left
      · go_simp; try with_reducible rfl
      try simp only [List.getElem_toArray, List.getElem_cons_succ, List.getElem_cons_zero, Act.put, List.setIfInBounds_toArray, List.set_cons_zero, List.set_cons_succ]
      refine seq_take 12 rfl (by kernel_rfl) (fun _ _ _ h => h) (by rfl) (seq_ldi rfl rfl ((show W3.drew.cell? ⟨gi, 2, none⟩ = _ from H3.out.2.1.2.2))) ?_
      try simp only [List.getElem_toArray, List.getElem_cons_succ, List.getElem_cons_zero, Act.put, List.setIfInBounds_toArray, List.set_cons_zero, List.set_cons_succ]
      refine seq_take 13 (v := ?_) rfl (by kernel_rfl) (fun _ _ _ h => h) (by rfl) (fun w' hw' => ?_) ?_
      rotate_left
      · go_simp; try with_reducible rfl
      try simp only [List.getElem_toArray, List.getElem_cons_succ, List.getElem_cons_zero, Act.put, List.setIfInBounds_toArray, List.set_cons_zero, List.set_cons_succ]
      refine seq_take 14 rfl (by kernel_rfl) (fun _ _ _ h => h) (by rfl) (yields_min2 rfl rfl rfl ((rfl : min (200 : Int) h = min 200 h))) ?_
      try simp only [List.getElem_toArray, List.getElem_cons_succ, List.getElem_cons_zero, Act.put, List.setIfInBounds_toArray, List.set_cons_zero, List.set_cons_succ]
      refine seq_run 15 rfl (by kernel_rfl) (by rfl) (fun KK hKK => ?_)
      go_wp2_with fail
      refine (within_any b 0 (min 200 h) W3.drew).mono ?_
      rintro e w2 ⟨rfl, rfl⟩
      go_wp2_with fail
      refine ⟨Below.refl _ _, ?_⟩
      refine seq_take 16 (v := ?_) rfl (by kernel_rfl) (fun _ _ _ h => h) (by rfl) (fun w' hw' => ?_) ?_
      rotate_left
      · go_simp; try with_reducible rfl
      try simp only [List.getElem_toArray, List.getElem_cons_succ, List.getElem_cons_zero, Act.put, List.setIfInBounds_toArray, List.set_cons_zero, List.set_cons_succ]
      refine seq_take 20 (v := ?_) rfl (by kernel_rfl) (fun _ _ _ h => h) (by rfl) (fun w' hw' => ?_) ?_
      rotate_left
      · go_simp; try with_reducible rfl
      try simp only [List.getElem_toArray, List.getElem_cons_succ, List.getElem_cons_zero, Act.put, List.setIfInBounds_toArray, List.set_cons_zero, List.set_cons_succ]
      refine seq_take 21 (v := ?_) rfl (by kernel_rfl) (fun _ _ _ h => h) (by rfl) (fun w' hw' => ?_) ?_
      rotate_left
      · go_simp; try with_reducible rfl
      try simp only [List.getElem_toArray, List.getElem_cons_succ, List.getElem_cons_zero, Act.put, List.setIfInBounds_toArray, List.set_cons_zero, List.set_cons_succ]
      refine seq_done (by kernel_rfl) ?_
      go_wp2_with fail
      go_returns
      rw [HF.out.2]
      refine ⟨_, rfl, fun hr => ?_, H3.out.1.drew⟩
      have := of_decide_eq_true hr
      simp only [intOf, wrap64]
      omega
    | false =>
      have HF := Lib.hid (And.intro hq (show (fitsP flC c L ⟨12, a, b⟩ ⟨fn, h, o⟩).1 = false from by show (betw a 1 ((c.funs.length : Int) - 1) && betw b 0 (min 200 h)) = _; rw [hq, Bool.false_and]))
      clear hq
      go_wp2_with fail
      refine seq_start (by kernel_rfl) ?_
      refine seq_take 0 (v := ?_) rfl (by kernel_rfl) (fun _ _ _ h => h) (by rfl) (fun w' hw' => ?_) ?_
      rotate_left
      · go_simp; try with_reducible rfl
      try simp only [List.getElem_toArray, List.getElem_cons_succ, List.getElem_cons_zero, Act.put, List.setIfInBounds_toArray, List.set_cons_zero, List.set_cons_succ]
      refine seq_take 1 rfl (by kernel_rfl) (fun _ _ _ h => h) (by rfl) (seq_ldi rfl rfl ((show W3.drew.cell? ⟨gi, 1, none⟩ = _ from H3.out.2.1.2.1))) ?_
      try simp only [List.getElem_toArray, List.getElem_cons_succ, List.getElem_cons_zero, Act.put, List.setIfInBounds_toArray, List.set_cons_zero, List.set_cons_succ]
      refine seq_take 2 (v := ?_) rfl (by kernel_rfl) (fun _ _ _ h => h) (by rfl) (fun w' hw' => ?_) ?_
      rotate_left
      · go_simp; try with_reducible rfl
      try simp only [List.getElem_toArray, List.getElem_cons_succ, List.getElem_cons_zero, Act.put, List.setIfInBounds_toArray, List.set_cons_zero, List.set_cons_succ]
      refine seq_take 3 (v := ?_) rfl (by kernel_rfl) (fun _ _ _ h => h) (by rfl) (fun w' hw' => ?_) ?_
      rotate_left
      · go_simp; try with_reducible rfl
      try simp only [List.getElem_toArray, List.getElem_cons_succ, List.getElem_cons_zero, Act.put, List.setIfInBounds_toArray, List.set_cons_zero, List.set_cons_succ]
      refine seq_take 4 (v := ?_) rfl (by kernel_rfl) (fun _ _ _ h => h) (by rfl) (fun w' hw' => ?_) ?_
      rotate_left
      · go_simp; try with_reducible rfl
      try simp only [List.getElem_toArray, List.getElem_cons_succ, List.getElem_cons_zero, Act.put, List.setIfInBounds_toArray, List.set_cons_zero, List.set_cons_succ]
      refine seq_take 5 (v := ?_) rfl (by kernel_rfl) (fun _ _ _ h => h) (by rfl) (fun w' hw' => ?_) ?_
      rotate_left
      · go_simp; try with_reducible rfl
      try simp only [List.getElem_toArray, List.getElem_cons_succ, List.getElem_cons_zero, Act.put, List.setIfInBounds_toArray, List.set_cons_zero, List.set_cons_succ]
      refine seq_take 6 rfl (by kernel_rfl) (fun _ _ _ h => h) (by rfl) (seq_ldII rfl rfl (show W3.drew.cell? ⟨s.cb, 2, none⟩ = _ from HCB.out.2.1)) ?_
      try simp only [List.getElem_toArray, List.getElem_cons_succ, List.getElem_cons_zero, Act.put, List.setIfInBounds_toArray, List.set_cons_zero, List.set_cons_succ]
      refine seq_take 7 (v := ?_) rfl (by kernel_rfl) (fun _ _ _ h => h) (by rfl) (fun w' hw' => ?_) ?_
      rotate_left
      · go_simp; try with_reducible rfl
      try simp only [List.getElem_toArray, List.getElem_cons_succ, List.getElem_cons_zero, Act.put, List.setIfInBounds_toArray, List.set_cons_zero, List.set_cons_succ]
      refine seq_take 8 (v := ?_) rfl (by kernel_rfl) (fun _ _ _ h => h) (by rfl) (fun w' hw' => ?_) ?_
      rotate_left
      · go_simp; try with_reducible rfl
      try simp only [List.getElem_toArray, List.getElem_cons_succ, List.getElem_cons_zero, Act.put, List.setIfInBounds_toArray, List.set_cons_zero, List.set_cons_succ]
      refine seq_take 17 (v := ?_) rfl (by kernel_rfl) (fun _ _ _ h => h) (by rfl) (fun w' hw' => ?_) ?_
      rotate_left
      · go_simp; try with_reducible rfl
      try simp only [List.getElem_toArray, List.getElem_cons_succ, List.getElem_cons_zero, Act.put, List.setIfInBounds_toArray, List.set_cons_zero, List.set_cons_succ]
      refine seq_take 18 rfl (by kernel_rfl) (fun _ _ _ h => h) (by rfl) (seq_ldi rfl rfl ((show W3.drew.cell? ⟨gi, 2, none⟩ = _ from H3.out.2.1.2.2))) ?_
      try simp only [List.getElem_toArray, List.getElem_cons_succ, List.getElem_cons_zero, Act.put, List.setIfInBounds_toArray, List.set_cons_zero, List.set_cons_succ]
      refine seq_take 19 (v := ?_) rfl (by kernel_rfl) (fun _ _ _ h => h) (by rfl) (fun w' hw' => ?_) ?_
      rotate_left
      · go_simp; try with_reducible rfl
      try simp only [List.getElem_toArray, List.getElem_cons_succ, List.getElem_cons_zero, Act.put, List.setIfInBounds_toArray, List.set_cons_zero, List.set_cons_succ]
      refine seq_run 9 rfl (by kernel_rfl) (by rfl) (fun KK hKK => ?_)
      go_wp2_with fail
      refine (within_any a 1 ((c.funs.length : Int) - 1) W3.drew).mono ?_
      rintro e w2 ⟨rfl, rfl⟩
      rw [HF.out.1]
      go_wp2_with fail
      refine ⟨Below.refl _ _, ?_⟩
      refine seq_take 10 (v := ?_) rfl (by kernel_rfl) (fun _ _ _ h => h) (by rfl) (fun w' hw' => ?_) ?_
      rotate_left
      · go_simp; try with_reducible rfl
      try simp only [List.getElem_toArray, List.getElem_cons_succ, List.getElem_cons_zero, Act.put, List.setIfInBounds_toArray, List.set_cons_zero, List.set_cons_succ]
      refine seq_skip 11 rfl (by kernel_rfl) (fun _ _ _ h => h) (by rfl) ?_
      try simp only [List.getElem_toArray, List.getElem_cons_succ, List.getElem_cons_zero, Act.put, List.setIfInBounds_toArray, List.set_cons_zero, List.set_cons_succ]
      refine seq_skip 12 rfl (by kernel_rfl) (fun _ _ _ h => h) (by rfl) ?_
      try simp only [List.getElem_toArray, List.getElem_cons_succ, List.getElem_cons_zero, Act.put, List.setIfInBounds_toArray, List.set_cons_zero, List.set_cons_succ]
      refine seq_skip 13 rfl (by kernel_rfl) (fun _ _ _ h => h) (by rfl) ?_
      try simp only [List.getElem_toArray, List.getElem_cons_succ, List.getElem_cons_zero, Act.put, List.setIfInBounds_toArray, List.set_cons_zero, List.set_cons_succ]
      refine seq_skip 14 rfl (by kernel_rfl) (fun _ _ _ h => h) (by rfl) ?_
      try simp only [List.getElem_toArray, List.getElem_cons_succ, List.getElem_cons_zero, Act.put, List.setIfInBounds_toArray, List.set_cons_zero, List.set_cons_succ]
      refine seq_skip 15 rfl (by kernel_rfl) (fun _ _ _ h => h) (by rfl) ?_
      try simp only [List.getElem_toArray, List.getElem_cons_succ, List.getElem_cons_zero, Act.put, List.setIfInBounds_toArray, List.set_cons_zero, List.set_cons_succ]
      refine seq_take 16 (v := ?_) rfl (by kernel_rfl) (fun _ _ _ h => h) (by rfl) (fun w' hw' => ?_) ?_
      rotate_left
      · go_simp; try with_reducible rfl
      try simp only [List.getElem_toArray, List.getElem_cons_succ, List.getElem_cons_zero, Act.put, List.setIfInBounds_toArray, List.set_cons_zero, List.set_cons_succ]
      refine seq_take 20 (v := ?_) rfl (by kernel_rfl) (fun _ _ _ h => h) (by rfl) (fun w' hw' => ?_) ?_
      rotate_left
      · go_simp; try with_reducible rfl
      try simp only [List.getElem_toArray, List.getElem_cons_succ, List.getElem_cons_zero, Act.put, List.setIfInBounds_toArray, List.set_cons_zero, List.set_cons_succ]
      refine seq_take 21 (v := ?_) rfl (by kernel_rfl) (fun _ _ _ h => h) (by rfl) (fun w' hw' => ?_) ?_
      rotate_left
      · go_simp; try with_reducible rfl
      try simp only [List.getElem_toArray, List.getElem_cons_succ, List.getElem_cons_zero, Act.put, List.setIfInBounds_toArray, List.set_cons_zero, List.set_cons_succ]
      refine seq_done (by kernel_rfl) ?_
      go_wp2_with fail
      go_returns
      rw [Fits, HF.out.2]
      exact ⟨_, rfl, fun hr => (by cases hr), H3.out.1.drew⟩
  · skip
    by_cases h1 : 2 ≤ h
    · have hd1 : decide (2 ≤ h) = true := decide_eq_true h1
      have HF := Lib.hid (show fitsP flC c L ⟨13, a, b⟩ ⟨fn, h, o⟩ = (true, -1) from by show (decide (2 ≤ h), (-1 : Int)) = _; rw [hd1])
      go_wp2_with fail
      go_returns
      rw [HF.out]
      exact ⟨-1, rfl, fun _ => rfl, H3.out.1⟩
    · have hd1 : decide (2 ≤ h) = false := decide_eq_false h1
      have HF := Lib.hid (show fitsP flC c L ⟨13, a, b⟩ ⟨fn, h, o⟩ = (false, -1) from by show (decide (2 ≤ h), (-1 : Int)) = _; rw [hd1])
      go_wp2_with fail
      go_returns
      rw [HF.out]
      exact ⟨-1, rfl, fun _ => rfl, H3.out.1⟩
  · skip
    obtain ⟨f0, _, f2⟩ := H3.out.2.2.1
    by_cases h2 : h = 2
    · subst h2
      by_cases hf0 : fn = 0
      · subst hf0
        go_wp2_with fail
        go_returns
        exact ⟨0, rfl, fun _ => rfl, H3.out.1⟩
      · have hd1 : ((fn : Int) != 0) = true := by simp; omega
        have hd2 : (fn != 0) = true := by simp; omega
        by_cases ho : o = []
        · subst ho
          have HF := Lib.hid (show fitsP flC c L ⟨14, a, b⟩ ⟨fn, 2, []⟩ = (true, 0) from by show (decide ((2 : Int) = 2) && decide (fn ≠ 0) && decide (([] : List Int) = []), (0 : Int)) = _; rw [decide_eq_true hf0]; rfl)
          simp only [List.length_nil] at *
          go_wp2_with fail
          go_returns
          rw [HF.out]
          exact ⟨0, rfl, fun _ => rfl, H3.out.1⟩
        · have hol2 : 0 < o.length := List.length_pos_iff.2 ho
          have hd3 : ((o.length : Int) == 0) = false := by simp; omega
          have hd4 : (o.length == 0) = false := by simp; omega
          have HF := Lib.hid (show fitsP flC c L ⟨14, a, b⟩ ⟨fn, 2, o⟩ = (false, 0) from by show (decide ((2 : Int) = 2) && decide (fn ≠ 0) && decide (o = []), (0 : Int)) = _; rw [decide_eq_false ho, Bool.and_false])
          go_wp2_with fail
          go_returns
          rw [HF.out]
          exact ⟨0, rfl, fun _ => rfl, H3.out.1⟩
    · have hd1 : (h == 2) = false := by simpa using h2
      have HF := Lib.hid (show fitsP flC c L ⟨14, a, b⟩ ⟨fn, h, o⟩ = (false, 0) from by show (decide (h = 2) && decide (fn ≠ 0) && decide (o = []), (0 : Int)) = _; rw [decide_eq_false h2]; rfl)
      go_wp2_with fail
      go_returns
      rw [HF.out]
      exact ⟨0, rfl, fun _ => rfl, H3.out.1⟩
  · skip
    go_wp2_with fail
    go_returns
    exact ⟨0, rfl, fun _ => rfl, H3.out.1⟩
  · skip
    by_cases h1 : 1 ≤ h
    · have hd1 : decide (1 ≤ h) = true := decide_eq_true h1
      have HF := Lib.hid (show fitsP flC c L ⟨16, a, b⟩ ⟨fn, h, o⟩ = (true, -1) from by show (decide (1 ≤ h), (-1 : Int)) = _; rw [hd1])
      go_wp2_with fail
      go_returns
      rw [HF.out]
      exact ⟨-1, rfl, fun _ => rfl, H3.out.1⟩
    · have hd1 : decide (1 ≤ h) = false := decide_eq_false h1
      have HF := Lib.hid (show fitsP flC c L ⟨16, a, b⟩ ⟨fn, h, o⟩ = (false, -1) from by show (decide (1 ≤ h), (-1 : Int)) = _; rw [hd1])
      go_wp2_with fail
      go_returns
      rw [HF.out]
      exact ⟨-1, rfl, fun _ => rfl, H3.out.1⟩
  · skip
    by_cases h1 : 1 ≤ h
    · have hd1 : decide (1 ≤ h) = true := decide_eq_true h1
      have HF := Lib.hid (show fitsP flC c L ⟨17, a, b⟩ ⟨fn, h, o⟩ = (true, -1) from by show (decide (1 ≤ h), (-1 : Int)) = _; rw [hd1])
      go_wp2_with fail
      go_returns
      rw [HF.out]
      exact ⟨-1, rfl, fun _ => rfl, H3.out.1⟩
    · have hd1 : decide (1 ≤ h) = false := decide_eq_false h1
      have HF := Lib.hid (show fitsP flC c L ⟨17, a, b⟩ ⟨fn, h, o⟩ = (false, -1) from by show (decide (1 ≤ h), (-1 : Int)) = _; rw [hd1])
      go_wp2_with fail
      go_returns
      rw [HF.out]
      exact ⟨-1, rfl, fun _ => rfl, H3.out.1⟩
  · skip
    go_wp2_with fail
    refine seq_start (by kernel_rfl) ?_
    refine seq_take 0 (v := ?_) rfl (by kernel_rfl) (fun _ _ _ h => h) (by rfl) (fun w' hw' => ?_) ?_
    rotate_left
    · go_simp; try with_reducible rfl
    try simp only [List.getElem_toArray, List.getElem_cons_succ, List.getElem_cons_zero, Act.put, List.setIfInBounds_toArray, List.set_cons_zero, List.set_cons_succ]
    refine seq_take 1 rfl (by kernel_rfl) (fun _ _ _ h => h) (by rfl) (seq_ldi rfl rfl ((show W3.drew.cell? ⟨gi, 1, none⟩ = _ from H3.out.2.1.2.1))) ?_
    try simp only [List.getElem_toArray, List.getElem_cons_succ, List.getElem_cons_zero, Act.put, List.setIfInBounds_toArray, List.set_cons_zero, List.set_cons_succ]
    refine seq_take 2 (v := ?_) rfl (by kernel_rfl) (fun _ _ _ h => h) (by rfl) (fun w' hw' => ?_) ?_
    rotate_left
    · go_simp; try with_reducible rfl
    try simp only [List.getElem_toArray, List.getElem_cons_succ, List.getElem_cons_zero, Act.put, List.setIfInBounds_toArray, List.set_cons_zero, List.set_cons_succ]
    refine seq_take 3 (v := ?_) rfl (by kernel_rfl) (fun _ _ _ h => h) (by rfl) (fun w' hw' => ?_) ?_
    rotate_left
    · go_simp; try with_reducible rfl
    try simp only [List.getElem_toArray, List.getElem_cons_succ, List.getElem_cons_zero, Act.put, List.setIfInBounds_toArray, List.set_cons_zero, List.set_cons_succ]
    refine seq_take 5 (v := ?_) rfl (by kernel_rfl) (fun _ _ _ h => h) (by rfl) (fun w' hw' => ?_) ?_
    rotate_left
    · go_simp; try with_reducible rfl
    try simp only [List.getElem_toArray, List.getElem_cons_succ, List.getElem_cons_zero, Act.put, List.setIfInBounds_toArray, List.set_cons_zero, List.set_cons_succ]
    refine seq_take 6 rfl (by kernel_rfl) (fun _ _ _ h => h) (by rfl) (seq_ldi rfl rfl ((show W3.drew.cell? ⟨gi, 1, none⟩ = _ from H3.out.2.1.2.1))) ?_
    try simp only [List.getElem_toArray, List.getElem_cons_succ, List.getElem_cons_zero, Act.put, List.setIfInBounds_toArray, List.set_cons_zero, List.set_cons_succ]
    refine seq_take 7 (v := ?_) rfl (by kernel_rfl) (fun _ _ _ h => h) (by rfl) (fun w' hw' => ?_) ?_
    rotate_left
    · go_simp; try with_reducible rfl
    try simp only [List.getElem_toArray, List.getElem_cons_succ, List.getElem_cons_zero, Act.put, List.setIfInBounds_toArray, List.set_cons_zero, List.set_cons_succ]
    refine seq_run 4 rfl (by kernel_rfl) (by rfl) (fun KK hKK => ?_)
    go_wp2_with fail
    refine (within_any a 0 (h - 1) W3.drew).mono ?_
    rintro e w2 ⟨rfl, rfl⟩
    go_wp2_with fail
    refine ⟨Below.refl _ _, ?_⟩
    refine seq_take 8 (v := ?_) rfl (by kernel_rfl) (fun _ _ _ h => h) (by rfl) (fun w' hw' => ?_) ?_
    rotate_left
    · go_simp; try with_reducible rfl
    try simp only [List.getElem_toArray, List.getElem_cons_succ, List.getElem_cons_zero, Act.put, List.setIfInBounds_toArray, List.set_cons_zero, List.set_cons_succ]
    refine seq_take 9 (v := ?_) rfl (by kernel_rfl) (fun _ _ _ h => h) (by rfl) (fun w' hw' => ?_) ?_
    rotate_left
    · go_simp; try with_reducible rfl
    try simp only [List.getElem_toArray, List.getElem_cons_succ, List.getElem_cons_zero, Act.put, List.setIfInBounds_toArray, List.set_cons_zero, List.set_cons_succ]
    refine seq_done (by kernel_rfl) ?_
    go_wp2_with fail
    go_returns
    refine ⟨_, rfl, fun hr => ?_, H3.out.1.drew⟩
    have := of_decide_eq_true (show betw a 0 (h - 1) = true from hr)
    show _ = -a
    simp only [intOf, wrap64]
    omega
  · skip
    have e1 := H3.out.2.1.2.1
    by_cases h1 : 1 ≤ h
    · have hd1 : decide (1 ≤ h) = true := decide_eq_true h1
      have HF := Lib.hid (show fitsP flC c L ⟨19, a, b⟩ ⟨fn, h, o⟩ = (betw a 0 7, 0) from by show (decide (1 ≤ h) && betw a 0 7, (0 : Int)) = _; rw [hd1, Bool.true_and])
      go_wp2_with fail
      refine (within_any a 0 7 W3).mono ?_
      rintro e w2 ⟨rfl, rfl⟩
      go_wp2_with fail
      go_returns
      rw [HF.out]
      exact ⟨0, rfl, fun _ => rfl, H3.out.1⟩
    · have hd1 : decide (1 ≤ h) = false := decide_eq_false h1
      have HF := Lib.hid (show fitsP flC c L ⟨19, a, b⟩ ⟨fn, h, o⟩ = (false, 0) from by show (decide (1 ≤ h) && betw a 0 7, (0 : Int)) = _; rw [hd1, Bool.false_and])
      go_wp2_with fail
      go_returns
      rw [HF.out]
      exact ⟨0, rfl, fun _ => rfl, H3.out.1⟩
  · skip
    by_cases h1 : 1 ≤ h
    · have hd1 : decide (1 ≤ h) = true := decide_eq_true h1
      have HF := Lib.hid (show fitsP flC c L ⟨20, a, b⟩ ⟨fn, h, o⟩ = (I, -1) from by show (decide (1 ≤ h) && int63 a, (-1 : Int)) = _; rw [hd1, Bool.true_and, HTI.out.2.1])
      go_wp2_with fail
      go_returns
      rw [HF.out]
      exact ⟨-1, rfl, fun _ => rfl, H3.out.1⟩
    · have hd1 : decide (1 ≤ h) = false := decide_eq_false h1
      have HF := Lib.hid (show fitsP flC c L ⟨20, a, b⟩ ⟨fn, h, o⟩ = (false, -1) from by show (decide (1 ≤ h) && int63 a, (-1 : Int)) = _; rw [hd1, Bool.false_and])
      go_wp2_with fail
      go_returns
      rw [HF.out]
      exact ⟨-1, rfl, fun _ => rfl, H3.out.1⟩
  · skip
    by_cases h1 : 1 ≤ h
    · have hd1 : decide (1 ≤ h) = true := decide_eq_true h1
      have HF := Lib.hid (show fitsP flC c L ⟨21, a, b⟩ ⟨fn, h, o⟩ = (T, -1) from by show (decide (1 ≤ h) && betw a 0 ((c.strs.length : Int) - 1), (-1 : Int)) = _; rw [hd1, Bool.true_and, HTI.out.1])
      go_wp2_with fail
      go_returns
      rw [HF.out]
      exact ⟨-1, rfl, fun _ => rfl, H3.out.1⟩
    · have hd1 : decide (1 ≤ h) = false := decide_eq_false h1
      have HF := Lib.hid (show fitsP flC c L ⟨21, a, b⟩ ⟨fn, h, o⟩ = (false, -1) from by show (decide (1 ≤ h) && betw a 0 ((c.strs.length : Int) - 1), (-1 : Int)) = _; rw [hd1, Bool.false_and])
      go_wp2_with fail
      go_returns
      rw [HF.out]
      exact ⟨-1, rfl, fun _ => rfl, H3.out.1⟩
  · skip
    have e1 := H3.out.2.1.2.1
    by_cases h1 : 1 ≤ h
    · have hd1 : decide (1 ≤ h) = true := decide_eq_true h1
      have HF := Lib.hid (show fitsP flC c L ⟨22, a, b⟩ ⟨fn, h, o⟩ = (betw a 0 255, -1) from by show (decide (1 ≤ h) && betw a 0 255, (-1 : Int)) = _; rw [hd1, Bool.true_and])
      go_wp2_with fail
      refine (within_any a 0 255 W3).mono ?_
      rintro e w2 ⟨rfl, rfl⟩
      go_wp2_with fail
      go_returns
      rw [HF.out]
      exact ⟨-1, rfl, fun _ => rfl, H3.out.1⟩
    · have hd1 : decide (1 ≤ h) = false := decide_eq_false h1
      have HF := Lib.hid (show fitsP flC c L ⟨22, a, b⟩ ⟨fn, h, o⟩ = (false, -1) from by show (decide (1 ≤ h) && betw a 0 255, (-1 : Int)) = _; rw [hd1, Bool.false_and])
      go_wp2_with fail
      go_returns
      rw [HF.out]
      exact ⟨-1, rfl, fun _ => rfl, H3.out.1⟩
  · skip
    by_cases h1 : 1 ≤ h
    · have hd1 : decide (1 ≤ h) = true := decide_eq_true h1
      have HF := Lib.hid (show fitsP flC c L ⟨23, a, b⟩ ⟨fn, h, o⟩ = (true, 0) from by show (decide (1 ≤ h), (0 : Int)) = _; rw [hd1])
      go_wp2_with fail
      go_returns
      rw [HF.out]
      exact ⟨0, rfl, fun _ => rfl, H3.out.1⟩
    · have hd1 : decide (1 ≤ h) = false := decide_eq_false h1
      have HF := Lib.hid (show fitsP flC c L ⟨23, a, b⟩ ⟨fn, h, o⟩ = (false, 0) from by show (decide (1 ≤ h), (0 : Int)) = _; rw [hd1])
      go_wp2_with fail
      go_returns
      rw [HF.out]
      exact ⟨0, rfl, fun _ => rfl, H3.out.1⟩
  · skip
    go_wp2_with fail
    go_returns
    exact ⟨0, rfl, fun _ => rfl, H3.out.1⟩
  · skip
    have f2 := H3.out.2.2.1.2.2
    by_cases ho : o = []
    · subst ho
      simp only [List.length_nil] at *
      go_wp2_with fail
      go_returns
      exact ⟨0, rfl, fun _ => rfl, H3.out.1⟩
    · have hol2 : 0 < o.length := List.length_pos_iff.2 ho
      have hd3 : decide (0 < (o.length : Int)) = true := decide_eq_true (by omega)
      have hd4 : decide (0 < o.length) = true := decide_eq_true hol2
      obtain ⟨ob, of_, hoo, hoc⟩ := H3.out.2.2.2.2.2.exv (o.length - 1) (by simp [intsV]; omega)
      rw [intsV_get o (o.length - 1) (by omega)] at hoc
      have hla : o.getLast? = some (o[o.length - 1]'(by omega)) := by rw [List.getLast?_eq_getElem?, List.getElem?_eq_getElem (by omega)]
      obtain ⟨y, hy⟩ : ∃ y, o[o.length - 1]'(by omega) = y := ⟨_, rfl⟩
      rw [hy] at hoc hla
      subst hoo
      have hix : ((o.length : Int) - 1).toNat = o.length - 1 := by omega
      obtain ⟨m, hm⟩ : ∃ m, o.length - 1 = m := ⟨_, rfl⟩
      have hol3 : o.length = m + 1 := by omega
      rw [hm] at hoc hix
      by_cases hy1 : y = -1
      · have hd5 : (y != -1) = false := by simp [hy1]
        have HF := Lib.hid (show fitsP flC c L ⟨25, a, b⟩ ⟨fn, h, o⟩ = (false, 0) from by show (decide (o ≠ []) && decide (o.getLast? ≠ some (-1)), (0 : Int)) = _; rw [hla]; simp [ho, hy1])
        have HOC := Lib.hid hoc
        have hoc2 := HOC.out
        clear hla hm hy hoc
        go_wp2_with fail
        go_returns
        rw [HF.out]
        exact ⟨0, rfl, fun _ => rfl, H3.out.1⟩
      · have hd5 : (y != -1) = true := by simp [hy1]
        have HF := Lib.hid (show fitsP flC c L ⟨25, a, b⟩ ⟨fn, h, o⟩ = (true, 0) from by show (decide (o ≠ []) && decide (o.getLast? ≠ some (-1)), (0 : Int)) = _; rw [hla]; simp [ho, hy1])
        have HOC := Lib.hid hoc
        have hoc2 := HOC.out
        clear hla hm hy hoc
        go_wp2_with fail
        go_returns
        rw [HF.out]
        exact ⟨0, rfl, fun _ => rfl, H3.out.1⟩
  · skip
    go_wp2_with fail
    go_returns
    exact ⟨0, rfl, fun _ => rfl, H3.out.1⟩
  · skip
    have f2 := H3.out.2.2.1.2.2
    by_cases ho : o = []
    · subst ho
      simp only [List.length_nil] at *
      go_wp2_with fail
      go_returns
      exact ⟨0, rfl, fun _ => rfl, H3.out.1⟩
    · have hol2 : 0 < o.length := List.length_pos_iff.2 ho
      have hd3 : decide (0 < (o.length : Int)) = true := decide_eq_true (by omega)
      have hd4 : decide (0 < o.length) = true := decide_eq_true hol2
      obtain ⟨ob, of_, hoo, hoc⟩ := H3.out.2.2.2.2.2.exv (o.length - 1) (by simp [intsV]; omega)
      rw [intsV_get o (o.length - 1) (by omega)] at hoc
      have hla : o.getLast? = some (o[o.length - 1]'(by omega)) := by rw [List.getLast?_eq_getElem?, List.getElem?_eq_getElem (by omega)]
      obtain ⟨y, hy⟩ : ∃ y, o[o.length - 1]'(by omega) = y := ⟨_, rfl⟩
      rw [hy] at hoc hla
      subst hoo
      have hix : ((o.length : Int) - 1).toNat = o.length - 1 := by omega
      obtain ⟨m, hm⟩ : ∃ m, o.length - 1 = m := ⟨_, rfl⟩
      have hol3 : o.length = m + 1 := by omega
      rw [hm] at hoc hix
      by_cases hy1 : y = -1
      · have hd5 : (y == -1) = true := by simp [hy1]
        have HF := Lib.hid (show fitsP flC c L ⟨27, a, b⟩ ⟨fn, h, o⟩ = (true, 0) from by show (decide (o.getLast? = some (-1)), (0 : Int)) = _; rw [hla]; simp [ho, hy1])
        have HOC := Lib.hid hoc
        have hoc2 := HOC.out
        clear hla hm hy hoc
        go_wp2_with fail
        go_returns
        rw [HF.out]
        exact ⟨0, rfl, fun _ => rfl, H3.out.1⟩
      · have hd5 : (y == -1) = false := by simp [hy1]
        have HF := Lib.hid (show fitsP flC c L ⟨27, a, b⟩ ⟨fn, h, o⟩ = (false, 0) from by show (decide (o.getLast? = some (-1)), (0 : Int)) = _; rw [hla]; simp [ho, hy1])
        have HOC := Lib.hid hoc
        have hoc2 := HOC.out
        clear hla hm hy hoc
        go_wp2_with fail
        go_returns
        rw [HF.out]
        exact ⟨0, rfl, fun _ => rfl, H3.out.1⟩
  · skip
    obtain ⟨f0, _, f2⟩ := H3.out.2.2.1
    by_cases hf0 : fn = 0
    · subst hf0
      by_cases ho : o = []
      · subst ho
        simp only [List.length_nil] at *
        go_wp2_with fail
        go_returns
        exact ⟨0, rfl, fun _ => rfl, H3.out.1⟩
      · have hol2 : 0 < o.length := List.length_pos_iff.2 ho
        have hd3 : ((o.length : Int) == 0) = false := by simp; omega
        have hd4 : (o.length == 0) = false := by simp; omega
        have HF := Lib.hid (show fitsP flC c L ⟨28, a, b⟩ ⟨0, h, o⟩ = (false, 0) from by show (decide ((0 : Nat) = 0) && decide (o = []), (0 : Int)) = _; rw [decide_eq_false ho, Bool.and_false])
        go_wp2_with fail
        go_returns
        rw [HF.out]
        exact ⟨0, rfl, fun _ => rfl, H3.out.1⟩
    · have hd1 : ((fn : Int) == 0) = false := by simp; omega
      have hd2 : (fn == 0) = false := by simp; omega
      have HF := Lib.hid (show fitsP flC c L ⟨28, a, b⟩ ⟨fn, h, o⟩ = (false, 0) from by show (decide (fn = 0) && decide (o = []), (0 : Int)) = _; rw [decide_eq_false hf0, Bool.false_and])
      go_wp2_with fail
      go_returns
      rw [HF.out]
      exact ⟨0, rfl, fun _ => rfl, H3.out.1⟩
end Go.Proofs.YtnhdefaagicejaaDoor
