/- The walk of step: a step is gone on from. -/
import Derived.Test.YtnhdefaagicejaaDoorCodeF
import Derived.Deep.CutRange
import Derived.Deep.CutBlock
namespace Go.Proofs.YtnhdefaagicejaaDoor
set_option linter.unusedSimpArgs false
set_option linter.unusedVariables false
open Go.RowKit

section
variable {P : Program} {ops : Array Oper} {Q : Exit → Act → World → Prop}
/-- Two operations may come up: either may be the next. -/
theorem seq_two (i j : Nat) {o p : Oper} {k : Nat} {listed : Array Bool} {a : Act} {w : World} (hi : ops[i]? = some o) (hj : ops[j]? = some p) (hr : Region.ready .any ops listed = [i, j]) (hwi : Region.wanted o (yielded ops a.tmps) = true) (hwj : Region.wanted p (yielded ops a.tmps) = true)
    (h : ∀ K : Act → World → Prop, (∀ a' w', (Below w.heap.size w w' ∧ Seq P ops Q k (listed.setIfInBounds i true) a' w') → K a' w') → o.wp P a w K Q)
    (h' : ∀ K : Act → World → Prop, (∀ a' w', (Below w.heap.size w w' ∧ Seq P ops Q k (listed.setIfInBounds j true) a' w') → K a' w') → p.wp P a w K Q) : Seq P ops Q (k + 1) listed a w := by
  refine wpAnyH_all hr (by simp) fun n hn => ?_
  have hn' : n = i ∨ n = j := by simpa using hn
  rcases hn' with rfl | rfl
  · unfold wpOp
    simp only [hi, hwi, if_true]
    exact .inl (h _ fun a' w' ⟨hb, hs⟩ => ⟨hb, wpAnyH_stronger (fun w'' h'' => hb.trans (h''.mono hb.size)) _ _ _ _ hs⟩)
  · unfold wpOp
    simp only [hj, hwj, if_true]
    exact .inl (h' _ fun a' w' ⟨hb, hs⟩ => ⟨hb, wpAnyH_stronger (fun w'' h'' => hb.trans (h''.mono hb.size)) _ _ _ _ hs⟩)
end
section
variable {P : Program} {ops : Array Oper} {Q : Exit → Act → World → Prop}
/-- Two operations may come up: either may be the next. -/
theorem seqx_two (i j : Nat) {X : Nat → Prop} {o p : Oper} {k : Nat} {listed : Array Bool} {a : Act} {w : World} (hi : ops[i]? = some o) (hj : ops[j]? = some p) (hr : Region.ready .any ops listed = [i, j]) (hwi : Region.wanted o (yielded ops a.tmps) = true) (hwj : Region.wanted p (yielded ops a.tmps) = true)
    (h : ∀ K : Act → World → Prop, (∀ a' w', (Keeps X w w' ∧ SeqX P ops Q X k (listed.setIfInBounds i true) a' w') → K a' w') → o.wp P a w K Q)
    (h' : ∀ K : Act → World → Prop, (∀ a' w', (Keeps X w w' ∧ SeqX P ops Q X k (listed.setIfInBounds j true) a' w') → K a' w') → p.wp P a w K Q) : SeqX P ops Q X (k + 1) listed a w := by
  refine wpAnyH_all hr (by simp) fun n hn => ?_
  have hn' : n = i ∨ n = j := by simpa using hn
  rcases hn' with rfl | rfl
  · unfold wpOp
    simp only [hi, hwi, if_true]
    exact .inl (h _ fun a' w' ⟨hb, hs⟩ => ⟨hb, wpAnyH_stronger (fun w'' h'' => hb.trans' h'') _ _ _ _ hs⟩)
  · unfold wpOp
    simp only [hj, hwj, if_true]
    exact .inl (h' _ fun a' w' ⟨hb, hs⟩ => ⟨hb, wpAnyH_stronger (fun w'' h'' => hb.trans' h'') _ _ _ _ hs⟩)
end
/-- The frame of a step that is seen. -/
theorem seq_lookup {o : Oper} {m k : Operand} {a : Act} {w : World} (ho : o.op = .lookup 54 m k false) {b : Nat} {V : Int → Option Value} (h : MapAt w b V) {n : Int} {v : Value} (hv : V n = some v) (hmv : a.eval m = .map (some b)) (hkv : a.eval k = .int .i64 n) :
    ∀ w', Below w.heap.size w w' → (execOp a.eval o).run Tryd.prog w' = .ok (.value v) w' := by
  intro w' hb
  have hr := run_lookup_int (P := Tryd.prog) (mty := 54) (kt := 3) (et := 87) (by kernel_rfl) (by kernel_rfl) (h.below hb) n _ (zeroFr _) false
  unfold execOp
  simp only [ho, hmv, hkv, hr, hv, Sem.run_bind, Sem.run_pure, Result.andThen_ok]
  rfl
theorem seq_ldIns {o : Oper} {x : Operand} {a : Act} {w : World} (ho : o.op = .load 50 x) {b f : Nat} {p q r : Int} (hx : a.eval x = .pointer (some ⟨b, f, none⟩)) (h0 : w.cell? ⟨b, f, none⟩ = some (.int .i64 p)) (h1 : w.cell? ⟨b, f + 1, none⟩ = some (.int .i64 q)) (h2 : w.cell? ⟨b, f + 2, none⟩ = some (.int .i64 r)) :
    ∀ w', Below w.heap.size w w' → (execOp a.eval o).run Tryd.prog w' = .ok (.value (.agg #[.int .i64 p, .int .i64 q, .int .i64 r])) w' := by
  intro w' hb
  have hblk := hb.block b (World.block_lt_of_cell? (a := ⟨b, f, none⟩) w h0)
  have c0 := (World.cell?_of_block (a := ⟨b, f, none⟩) hblk).trans h0
  have c1 := (World.cell?_of_block (a := ⟨b, f + 1, none⟩) hblk).trans h1
  have c2 := (World.cell?_of_block (a := ⟨b, f + 2, none⟩) hblk).trans h2
  have hu := Tryd.underlying50
  unfold execOp
  simp only [ho, hx]
  go_simp
theorem seq_ldInss {o : Oper} {x : Operand} {a : Act} {w : World} (ho : o.op = .load 33 x) {ad : Addr} {v : Value} (hx : a.eval x = .pointer (some ad)) (hc : w.cell? ad = some v) :
    ∀ w', Below w.heap.size w w' → (execOp a.eval o).run Tryd.prog w' = .ok (.value v) w' := by
  intro w' hb
  have hc' := (World.cell?_of_block (hb.block ad.block (World.block_lt_of_cell? (a := ad) w hc))).trans hc
  have hu := Tryd.underlying33
  unfold execOp
  simp only [ho, hx]
  go_simp
theorem Below.heap_two (w : World) (o p : Obj) (k : Nat) (hk : k < w.heap.size) : ((w.alloc o).alloc p).drew.heap[k]? = w.heap[k]? := by
  show ((w.alloc o).alloc p).heap[k]? = w.heap[k]?
  rw [Below.heap_alloc (w.alloc o) p k (by simp; omega), Below.heap_alloc w o k hk]
/-- Steps that are come to one behind the other; none: one of them can't be. -/
def runWays (c : CodeP) : List (Int × FrP) → (Int → Option FrP) → List Int → Option ((Int → Option FrP) × List Int)
  | [], S, W => some (S, W)
  | (d, g) :: ws, S, W => if comeOk c S d g = true then runWays c ws (comeS S d g) (comeW S W d) else none
/-- The height behind a step that is in order. -/
theorem fits_h {fl : List UInt8 → Bool} {c : CodeP} {L : List Int} {x : InsP} {f : FrP} (h0 : 0 ≤ x.op) (h1 : x.op ≤ 28) (hh : 0 ≤ f.h) (hok : (fitsP fl c L x f).1 = true) : 0 ≤ f.h + (fitsP fl c L x f).2 ∧ (fitsP fl c L x f).2 ≤ 1 := by
  obtain ⟨op, a, b⟩ := x
  obtain ⟨fn, h, o⟩ := f
  have hc := op_cases h0 h1
  simp only at hc hh
  rcases hc with rfl | rfl | rfl | rfl | rfl | rfl | rfl | rfl | rfl | rfl | rfl | rfl | rfl | rfl | rfl | rfl | rfl | rfl | rfl | rfl | rfl | rfl | rfl | rfl | rfl | rfl | rfl | rfl | rfl <;>
    simp [fitsP, betw] at hok ⊢ <;> omega
theorem comeS_len {S : Int → Option FrP} {d : Int} {g : FrP} {N : Nat} (h : ∀ y f, S y = some f → f.op.length ≤ N) (hg : g.op.length ≤ N) : ∀ y f, comeS S d g y = some f → f.op.length ≤ N := by
  intro y f hy
  unfold comeS at hy
  split at hy
  · simp only at hy
    split at hy
    · cases hy; exact hg
    · exact h y f hy
  · exact h y f hy
theorem comeW_len (S : Int → Option FrP) (W : List Int) (d : Int) : (comeW S W d).length ≤ W.length + 1 := by
  unfold comeW
  split
  · rw [List.length_append]; exact Nat.le_refl _
  · omega
/-- Ahead of the last step that is come to: the frame lies in its block. -/
def MidS (B : Nat) (A : Nat → Prop) (w : World) (c : CodeP) (L : List Int) (s : CS) (wo : Option Addr) (S : Int → Option FrP) (W : List Int) (z : Nat) (x : InsP) (f : FrP) (d : Int) (g8 : Nat) (w' : World) : Prop :=
  ∃ S1 W1 wo1 g ko kcap, ChkAt B A w' c L s wo1 S1 W1 ∧ w'.heap[g8]? = some (.cells #[.int .i64 (g.fn : Int), .int .i64 g.h, .slice ko g.op.length kcap] 87 (0, 0)) ∧ g.op.length ≤ kcap ∧ kcap ≤ 9223372036854775807 ∧ At w' ko (intsV g.op) ∧ (∀ b, blk ko = some b → ¬ s.X wo1 b ∧ b < w'.heap.size ∧ A b) ∧
    Keeps (s.X wo) w w' ∧ (∀ b, blk wo1 = some b → blk wo = some b ∨ w.heap.size ≤ b) ∧ runWays c (waysP z x f d) S W = (if comeOk c S1 ((z : Int) + 1) g = true then some (comeS S1 ((z : Int) + 1) g, comeW S1 W1 ((z : Int) + 1)) else none) ∧ g.op.length ≤ 1000000 ∧ (∀ y f', S1 y = some f' → f'.op.length ≤ 1000000) ∧ W1.length ≤ 1000000
/-- What a call to step leaves. -/
def Steps (B : Nat) (A : Nat → Prop) (w : World) (c : CodeP) (L : List Int) (s : CS) (wo : Option Addr) (S : Int → Option FrP) (W : List Int) (z : Int) (x : InsP) (f : FrP) (e : Ending) (w' : World) : Prop :=
  Keeps (s.X wo) w w' ∧ ((∃ S' W' wo', (fitsP flC c L x f).1 = true ∧ runWays c (waysP z x f (fitsP flC c L x f).2) S W = some (S', W') ∧ e = .returned (.tuple #[]) ∧ ChkAt B A w' c L s wo' S' W' ∧ ∀ b, blk wo' = some b → blk wo = some b ∨ w.heap.size ≤ b) ∨
    (((fitsP flC c L x f).1 = false ∨ (fitsP flC c L x f).1 = true ∧ runWays c (waysP z x f (fitsP flC c L x f).2) S W = none) ∧ e = .panicked [disP]))
theorem brk_end {B : Nat} {A : Nat → Prop} {w Wb W4 w5 : World} {c : CodeP} {L : List Int} {s : CS} {wo wo1 : Option Addr} {S S1 : Int → Option FrP} {W W1 : List Int} {z : Nat} {x : InsP} {f : FrP} {d : Int} {g8 : Nat} {oo co ao5 : Option Addr} {ocap cap5 : Nat} {y : Int}
    (hk0 : Keeps (s.X wo) w Wb) (hC : ChkAt B (fun b => A b ∧ b < w.heap.size) Wb c L s wo1 S1 W1) (hB : B ≤ w.heap.size) (hwo : ∀ b, blk wo1 = some b → blk wo = some b ∨ w.heap.size ≤ b) (hA : ∀ b, w.heap.size ≤ b → A b) (q0 : w.heap.size ≤ g8) (q1 : g8 < Wb.heap.size) (hx8 : ¬ s.X wo1 g8)
    (hb4 : Below Wb.heap.size Wb W4) (hco : ∀ b, blk co = some b → Wb.heap.size ≤ b ∧ b < W4.heap.size)
    (p1 : w5.ownsRow Wb.heap.size 3 1 (.slice ao5 (f.op.length + 1) cap5) (f.op.length + 1) (intsV (f.op ++ [y]))) (p2 : W4.grownBy w5 (blk co)) (hrow : w5.heap[g8]? = some (.cells #[.int .i64 (f.fn : Int), .int .i64 (f.h + d), .slice oo f.op.length ocap] 87 (0, 0)))
    (hr : runWays c (waysP z x f d) S W = (if comeOk c S1 ((z : Int) + 1) ⟨f.fn, f.h + d, f.op ++ [y]⟩ = true then some (comeS S1 ((z : Int) + 1) ⟨f.fn, f.h + d, f.op ++ [y]⟩, comeW S1 W1 ((z : Int) + 1)) else none))
    (hl : f.op.length ≤ 900000) (hSl : ∀ y f', S1 y = some f' → f'.op.length ≤ 1000000) (hWl : W1.length ≤ 1000000) :
    MidS B A w c L s wo S W z x f d g8 (w5.setCell ⟨g8, 2, none⟩ (.slice ao5 (f.op.length + 1) cap5)) := by
  have hs8 := hk0.size
  have hs4 := hb4.size
  have hs5 := p2.size
  generalize hF : w5.setCell ⟨g8, 2, none⟩ (.slice ao5 (f.op.length + 1) cap5) = F
  have hK5 : Keeps (fun b => b = g8) w5 F := by rw [← hF]; exact Keeps.of_grown (setCell_grown0 _ _ _ _) rfl
  have hK4 : Keeps (fun b => b = g8 ∨ Wb.heap.size ≤ b) W4 F := (Keeps.of_grown' p2 (fun b hb => .inr (hco b hb).1)).trans hK5 (fun i _ h => .inl h)
  have hK : Keeps (fun b => b = g8 ∨ Wb.heap.size ≤ b) Wb F := (Keeps.of_below hb4).trans' hK4
  have hao : ∀ b, blk ao5 = some b → Wb.heap.size ≤ b ∧ b < w5.heap.size := fun b hb => p1.lt b (by rw [own_slice]; exact hb)
  have hcap : f.op.length + 1 ≤ cap5 ∧ cap5 ≤ 9223372036854775807 := by
    rcases p1.2 with ⟨e, _⟩ | ⟨_, cap', cur, hv, _, _, hnc, hcm, _⟩
    · have := Value.slice.inj e
      omega
    · have := Value.slice.inj hv
      unfold maxLen at hcm
      omega
  have hXw : ∀ b, Wb.heap.size ≤ b → ¬ s.X wo1 b := fun b hb h => by have := (hC.Xl b h).2; omega
  refine ⟨S1, W1, wo1, ⟨f.fn, f.h + d, f.op ++ [y]⟩, ao5, cap5, (hC.put hK (fun b hb => ?_)).mono (fun b _ h => h.1), ?_, by simp; omega, hcap.2, (At.own p1).keeps hK5 (fun b hb _ h => by have := (hao b hb).1; omega), fun b hb => ⟨hXw b (hao b hb).1, by have := (hao b hb).2; have := hK5.size; omega, hA b (by have := (hao b hb).1; omega)⟩, hk0.trans hK (fun i hi h => by omega), hwo, hr, by simp; omega, hSl, hWl⟩
  · rcases hb with rfl | h
    · exact ⟨by omega, hx8, fun h => by have := h.2; omega⟩
    · exact ⟨by omega, hXw b h, fun h => by have := h.2; omega⟩
  · rw [← hF, setCell_row0 2 _ hrow]
    simp only [List.length_append, List.length_singleton]
    rfl
set_option maxRecDepth 100000 in
set_option maxHeartbeats 20000000 in
theorem step_any {B : Nat} {A : Nat → Prop} {w : World} {c : CodeP} {L : List Int} {s : CS} {wo : Option Addr} {S : Int → Option FrP} {W : List Int} (hc : ChkAt B A w c L s wo S W) (hp : Pre c) (hB : B ≤ w.heap.size) (hL : L.length = c.funs.length) (hLr : ∀ z ∈ L, R64i z) (hSl : ∀ z f, S z = some f → f.op.length ≤ 900000) (hWl : W.length ≤ 900000)
    (z : Nat) (hz : z < c.ins.length) (f : FrP) (hzf : S z = some f) (hh0 : 0 ≤ f.h) (hh1 : f.h ≤ 10000) (hfn : f.fn < c.funs.length) (hA : ∀ b, w.heap.size ≤ b → A b) :
    Calls Tryd.prog 33 #[.pointer (some ⟨s.cb, 0, none⟩), .int .i64 (z : Int)] w (Steps B A w c L s wo S W z c.ins[z] f) := by
  have HC := Lib.hid hc
  have HP := Lib.hid hp
  have HSl := Lib.hid hSl
  have HLR := Lib.hid hLr
  obtain ⟨V, hm, hVn, hVs⟩ := hc.seen
  obtain ⟨v, hVz, hfv⟩ := hVs z f hzf
  have HFV := Lib.hid hfv
  obtain ⟨oo, ocap, rfl, v2, v3, v4, v5⟩ := hfv
  obtain ⟨wcap, hrow, hq⟩ := hc.row
  have c0 : w.cell? ⟨s.cb, 0, none⟩ = some (.slice s.io c.ins.length s.icap) := cell_of_row _ _ 0 _ _ (0, 0) hrow
  have c5 : w.cell? ⟨s.cb, 5, none⟩ = some (.map (some s.mb)) := cell_of_row _ _ 5 _ _ (0, 0) hrow
  obtain ⟨ib, io, hio, i0, i1, i2⟩ := hc.code.insAt z hz
  obtain ⟨x, hxe⟩ : ∃ x, c.ins[z] = x := ⟨_, rfl⟩
  have hxr := hc.code.insR _ (List.getElem_mem hz)
  have hxo := hp.op _ (List.getElem_mem hz)
  rw [hxe] at i0 i1 i2 hxr hxo ⊢
  obtain ⟨op, a, b⟩ := x
  simp only at i0 i1 i2 hxr hxo
  rw [hio] at c0
  have hd := (Below.refl w.heap.size w).drew
  have H := Lib.hid (And.intro (show w.drew.cell? ⟨s.cb, 0, none⟩ = _ from c0) (And.intro (show w.drew.cell? ⟨s.cb, 5, none⟩ = _ from c5) (And.intro (hm.below hd) (And.intro hVz (And.intro (show w.drew.cell? ⟨ib, io + z * 3, none⟩ = _ from i0) (And.intro (show w.drew.cell? ⟨ib, io + z * 3 + 1, none⟩ = _ from i1) (show w.drew.cell? ⟨ib, io + z * 3 + 2, none⟩ = _ from i2)))))))
  have HX := Lib.hid (And.intro hxr (And.intro hxo hxe))
  have HO := Lib.hid (And.intro v2 (And.intro v3 (And.intro v4 v5)))
  have hol := hSl z f hzf
  clear hc hp hSl hLr hm hVn hVs hVz v2 v3 v4 v5 hrow hq c0 c5 hio i0 i1 i2 hxe hxr hxo hd
  go_enter Tryd.func33, Tryd.ntmps33
  go_upto_region 0 with (fail)
  go_cut [4, 5] from 9 to 23 (fun v4 v5 w' => ∃ g4 g5, v4 = .pointer (some ⟨g4, 0, none⟩) ∧ v5 = .pointer (some ⟨g5, 0, none⟩) ∧ g4 ≠ g5 ∧ w.heap.size ≤ g4 ∧ w.heap.size ≤ g5 ∧ w'.heap[g4]? = some (.cells #[.int .i64 (f.fn : Int), .int .i64 f.h, .slice oo f.op.length ocap] 87 (0, 0)) ∧ w'.heap[g5]? = some (.cells #[.int .i64 op, .int .i64 a, .int .i64 b] 50 (0, 0)) ∧ Below w.heap.size w w')
  case first =>
   have hcbl := HC.out.cbl
   have hmbl := HC.out.mb.2
   have hibl := World.block_lt_of_cell? (a := ⟨ib, io + z * 3, none⟩) w.drew H.out.2.2.2.2.1
   simp only [World.size_drew] at hibl
   refine seqx_start (fun j => w.heap.size ≤ j) (by kernel_rfl) ?_
   refine seqx_take 0 (v := ?_) rfl (by kernel_rfl) (fun _ _ _ h => h) (by rfl) (fun w' hw' => ?_) ?_
   rotate_left
   · go_simp; try with_reducible rfl
   try simp only [List.getElem_toArray, List.getElem_cons_succ, List.getElem_cons_zero, Act.put, List.setIfInBounds_toArray, List.set_cons_zero, List.set_cons_succ]
   refine seqx_take 1 (v := ?_) rfl (by kernel_rfl) (fun _ _ _ h => h) (by rfl) (fun w' hw' => ?_) ?_
   rotate_left
   · go_simp; try with_reducible rfl
   try simp only [List.getElem_toArray, List.getElem_cons_succ, List.getElem_cons_zero, Act.put, List.setIfInBounds_toArray, List.set_cons_zero, List.set_cons_succ]
   refine seqx_take 2 (v := ?_) rfl (by kernel_rfl) (fun _ _ _ h => h) (by rfl) (fun w' hw' => ?_) ?_
   rotate_left
   · go_simp; try with_reducible rfl
   try simp only [List.getElem_toArray, List.getElem_cons_succ, List.getElem_cons_zero, Act.put, List.setIfInBounds_toArray, List.set_cons_zero, List.set_cons_succ]
   refine seqx_take 3 rfl (by kernel_rfl) (fun _ _ _ h => h) (by rfl) (fun w' hw' => (seq_ldm rfl rfl (keeps_cell hw' (by intro h; simp at h; omega) H.out.2.1)) w' (Below.refl _ _)) ?_
   try simp only [List.getElem_toArray, List.getElem_cons_succ, List.getElem_cons_zero, Act.put, List.setIfInBounds_toArray, List.set_cons_zero, List.set_cons_succ]
   refine seqx_take 4 (v := ?_) rfl (by kernel_rfl) (fun _ _ _ h => h) (by rfl) (fun w' hw' => ?_) ?_
   rotate_left
   · go_simp; try with_reducible rfl
   try simp only [List.getElem_toArray, List.getElem_cons_succ, List.getElem_cons_zero, Act.put, List.setIfInBounds_toArray, List.set_cons_zero, List.set_cons_succ]
   refine seqx_take 5 rfl (by kernel_rfl) (fun _ _ _ h => h) (by rfl) (fun w' hw' => (seq_lookup rfl (H.out.2.2.1.keeps hw' (by intro h; omega)) H.out.2.2.2.1 rfl rfl) w' (Below.refl _ _)) ?_
   try simp only [List.getElem_toArray, List.getElem_cons_succ, List.getElem_cons_zero, Act.put, List.setIfInBounds_toArray, List.set_cons_zero, List.set_cons_succ]
   refine seqx_take 6 (v := ?_) rfl (by kernel_rfl) (fun _ _ _ h => h) (by rfl) (fun w' hw' => ?_) ?_
   rotate_left
   · go_simp; try with_reducible rfl
   try simp only [List.getElem_toArray, List.getElem_cons_succ, List.getElem_cons_zero, Act.put, List.setIfInBounds_toArray, List.set_cons_zero, List.set_cons_succ]
   refine seqx_take 7 (v := ?_) rfl (by kernel_rfl) (fun _ _ _ h => h) (by rfl) (fun w' hw' => ?_) ?_
   rotate_left
   · go_simp; try with_reducible rfl
   try simp only [List.getElem_toArray, List.getElem_cons_succ, List.getElem_cons_zero, Act.put, List.setIfInBounds_toArray, List.set_cons_zero, List.set_cons_succ]
   refine seqx_take 8 (v := ?_) rfl (by kernel_rfl) (fun _ _ _ h => h) (by rfl) (fun w' hw' => ?_) ?_
   rotate_left
   · go_simp; try with_reducible rfl
   try simp only [List.getElem_toArray, List.getElem_cons_succ, List.getElem_cons_zero, Act.put, List.setIfInBounds_toArray, List.set_cons_zero, List.set_cons_succ]
   refine seqx_take 9 (v := ?_) rfl (by kernel_rfl) (fun _ _ _ h => h) (by rfl) (fun w' hw' => ?_) ?_
   rotate_left
   · go_simp; try with_reducible rfl
   try simp only [List.getElem_toArray, List.getElem_cons_succ, List.getElem_cons_zero, Act.put, List.setIfInBounds_toArray, List.set_cons_zero, List.set_cons_succ]
   refine seqx_take 10 rfl (by kernel_rfl) (fun _ _ _ h => h) (by rfl) (fun w' hw' => (seq_ldInss rfl rfl (keeps_cell hw' (by intro h; simp at h; omega) H.out.1)) w' (Below.refl _ _)) ?_
   try simp only [List.getElem_toArray, List.getElem_cons_succ, List.getElem_cons_zero, Act.put, List.setIfInBounds_toArray, List.set_cons_zero, List.set_cons_succ]
   refine seqx_take 11 (v := ?_) rfl (by kernel_rfl) (fun _ _ _ h => h) (by rfl) (fun w' hw' => ?_) ?_
   rotate_left
   · go_simp; try with_reducible rfl
   try simp only [List.getElem_toArray, List.getElem_cons_succ, List.getElem_cons_zero, Act.put, List.setIfInBounds_toArray, List.set_cons_zero, List.set_cons_succ]
   refine seqx_take 12 (v := ?_) rfl (by kernel_rfl) (fun _ _ _ h => h) (by rfl) (fun w' hw' => ?_) ?_
   rotate_left
   · go_simp; try with_reducible rfl
   try simp only [List.getElem_toArray, List.getElem_cons_succ, List.getElem_cons_zero, Act.put, List.setIfInBounds_toArray, List.set_cons_zero, List.set_cons_succ]
   refine seqx_take 13 rfl (by kernel_rfl) (fun _ _ _ h => h) (by rfl) (fun w' hw' => (seq_ldIns rfl rfl (keeps_cell hw' (by intro h; simp at h; omega) H.out.2.2.2.2.1) (keeps_cell hw' (by intro h; simp at h; omega) H.out.2.2.2.2.2.1) (keeps_cell hw' (by intro h; simp at h; omega) H.out.2.2.2.2.2.2)) w' (Below.refl _ _)) ?_
   try simp only [List.getElem_toArray, List.getElem_cons_succ, List.getElem_cons_zero, Act.put, List.setIfInBounds_toArray, List.set_cons_zero, List.set_cons_succ]
   refine seqx_two 14 15 rfl rfl (by kernel_rfl) (by rfl) (by rfl) (fun KK hKK => ?_) (fun KK hKK => ?_)
   · skip
     go_wp2_with fail
     refine ⟨Keeps.alloc _ _ _, ?_⟩
     refine seqx_run 15 rfl (by kernel_rfl) (by rfl) (fun KK hKK => ?_)
     go_wp2_with fail
     refine ⟨Keeps.alloc _ _ _, ?_⟩
     refine seqx_run 16 rfl (by kernel_rfl) (by rfl) (fun KK hKK => ?_)
     go_wp2_with fail
     refine ⟨⟨rfl, rfl, rfl, by simp, fun k hk hne => (Below.heap_two _ _ _ k (by simp at hne; exact hne)).trans (Below.heap_two _ _ _ k (by simp at hne; exact hne)).symm⟩, ?_⟩
     refine seqx_run 17 rfl (by kernel_rfl) (by rfl) (fun KK hKK => ?_)
     go_wp2_with fail
     refine ⟨⟨rfl, rfl, rfl, by simp, fun k hk hne => (Below.heap_two _ _ _ k (by simp at hne; exact hne)).trans (Below.heap_two _ _ _ k (by simp at hne; exact hne)).symm⟩, ?_⟩
     refine seqx_done (by kernel_rfl) ?_
     go_wp2_with fail
     go_meet
     case rel =>
       refine ⟨w.heap.size, w.heap.size + 1, rfl, rfl, by omega, by omega, by omega, ?_, ?_, ?_⟩
       · exact (Below.heap_alloc (w.alloc _) _ w.heap.size (by simp)).trans (heap_alloc_new w _)
       · have hn := heap_alloc_new (w.alloc (.cells #[.int .i64 (f.fn : Int), .int .i64 f.h, .slice oo f.op.length ocap] 87)) (.cells #[.int .i64 op, .int .i64 a, .int .i64 b] 50)
         simp only [World.size_alloc] at hn
         exact hn
       · exact (((Below.refl _ w).alloc (Nat.le_refl _) _).alloc (by simp) _).drew
   · skip
     go_wp2_with fail
     refine ⟨Keeps.alloc _ _ _, ?_⟩
     refine seqx_run 14 rfl (by kernel_rfl) (by rfl) (fun KK hKK => ?_)
     go_wp2_with fail
     refine ⟨Keeps.alloc _ _ _, ?_⟩
     refine seqx_run 16 rfl (by kernel_rfl) (by rfl) (fun KK hKK => ?_)
     go_wp2_with fail
     refine ⟨⟨rfl, rfl, rfl, by simp, fun k hk hne => (Below.heap_two _ _ _ k (by simp at hne; exact hne)).trans (Below.heap_two _ _ _ k (by simp at hne; exact hne)).symm⟩, ?_⟩
     refine seqx_run 17 rfl (by kernel_rfl) (by rfl) (fun KK hKK => ?_)
     go_wp2_with fail
     refine ⟨⟨rfl, rfl, rfl, by simp, fun k hk hne => (Below.heap_two _ _ _ k (by simp at hne; exact hne)).trans (Below.heap_two _ _ _ k (by simp at hne; exact hne)).symm⟩, ?_⟩
     refine seqx_done (by kernel_rfl) ?_
     go_wp2_with fail
     go_meet
     case rel =>
       refine ⟨w.heap.size + 1, w.heap.size, rfl, rfl, by omega, by omega, by omega, ?_, ?_, ?_⟩
       · have hn := heap_alloc_new (w.alloc (.cells #[.int .i64 op, .int .i64 a, .int .i64 b] 50)) (.cells #[.int .i64 (f.fn : Int), .int .i64 f.h, .slice oo f.op.length ocap] 87)
         simp only [World.size_alloc] at hn
         exact hn
       · exact (Below.heap_alloc (w.alloc _) _ w.heap.size (by simp)).trans (heap_alloc_new w _)
       · exact (((Below.refl _ w).alloc (Nat.le_refl _) _).alloc (by simp) _).drew
  case rest =>
    obtain ⟨g4, g5, rfl, rfl, h45, hg4, hg5, hr4, hr5, hb⟩ := hcut
    have hbs := hb.size
    have hl4 := (Array.getElem?_eq_some_iff.1 hr4).1
    have hl5 := (Array.getElem?_eq_some_iff.1 hr5).1
    have k0 : wc.cell? ⟨g4, 0, none⟩ = some (.int .i64 (f.fn : Int)) := cell_of_row _ _ 0 _ _ (0, 0) hr4
    have k1 : wc.cell? ⟨g4, 1, none⟩ = some (.int .i64 f.h) := cell_of_row _ _ 1 _ _ (0, 0) hr4
    have k2 : wc.cell? ⟨g4, 2, none⟩ = some (.slice oo f.op.length ocap) := cell_of_row _ _ 2 _ _ (0, 0) hr4
    have j0 : wc.cell? ⟨g5, 0, none⟩ = some (.int .i64 op) := cell_of_row _ _ 0 _ _ (0, 0) hr5
    have j1 : wc.cell? ⟨g5, 1, none⟩ = some (.int .i64 a) := cell_of_row _ _ 1 _ _ (0, 0) hr5
    have j2 : wc.cell? ⟨g5, 2, none⟩ = some (.int .i64 b) := cell_of_row _ _ 2 _ _ (0, 0) hr5
    have HCC := Lib.hid (HC.out.below hb)
    have H1 := Lib.hid (And.intro hb (And.intro hr4 hr5))
    have hfits := fits_any HCC.out HP.out hL HLR.out ⟨op, a, b⟩ HX.out.1.2 HX.out.2.1.1 HX.out.2.1.2.1 f hh0 hh1 hfn (by omega) _ (fun _ => True) ((HFV.out.below hb).mono (fun _ _ => trivial))
    have HFI := Lib.hid hfits
    clear hr4 hr5 hb hfits
    go_wp2_with fail
    refine HFI.out.mono ?_
    rintro e w2 ⟨by_, rfl, hby, hb2⟩
    obtain ⟨r1, hr1⟩ : ∃ r1, (fitsP flC c L ⟨op, a, b⟩ f).1 = r1 := ⟨_, rfl⟩
    rw [hr1] at hby ⊢
    have HR1 := Lib.hid (And.intro hr1 hby)
    have hbs2 := hb2.size
    have H2 := Lib.hid (And.intro (H1.out.1.trans (hb2.mono hbs)) (And.intro ((hb2.block g4 hl4).trans H1.out.2.1) (And.intro ((hb2.block g5 hl5).trans H1.out.2.2) (HCC.out.below hb2))))
    clear hb2 hr1 hby k0 k1 k2 j0 j1 j2
    go_wp2_with fail
    cases r1 with
    | false =>
      refine (need_any false w2).mono ?_
      rintro e w3 ⟨hn, rfl⟩
      obtain ⟨_, rfl⟩ : True ∧ e = .panicked [disP] := by
        rcases hn with ⟨h, _⟩ | ⟨_, h⟩
        · cases h
        · exact ⟨trivial, h⟩
      clear hn
      go_wp2_with fail
      exact ⟨rfl, Keeps.of_below H2.out.1, .inr ⟨.inl HR1.out.1, rfl⟩⟩
    | true =>
      refine (need_any true w2).mono ?_
      rintro e w3 ⟨hn, rfl⟩
      obtain ⟨_, rfl⟩ : True ∧ e = .returned (.tuple #[]) := by
        rcases hn with ⟨_, h⟩ | ⟨h, _⟩
        · exact ⟨trivial, h⟩
        · cases h
      clear hn
      obtain rfl : by_ = (fitsP flC c L ⟨op, a, b⟩ f).2 := HR1.out.2 rfl
      have HF1 := Lib.hid HR1.out.1
      clear HR1
      obtain ⟨hd0, hd1⟩ := fits_h (x := ⟨op, a, b⟩) HX.out.2.1.1 HX.out.2.1.2.1 hh0 HF1.out
      obtain ⟨d, hd⟩ : ∃ d, (fitsP flC c L ⟨op, a, b⟩ f).2 = d := ⟨_, rfl⟩
      rw [hd] at hd0 hd1 ⊢
      have HD := Lib.hid hd
      clear hd
      have k0 : w2.cell? ⟨g4, 0, none⟩ = some (.int .i64 (f.fn : Int)) := cell_of_row _ _ 0 _ _ (0, 0) H2.out.2.1
      have k1 : w2.cell? ⟨g4, 1, none⟩ = some (.int .i64 f.h) := cell_of_row _ _ 1 _ _ (0, 0) H2.out.2.1
      have k2 : w2.cell? ⟨g4, 2, none⟩ = some (.slice oo f.op.length ocap) := cell_of_row _ _ 2 _ _ (0, 0) H2.out.2.1
      have j0 : w2.cell? ⟨g5, 0, none⟩ = some (.int .i64 op) := cell_of_row _ _ 0 _ _ (0, 0) H2.out.2.2.1
      go_upto_region 4 with (fail)
      clear k0 k1 k2 j0
      obtain ⟨W8, hW8⟩ : ∃ W8, w2.alloc (.cells #[.int .i64 (f.fn : Int), .int .i64 (f.h + d), .slice oo f.op.length ocap] 87) = W8 := ⟨_, rfl⟩
      rw [hW8]
      have hb8 : Below w2.heap.size w2 W8 := by rw [← hW8]; exact (Below.refl _ w2).alloc (Nat.le_refl _) _
      have hr8 : W8.heap[w2.heap.size]? = some (.cells #[.int .i64 (f.fn : Int), .int .i64 (f.h + d), .slice oo f.op.length ocap] 87 (0, 0)) := by rw [← hW8]; exact heap_alloc_new w2 _
      have hs8 : w2.heap.size < W8.heap.size := by rw [← hW8]; simp
      obtain ⟨g8, hg8⟩ : ∃ g8, w2.heap.size = g8 := ⟨_, rfl⟩
      have hl42 : g4 < w2.heap.size := by omega
      have hl52 : g5 < w2.heap.size := by omega
      have H8 := Lib.hid (And.intro (H2.out.1.trans (hb8.mono (by omega))) (And.intro ((hb8.block g4 hl42).trans H2.out.2.1) (And.intro ((hb8.block g5 hl52).trans H2.out.2.2.1) (And.intro (H2.out.2.2.2.below hb8) (by rw [hg8] at hr8; exact hr8)))))
      have hw8 : w.heap.size ≤ g8 ∧ g8 < W8.heap.size ∧ g4 < g8 ∧ g5 < g8 := by omega
      rw [hg8]
      clear hW8 hb8 hr8 hs8 hg8 hl42 hl52 H2 hbs2 HFI HCC H1 hbs hl4 hl5
      obtain ⟨q0, q1, q2, q3⟩ := hw8
      have j0 : W8.cell? ⟨g5, 0, none⟩ = some (.int .i64 op) := cell_of_row _ _ 0 _ _ (0, 0) H8.out.2.2.1
      have hnX : ∀ g, w.heap.size ≤ g → ¬ s.X wo g := fun g hg h => by have := (HC.out.Xl g h).2; omega
      have HNX := Lib.hid hnX
      have HG := Lib.hid (show FrV W8 (fun b => ¬ s.X wo b ∧ b < W8.heap.size ∧ A b) (.agg #[.int .i64 (f.fn : Int), .int .i64 (f.h + d), .slice oo f.op.length ocap]) ⟨f.fn, f.h + d, f.op⟩ from ⟨oo, ocap, rfl, HO.out.1, HO.out.2.1, HO.out.2.2.1.below H8.out.1, fun b hb => ⟨(HO.out.2.2.2 b hb).1, by have := (HO.out.2.2.2 b hb).2.1; omega, (HO.out.2.2.2 b hb).2.2⟩⟩)
      have HCOME := fun (q : Int) (hq : R64i q) => come_any H8.out.2.2.2.1 (by omega) HP.out.i2 (fun y f' hy => Nat.le_trans (HSl.out y f' hy) (by decide)) (by omega) q hq ⟨f.fn, f.h + d, f.op⟩ (by show f.op.length ≤ 1000000; omega) _ HG.out
      have HCM := Lib.hid HCOME
      clear HCOME hnX
      go_upto_block 0 with (fail)
      go_cut [] from 43 to 111 (fun w' => MidS B A w c L s wo S W z ⟨op, a, b⟩ f d g8 w')
      case first =>
        have hcs := op_cases HX.out.2.1.1 HX.out.2.1.2.1
        try simp only at hcs
        clear j0
        have HBASE : runWays c (waysP z ⟨op, a, b⟩ f d) S W = (if comeOk c S ((z : Int) + 1) ⟨f.fn, f.h + d, f.op⟩ = true then some (comeS S ((z : Int) + 1) ⟨f.fn, f.h + d, f.op⟩, comeW S W ((z : Int) + 1)) else none) → MidS B A w c L s wo S W z ⟨op, a, b⟩ f d g8 W8 := fun hr =>
          ⟨S, W, wo, ⟨f.fn, f.h + d, f.op⟩, oo, ocap, H8.out.2.2.2.1, H8.out.2.2.2.2, HO.out.1, HO.out.2.1, HO.out.2.2.1.below H8.out.1, fun b hb => ⟨(HO.out.2.2.2 b hb).1, by have := (HO.out.2.2.2 b hb).2.1; omega, (HO.out.2.2.2 b hb).2.2⟩, Keeps.of_below H8.out.1, fun b hb => .inl hb, hr, by show f.op.length ≤ 1000000; omega, fun y f' hy => Nat.le_trans (HSl.out y f' hy) (by decide), by omega⟩
        have HBS := Lib.hid HBASE
        clear HBASE
        rcases hcs with rfl | rfl | rfl | rfl | rfl | rfl | rfl | rfl | rfl | rfl | rfl | rfl | rfl | rfl | rfl | rfl | rfl | rfl | rfl | rfl | rfl | rfl | rfl | rfl | rfl | rfl | rfl | rfl | rfl
        · skip
          go_wp2_with fail
          go_meet
          case rel => exact HBS.out (by simp [waysP, runWays])
        · skip
          go_wp2_with fail
          go_meet
          case rel => exact HBS.out (by simp [waysP, runWays])
        · skip
          go_wp2_with fail
          go_meet
          case rel => exact HBS.out (by simp [waysP, runWays])
        · skip
          go_wp2_with fail
          go_meet
          case rel => exact HBS.out (by simp [waysP, runWays])
        · skip
          go_wp2_with fail
          go_meet
          case rel => exact HBS.out (by simp [waysP, runWays])
        · skip
          go_wp2_with fail
          go_meet
          case rel => exact HBS.out (by simp [waysP, runWays])
        · skip
          go_wp2_with fail
          go_meet
          case rel => exact HBS.out (by simp [waysP, runWays])
        · skip
          go_wp2_with fail
          go_meet
          case rel => exact HBS.out (by simp [waysP, runWays])
        · skip
          go_wp2_with fail
          go_meet
          case rel => exact HBS.out (by simp [waysP, runWays])
        · skip
          go_wp2_with fail
          go_meet
          case rel => exact HBS.out (by simp [waysP, runWays])
        · skip
          go_wp2_with fail
          go_meet
          case rel => exact HBS.out (by simp [waysP, runWays])
        · skip
          go_wp2_with fail
          go_meet
          case rel => exact HBS.out (by simp [waysP, runWays])
        · skip
          go_wp2_with fail
          go_meet
          case rel => exact HBS.out (by simp [waysP, runWays])
        · skip
          go_wp2_with fail
          go_meet
          case rel => exact HBS.out (by simp [waysP, runWays])
        · skip
          go_wp2_with fail
          refine bodyPost_ret (results_none rfl _ _ _) rfl ?_
          exact ⟨Keeps.of_below H8.out.1, .inl ⟨S, W, wo, HF1.out, rfl, rfl, H8.out.2.2.2.1, fun b hb => .inl hb⟩⟩
        · skip
          have j1 : W8.cell? ⟨g5, 1, none⟩ = some (.int .i64 a) := cell_of_row _ _ 1 _ _ (0, 0) H8.out.2.2.1
          have k0 : W8.cell? ⟨g8, 0, none⟩ = some (.int .i64 (f.fn : Int)) := cell_of_row _ _ 0 _ _ (0, 0) H8.out.2.2.2.2
          have k1 : W8.cell? ⟨g8, 1, none⟩ = some (.int .i64 (f.h + d)) := cell_of_row _ _ 1 _ _ (0, 0) H8.out.2.2.2.2
          have k2 : W8.cell? ⟨g8, 2, none⟩ = some (.slice oo f.op.length ocap) := cell_of_row _ _ 2 _ _ (0, 0) H8.out.2.2.2.2
          go_wp2_with fail
          refine (HCM.out a HX.out.1.2.1).mono ?_
          rintro e w3 ⟨hk3, hres⟩
          rcases hres with ⟨hok, rfl, wo3, hch3, hwo3⟩ | ⟨hno, rfl⟩
          · have HCH := Lib.hid (And.intro hk3 (And.intro hok (And.intro hch3 hwo3)))
            have hs3 := hk3.size
            clear hk3 hok hch3 hwo3 k0 k1 k2 j1
            go_wp2_with fail
            refine bodyPost_ret (results_none rfl _ _ _) rfl ?_
            exact ⟨(Keeps.of_below H8.out.1).trans' HCH.out.1, .inl ⟨_, _, wo3, HF1.out, by rw [HD.out]; simp [waysP, runWays, HCH.out.2.1], rfl, HCH.out.2.2.1, fun b hb => (HCH.out.2.2.2 b hb).imp id (fun h => by omega)⟩⟩
          · have HNO := Lib.hid (And.intro hk3 hno)
            clear hk3 hno k0 k1 k2 j1
            go_wp2_with fail
            exact ⟨rfl, (Keeps.of_below H8.out.1).trans' HNO.out.1, .inr ⟨.inr ⟨HF1.out, by rw [HD.out]; simp [waysP, runWays, HNO.out.2]⟩, rfl⟩⟩
        · skip
          have j1 : W8.cell? ⟨g5, 1, none⟩ = some (.int .i64 a) := cell_of_row _ _ 1 _ _ (0, 0) H8.out.2.2.1
          have k0 : W8.cell? ⟨g8, 0, none⟩ = some (.int .i64 (f.fn : Int)) := cell_of_row _ _ 0 _ _ (0, 0) H8.out.2.2.2.2
          have k1 : W8.cell? ⟨g8, 1, none⟩ = some (.int .i64 (f.h + d)) := cell_of_row _ _ 1 _ _ (0, 0) H8.out.2.2.2.2
          have k2 : W8.cell? ⟨g8, 2, none⟩ = some (.slice oo f.op.length ocap) := cell_of_row _ _ 2 _ _ (0, 0) H8.out.2.2.2.2
          go_wp2_with fail
          refine (HCM.out a HX.out.1.2.1).mono ?_
          rintro e w3 ⟨hk3, hres⟩
          rcases hres with ⟨hok, rfl, wo3, hch3, hwo3⟩ | ⟨hno, rfl⟩
          · have HCH := Lib.hid (And.intro hk3 (And.intro hok (And.intro hch3 hwo3)))
            have hs3 := hk3.size
            clear hk3 hok hch3 hwo3 k0 k1 k2 j1
            go_wp2_with fail
            go_meet
            case rel =>
              refine ⟨comeS S a ⟨f.fn, f.h + d, f.op⟩, comeW S W a, wo3, ⟨f.fn, f.h + d, f.op⟩, oo, ocap, HCH.out.2.2.1, (HCH.out.1.block g8 q1 (HNX.out g8 q0)).trans H8.out.2.2.2.2, HO.out.1, HO.out.2.1, (HO.out.2.2.1.below H8.out.1).keeps HCH.out.1 (fun b hb _ => (HO.out.2.2.2 b hb).1), fun b hb => ⟨fun h => ?_, by have := (HO.out.2.2.2 b hb).2.1; omega, (HO.out.2.2.2 b hb).2.2⟩, (Keeps.of_below H8.out.1).trans' HCH.out.1, fun b hb => (HCH.out.2.2.2 b hb).imp id (fun h => by omega), by simp [waysP, runWays, HCH.out.2.1], by show f.op.length ≤ 1000000; omega, comeS_len (fun y f' hy => Nat.le_trans (HSl.out y f' hy) (by decide)) (by show f.op.length ≤ 1000000; omega), by have := comeW_len S W a; omega⟩
              have hbx := HO.out.2.2.2 b hb
              rcases h with h | h | h
              · exact hbx.1 (.inl h)
              · exact hbx.1 (.inr (.inl h))
              · rcases HCH.out.2.2.2 b h with h' | h'
                · exact hbx.1 (.inr (.inr h'))
                · omega
          · have HNO := Lib.hid (And.intro hk3 hno)
            clear hk3 hno k0 k1 k2 j1
            go_wp2_with fail
            exact ⟨rfl, (Keeps.of_below H8.out.1).trans' HNO.out.1, .inr ⟨.inr ⟨HF1.out, by rw [HD.out]; simp [waysP, runWays, HNO.out.2]⟩, rfl⟩⟩
        · skip
          go_wp2_with fail
          go_meet
          case rel => exact HBS.out (by simp [waysP, runWays])
        · skip
          go_wp2_with fail
          go_meet
          case rel => exact HBS.out (by simp [waysP, runWays])
        · skip
          go_wp2_with fail
          go_meet
          case rel => exact HBS.out (by simp [waysP, runWays])
        · skip
          have j2 : W8.cell? ⟨g5, 2, none⟩ = some (.int .i64 b) := cell_of_row _ _ 2 _ _ (0, 0) H8.out.2.2.1
          have k0 : W8.cell? ⟨g8, 0, none⟩ = some (.int .i64 (f.fn : Int)) := cell_of_row _ _ 0 _ _ (0, 0) H8.out.2.2.2.2
          have k1 : W8.cell? ⟨g8, 1, none⟩ = some (.int .i64 (f.h + d)) := cell_of_row _ _ 1 _ _ (0, 0) H8.out.2.2.2.2
          have k2 : W8.cell? ⟨g8, 2, none⟩ = some (.slice oo f.op.length ocap) := cell_of_row _ _ 2 _ _ (0, 0) H8.out.2.2.2.2
          go_wp2_with fail
          refine (HCM.out b HX.out.1.2.2).mono ?_
          rintro e w3 ⟨hk3, hres⟩
          rcases hres with ⟨hok, rfl, wo3, hch3, hwo3⟩ | ⟨hno, rfl⟩
          · have HCH := Lib.hid (And.intro hk3 (And.intro hok (And.intro hch3 hwo3)))
            have hs3 := hk3.size
            clear hk3 hok hch3 hwo3 k0 k1 k2 j2
            go_wp2_with fail
            go_meet
            case rel =>
              refine ⟨comeS S b ⟨f.fn, f.h + d, f.op⟩, comeW S W b, wo3, ⟨f.fn, f.h + d, f.op⟩, oo, ocap, HCH.out.2.2.1, (HCH.out.1.block g8 q1 (HNX.out g8 q0)).trans H8.out.2.2.2.2, HO.out.1, HO.out.2.1, (HO.out.2.2.1.below H8.out.1).keeps HCH.out.1 (fun b hb _ => (HO.out.2.2.2 b hb).1), fun b hb => ⟨fun h => ?_, by have := (HO.out.2.2.2 b hb).2.1; omega, (HO.out.2.2.2 b hb).2.2⟩, (Keeps.of_below H8.out.1).trans' HCH.out.1, fun b hb => (HCH.out.2.2.2 b hb).imp id (fun h => by omega), by simp [waysP, runWays, HCH.out.2.1], by show f.op.length ≤ 1000000; omega, comeS_len (fun y f' hy => Nat.le_trans (HSl.out y f' hy) (by decide)) (by show f.op.length ≤ 1000000; omega), by have := comeW_len S W b; omega⟩
              have hbx := HO.out.2.2.2 b hb
              rcases h with h | h | h
              · exact hbx.1 (.inl h)
              · exact hbx.1 (.inr (.inl h))
              · rcases HCH.out.2.2.2 b h with h' | h'
                · exact hbx.1 (.inr (.inr h'))
                · omega
          · have HNO := Lib.hid (And.intro hk3 hno)
            clear hk3 hno k0 k1 k2 j2
            go_wp2_with fail
            exact ⟨rfl, (Keeps.of_below H8.out.1).trans' HNO.out.1, .inr ⟨.inr ⟨HF1.out, by rw [HD.out]; simp [waysP, runWays, HNO.out.2]⟩, rfl⟩⟩
        · skip
          have j2 : W8.cell? ⟨g5, 2, none⟩ = some (.int .i64 b) := cell_of_row _ _ 2 _ _ (0, 0) H8.out.2.2.1
          have k0 : W8.cell? ⟨g8, 0, none⟩ = some (.int .i64 (f.fn : Int)) := cell_of_row _ _ 0 _ _ (0, 0) H8.out.2.2.2.2
          have k1 : W8.cell? ⟨g8, 1, none⟩ = some (.int .i64 (f.h + d)) := cell_of_row _ _ 1 _ _ (0, 0) H8.out.2.2.2.2
          have k2 : W8.cell? ⟨g8, 2, none⟩ = some (.slice oo f.op.length ocap) := cell_of_row _ _ 2 _ _ (0, 0) H8.out.2.2.2.2
          go_wp2_with fail
          refine (HCM.out b HX.out.1.2.2).mono ?_
          rintro e w3 ⟨hk3, hres⟩
          rcases hres with ⟨hok, rfl, wo3, hch3, hwo3⟩ | ⟨hno, rfl⟩
          · have HCH := Lib.hid (And.intro hk3 (And.intro hok (And.intro hch3 hwo3)))
            have hs3 := hk3.size
            clear hk3 hok hch3 hwo3 k0 k1 k2 j2
            go_wp2_with fail
            go_meet
            case rel =>
              refine ⟨comeS S b ⟨f.fn, f.h + d, f.op⟩, comeW S W b, wo3, ⟨f.fn, f.h + d, f.op⟩, oo, ocap, HCH.out.2.2.1, (HCH.out.1.block g8 q1 (HNX.out g8 q0)).trans H8.out.2.2.2.2, HO.out.1, HO.out.2.1, (HO.out.2.2.1.below H8.out.1).keeps HCH.out.1 (fun b hb _ => (HO.out.2.2.2 b hb).1), fun b hb => ⟨fun h => ?_, by have := (HO.out.2.2.2 b hb).2.1; omega, (HO.out.2.2.2 b hb).2.2⟩, (Keeps.of_below H8.out.1).trans' HCH.out.1, fun b hb => (HCH.out.2.2.2 b hb).imp id (fun h => by omega), by simp [waysP, runWays, HCH.out.2.1], by show f.op.length ≤ 1000000; omega, comeS_len (fun y f' hy => Nat.le_trans (HSl.out y f' hy) (by decide)) (by show f.op.length ≤ 1000000; omega), by have := comeW_len S W b; omega⟩
              have hbx := HO.out.2.2.2 b hb
              rcases h with h | h | h
              · exact hbx.1 (.inl h)
              · exact hbx.1 (.inr (.inl h))
              · rcases HCH.out.2.2.2 b h with h' | h'
                · exact hbx.1 (.inr (.inr h'))
                · omega
          · have HNO := Lib.hid (And.intro hk3 hno)
            clear hk3 hno k0 k1 k2 j2
            go_wp2_with fail
            exact ⟨rfl, (Keeps.of_below H8.out.1).trans' HNO.out.1, .inr ⟨.inr ⟨HF1.out, by rw [HD.out]; simp [waysP, runWays, HNO.out.2]⟩, rfl⟩⟩
        · skip
          have j2 : W8.cell? ⟨g5, 2, none⟩ = some (.int .i64 b) := cell_of_row _ _ 2 _ _ (0, 0) H8.out.2.2.1
          have k0 : W8.cell? ⟨g8, 0, none⟩ = some (.int .i64 (f.fn : Int)) := cell_of_row _ _ 0 _ _ (0, 0) H8.out.2.2.2.2
          have k1 : W8.cell? ⟨g8, 1, none⟩ = some (.int .i64 (f.h + d)) := cell_of_row _ _ 1 _ _ (0, 0) H8.out.2.2.2.2
          have k2 : W8.cell? ⟨g8, 2, none⟩ = some (.slice oo f.op.length ocap) := cell_of_row _ _ 2 _ _ (0, 0) H8.out.2.2.2.2
          go_wp2_with fail
          refine (HCM.out b HX.out.1.2.2).mono ?_
          rintro e w3 ⟨hk3, hres⟩
          rcases hres with ⟨hok, rfl, wo3, hch3, hwo3⟩ | ⟨hno, rfl⟩
          · have HCH := Lib.hid (And.intro hk3 (And.intro hok (And.intro hch3 hwo3)))
            have hs3 := hk3.size
            clear hk3 hok hch3 hwo3 k0 k1 k2 j2
            go_wp2_with fail
            go_meet
            case rel =>
              refine ⟨comeS S b ⟨f.fn, f.h + d, f.op⟩, comeW S W b, wo3, ⟨f.fn, f.h + d, f.op⟩, oo, ocap, HCH.out.2.2.1, (HCH.out.1.block g8 q1 (HNX.out g8 q0)).trans H8.out.2.2.2.2, HO.out.1, HO.out.2.1, (HO.out.2.2.1.below H8.out.1).keeps HCH.out.1 (fun b hb _ => (HO.out.2.2.2 b hb).1), fun b hb => ⟨fun h => ?_, by have := (HO.out.2.2.2 b hb).2.1; omega, (HO.out.2.2.2 b hb).2.2⟩, (Keeps.of_below H8.out.1).trans' HCH.out.1, fun b hb => (HCH.out.2.2.2 b hb).imp id (fun h => by omega), by simp [waysP, runWays, HCH.out.2.1], by show f.op.length ≤ 1000000; omega, comeS_len (fun y f' hy => Nat.le_trans (HSl.out y f' hy) (by decide)) (by show f.op.length ≤ 1000000; omega), by have := comeW_len S W b; omega⟩
              have hbx := HO.out.2.2.2 b hb
              rcases h with h | h | h
              · exact hbx.1 (.inl h)
              · exact hbx.1 (.inr (.inl h))
              · rcases HCH.out.2.2.2 b h with h' | h'
                · exact hbx.1 (.inr (.inr h'))
                · omega
          · have HNO := Lib.hid (And.intro hk3 hno)
            clear hk3 hno k0 k1 k2 j2
            go_wp2_with fail
            exact ⟨rfl, (Keeps.of_below H8.out.1).trans' HNO.out.1, .inr ⟨.inr ⟨HF1.out, by rw [HD.out]; simp [waysP, runWays, HNO.out.2]⟩, rfl⟩⟩
        · skip
          go_wp2_with fail
          refine bodyPost_ret (results_none rfl _ _ _) rfl ?_
          exact ⟨Keeps.of_below H8.out.1, .inl ⟨S, W, wo, HF1.out, rfl, rfl, H8.out.2.2.2.1, fun b hb => .inl hb⟩⟩
        · skip
          have k0 : W8.cell? ⟨g4, 0, none⟩ = some (.int .i64 (f.fn : Int)) := cell_of_row _ _ 0 _ _ (0, 0) H8.out.2.1
          have k1 : W8.cell? ⟨g4, 1, none⟩ = some (.int .i64 f.h) := cell_of_row _ _ 1 _ _ (0, 0) H8.out.2.1
          have k2 : W8.cell? ⟨g4, 2, none⟩ = some (.slice oo f.op.length ocap) := cell_of_row _ _ 2 _ _ (0, 0) H8.out.2.1
          have j1 : W8.cell? ⟨g5, 1, none⟩ = some (.int .i64 a) := cell_of_row _ _ 1 _ _ (0, 0) H8.out.2.2.1
          have HCX := Lib.hid (come_any ((HC.out.mono (E := fun b => A b ∧ b < w.heap.size) (fun b hb h => ⟨h, hb⟩)).below H8.out.1) (by omega) HP.out.i2 (fun y f' hy => Nat.le_trans (HSl.out y f' hy) (by decide)) (by omega) a HX.out.1.2.1 ⟨f.fn, f.h + 1, f.op⟩ (by show f.op.length ≤ 1000000; omega) (.agg #[.int .i64 (f.fn : Int), .int .i64 (f.h + 1), .slice oo f.op.length ocap]) ⟨oo, ocap, rfl, HO.out.1, HO.out.2.1, HO.out.2.2.1.below H8.out.1, fun b hb => ⟨(HO.out.2.2.2 b hb).1, by have := (HO.out.2.2.2 b hb).2.1; omega, (HO.out.2.2.2 b hb).2.2, (HO.out.2.2.2 b hb).2.1⟩⟩)
          go_wp2_with fail
          refine HCX.out.mono ?_
          rintro e w3 ⟨hk3, hres⟩
          rcases hres with ⟨hok, rfl, wo3, hch3, hwo3⟩ | ⟨hno, rfl⟩
          · have HCH := Lib.hid (And.intro hk3 (And.intro hok (And.intro hch3 hwo3)))
            have hs3 := hk3.size
            have HK0 := Lib.hid ((Keeps.of_below (X := s.X wo) H8.out.1).trans' hk3)
            have HRW := Lib.hid (And.intro ((hk3.block g8 q1 (HNX.out g8 q0)).trans H8.out.2.2.2.2) (And.intro ((hk3.block g4 (by omega) (HNX.out g4 hg4)).trans H8.out.2.1) (And.intro ((hk3.block g5 (by omega) (HNX.out g5 hg5)).trans H8.out.2.2.1) (show ¬ s.X wo3 g8 from fun h => by
              rcases h with h | h | h
              · exact HNX.out g8 q0 (.inl h)
              · exact HNX.out g8 q0 (.inr (.inl h))
              · rcases hwo3 g8 h with h' | h'
                · exact HNX.out g8 q0 (.inr (.inr h'))
                · omega))))
            have HAT := Lib.hid (show At w3.drew oo (intsV f.op) from ((HO.out.2.2.1.below H8.out.1).keeps hk3 (fun b hb _ => (HO.out.2.2.2 b hb).1)).below (Below.refl _ w3).drew)
            have e2 : w3.drew.cell? ⟨g4, 2, none⟩ = some (.slice oo f.op.length ocap) := cell_of_row w3 _ 2 _ _ (0, 0) HRW.out.2.1
            have e1 : w3.drew.cell? ⟨g5, 1, none⟩ = some (.int .i64 a) := cell_of_row w3 _ 1 _ _ (0, 0) HRW.out.2.2.1
            have HEE := Lib.hid (And.intro e2 e1)
            clear hk3 hok hch3 hwo3 k0 k1 k2 j1 e1 e2
            go_wp2_with fail
            refine seqx_start (fun j => w3.heap.size ≤ j ∨ j = g8) (by kernel_rfl) ?_
            refine seqx_take 0 (v := ?_) rfl (by kernel_rfl) (fun _ _ _ h => h) (by rfl) (fun w' hw' => ?_) ?_
            rotate_left
            · go_simp; try with_reducible rfl
            try simp only [List.getElem_toArray, List.getElem_cons_succ, List.getElem_cons_zero, Act.put, List.setIfInBounds_toArray, List.set_cons_zero, List.set_cons_succ]
            refine seqx_take 1 rfl (by kernel_rfl) (fun _ _ _ h => h) (by rfl) (fun w' hw' => (seq_ldII rfl rfl (keeps_cell hw' (by intro h; simp at h; omega) HEE.out.1)) w' (Below.refl _ _)) ?_
            try simp only [List.getElem_toArray, List.getElem_cons_succ, List.getElem_cons_zero, Act.put, List.setIfInBounds_toArray, List.set_cons_zero, List.set_cons_succ]
            refine seqx_take 3 (v := ?_) rfl (by kernel_rfl) (fun _ _ _ h => h) (by rfl) (fun w' hw' => ?_) ?_
            rotate_left
            · go_simp; try with_reducible rfl
            try simp only [List.getElem_toArray, List.getElem_cons_succ, List.getElem_cons_zero, Act.put, List.setIfInBounds_toArray, List.set_cons_zero, List.set_cons_succ]
            refine seqx_take 4 rfl (by kernel_rfl) (fun _ _ _ h => h) (by rfl) (fun w' hw' => (seq_ldi rfl rfl (keeps_cell hw' (by intro h; simp at h; omega) HEE.out.2)) w' (Below.refl _ _)) ?_
            try simp only [List.getElem_toArray, List.getElem_cons_succ, List.getElem_cons_zero, Act.put, List.setIfInBounds_toArray, List.set_cons_zero, List.set_cons_succ]
            refine seqx_two 2 5 rfl rfl (by kernel_rfl) (by rfl) (by rfl) (fun KK hKK => ?_) (fun KK hKK => ?_)
            · skip
              go_wp2_with fail
              refine (cloneI_any oo f.op ocap (by omega) w3.drew HAT.out).mono ?_
              rintro e w4 ⟨co, ccap, rfl, hown, hb4⟩
              have hs4 := hb4.size
              simp only [World.size_drew] at hs4
              have HW := Lib.hid (And.intro hown hb4)
              clear hown hb4
              go_wp2_with fail
              refine ⟨Keeps.of_below HW.out.2, ?_⟩
              refine seqx_run 5 rfl (by kernel_rfl) (by rfl) (fun KK hKK => ?_)
              go_wp2_with fail
              refine ⟨Keeps.alloc _ _ _, ?_⟩
              have hown := HW.out.1.alloc (.cells #[.int .i64 a] 3)
              have hb := HW.out.2.trans (((Below.refl w4.heap.size w4).alloc (Nat.le_refl _) (.cells #[.int .i64 a] 3)).mono HW.out.2.size)
              have hat := At.new w4 #[.int .i64 a] 3
              have hco : ∀ b, blk co = some b → w3.heap.size ≤ b ∧ b < (w4.alloc (.cells #[.int .i64 a] 3)).heap.size := fun b hb => by
                have := HW.out.1.lt b (by rw [own_slice]; exact hb)
                simp at this ⊢
                omega
              have hs44 : w4.heap.size < (w4.alloc (.cells #[.int .i64 a] 3)).heap.size := by simp
              have hs33 : w3.heap.size ≤ w3.drew.heap.size ∧ w3.drew.heap.size ≤ w3.heap.size := by simp
              refine seqx_run 6 rfl (by kernel_rfl) (by rfl) (fun KK hKK => ?_)
              refine wp_ints _ _ rfl w3.drew.heap.size co ccap f.op f.op.length rfl hown _ 1 1 [a] rfl hat rfl (by omega) (by have := hb.size; omega) ?_
              intro ao5 cap5 w5 p1 p2 p3
              have hrow5 : w5.heap[g8]? = _ := (p2.block g8 (by have := hb.size; omega) (fun h => by have := (hco g8 h.symm).1; omega)).trans ((hb.block g8 (by omega)).trans HRW.out.1)
              have c65 : w5.cell? ⟨g8, 2, none⟩ = some (.slice oo f.op.length ocap) := cell_of_row _ _ 2 _ _ (0, 0) hrow5
              have f65 := frozen_of_row _ g8 2 _ _ hrow5
              have PP := Lib.hid (And.intro p1 (And.intro p2 (And.intro (Lib.hid hrow5) (And.intro (Lib.hid hb) hco))))
              refine hKK _ _ ⟨Keeps.of_grown' p2 (fun b hb => .inl (by have := (hco b hb).1; omega)), ?_⟩
              clear p1 p2 p3 hrow5
              refine seqx_take 7 (v := ?_) rfl (by kernel_rfl) (fun _ _ _ h => h) (by rfl) (fun w' hw' => ?_) ?_
              rotate_left
              · go_simp; try with_reducible rfl
              try simp only [List.getElem_toArray, List.getElem_cons_succ, List.getElem_cons_zero, Act.put, List.setIfInBounds_toArray, List.set_cons_zero, List.set_cons_succ]
              refine seqx_run 8 rfl (by kernel_rfl) (by rfl) (fun KK hKK => ?_)
              go_wp2_with fail
              refine ⟨Keeps.of_grown (setCell_grown0 _ _ _ _) (.inr rfl), ?_⟩
              clear c65 f65
              refine seqx_done (by kernel_rfl) ?_
              go_wp2_with fail
              go_meet
              case rel => exact brk_end HK0.out HCH.out.2.2.1 hB (fun b hb => (HCH.out.2.2.2 b hb).imp id (fun h => by omega)) hA q0 (by omega) HRW.out.2.2.2 ((Below.refl _ w3).drew.trans PP.out.2.2.2.1.out) (fun b hb => PP.out.2.2.2.2 b hb) PP.out.1 PP.out.2.1 PP.out.2.2.1.out (by simp [waysP, runWays, HCH.out.2.1]) (by omega) (comeS_len (fun y f' hy => Nat.le_trans (HSl.out y f' hy) (by decide)) (by show f.op.length ≤ 1000000; omega)) (by have := comeW_len S W a; omega)
            · skip
              go_wp2_with fail
              refine ⟨Keeps.alloc _ _ _, ?_⟩
              refine seqx_run 2 rfl (by kernel_rfl) (by rfl) (fun KK hKK => ?_)
              go_wp2_with fail
              have hb5 : Below w3.drew.heap.size w3.drew (w3.alloc (.cells #[.int .i64 a] 3)).drew := by
                have h := ((Below.refl w3.heap.size w3).alloc (Nat.le_refl _) (.cells #[.int .i64 a] 3)).drew
                exact ⟨h.os, h.tape, h.output, h.size, fun k hk => h.block k hk⟩
              have hat5 : At (w3.alloc (.cells #[.int .i64 a] 3)).drew (some ⟨w3.heap.size, 0, none⟩) (intsV [a]) := (At.new w3 #[.int .i64 a] 3).below (Below.refl _ _).drew
              refine (cloneI_any oo f.op ocap (by omega) (w3.alloc (.cells #[.int .i64 a] 3)).drew (HAT.out.below hb5)).mono ?_
              rintro e w4 ⟨co, ccap, rfl, hown0, hb4⟩
              have hs4 := hb4.size
              simp only [World.size_drew, World.size_alloc] at hs4
              have hown : w4.ownsRow w3.drew.heap.size 3 1 (.slice co f.op.length ccap) f.op.length (intsV f.op) := ⟨hown0.1, hown0.2.imp id (fun ⟨g, cap, cur, h1, h2, h3⟩ => ⟨g, cap, cur, h1, by simp at h2 ⊢; omega, h3⟩)⟩
              have hb : Below w3.drew.heap.size w3.drew w4 := hb5.trans (hb4.mono hb5.size)
              have hat := hat5.below hb4
              have hco : ∀ b, blk co = some b → w3.heap.size ≤ b ∧ b < w4.heap.size := fun b hb => by
                have := hown.lt b (by rw [own_slice]; exact hb)
                simp at this
                omega
              have HW := Lib.hid hb4
              clear hown0 hb5 hat5 hb4
              go_wp2_with fail
              refine ⟨Keeps.of_below HW.out, ?_⟩
              have hs33 : w3.heap.size ≤ w3.drew.heap.size ∧ w3.drew.heap.size ≤ w3.heap.size := by simp
              refine seqx_run 6 rfl (by kernel_rfl) (by rfl) (fun KK hKK => ?_)
              refine wp_ints _ _ rfl w3.drew.heap.size co ccap f.op f.op.length rfl hown _ 1 1 [a] rfl hat rfl (by omega) (by have := hb.size; omega) ?_
              intro ao5 cap5 w5 p1 p2 p3
              have hrow5 : w5.heap[g8]? = _ := (p2.block g8 (by have := hb.size; omega) (fun h => by have := (hco g8 h.symm).1; omega)).trans ((hb.block g8 (by omega)).trans HRW.out.1)
              have c65 : w5.cell? ⟨g8, 2, none⟩ = some (.slice oo f.op.length ocap) := cell_of_row _ _ 2 _ _ (0, 0) hrow5
              have f65 := frozen_of_row _ g8 2 _ _ hrow5
              have PP := Lib.hid (And.intro p1 (And.intro p2 (And.intro (Lib.hid hrow5) (And.intro (Lib.hid hb) hco))))
              refine hKK _ _ ⟨Keeps.of_grown' p2 (fun b hb => .inl (by have := (hco b hb).1; omega)), ?_⟩
              clear p1 p2 p3 hrow5
              refine seqx_take 7 (v := ?_) rfl (by kernel_rfl) (fun _ _ _ h => h) (by rfl) (fun w' hw' => ?_) ?_
              rotate_left
              · go_simp; try with_reducible rfl
              try simp only [List.getElem_toArray, List.getElem_cons_succ, List.getElem_cons_zero, Act.put, List.setIfInBounds_toArray, List.set_cons_zero, List.set_cons_succ]
              refine seqx_run 8 rfl (by kernel_rfl) (by rfl) (fun KK hKK => ?_)
              go_wp2_with fail
              refine ⟨Keeps.of_grown (setCell_grown0 _ _ _ _) (.inr rfl), ?_⟩
              clear c65 f65
              refine seqx_done (by kernel_rfl) ?_
              go_wp2_with fail
              go_meet
              case rel => exact brk_end HK0.out HCH.out.2.2.1 hB (fun b hb => (HCH.out.2.2.2 b hb).imp id (fun h => by omega)) hA q0 (by omega) HRW.out.2.2.2 ((Below.refl _ w3).drew.trans PP.out.2.2.2.1.out) (fun b hb => PP.out.2.2.2.2 b hb) PP.out.1 PP.out.2.1 PP.out.2.2.1.out (by simp [waysP, runWays, HCH.out.2.1]) (by omega) (comeS_len (fun y f' hy => Nat.le_trans (HSl.out y f' hy) (by decide)) (by show f.op.length ≤ 1000000; omega)) (by have := comeW_len S W a; omega)
          · have HNO := Lib.hid (And.intro hk3 hno)
            clear hk3 hno k0 k1 k2 j1
            go_wp2_with fail
            exact ⟨rfl, (Keeps.of_below H8.out.1).trans' HNO.out.1, .inr ⟨.inr ⟨HF1.out, by rw [HD.out]; simp [waysP, runWays, HNO.out.2]⟩, rfl⟩⟩
        · skip
          have hne : f.op ≠ [] := by
            intro h0
            have h1 := HF1.out
            simp [fitsP, h0] at h1
          have hlp : 0 < f.op.length := List.length_pos_iff.2 hne
          have k2 : W8.cell? ⟨g4, 2, none⟩ = some (.slice oo f.op.length ocap) := cell_of_row _ _ 2 _ _ (0, 0) H8.out.2.1
          have e2 : W8.cell? ⟨g8, 2, none⟩ = some (.slice oo f.op.length ocap) := cell_of_row _ _ 2 _ _ (0, 0) H8.out.2.2.2.2
          have z2 := frozen_of_row _ g8 2 _ _ H8.out.2.2.2.2
          have hoc := HO.out.1
          obtain ⟨m, hm⟩ : ∃ m, f.op.length = m + 1 := ⟨f.op.length - 1, by omega⟩
          have HMM := Lib.hid hm
          go_wp2_with fail
          go_meet
          case rel =>
            have hK : Keeps (fun b => b = g8) W8 (W8.setCell ⟨g8, 2, none⟩ (.slice oo m ocap)) := Keeps.of_grown (setCell_grown0 _ _ _ _) rfl
            have hdl : f.op.dropLast.length = m := by rw [List.length_dropLast]; omega
            refine ⟨S, W, wo, ⟨f.fn, f.h + d, f.op.dropLast⟩, oo, ocap, HC.out.keeps (Y := fun b => w.heap.size ≤ b) ((Keeps.of_below H8.out.1).trans' (hK.mono (fun i _ h => by omega))) (fun b hb h => by omega), ?_, by show f.op.dropLast.length ≤ ocap; omega, HO.out.2.1, ?_, fun b hb => ⟨(HO.out.2.2.2 b hb).1, by have := (HO.out.2.2.2 b hb).2.1; have := hK.size; omega, (HO.out.2.2.2 b hb).2.2⟩, (Keeps.of_below H8.out.1).trans hK (fun i hi h => by omega), fun b hb => .inl hb, by simp [waysP, runWays], by show f.op.dropLast.length ≤ 1000000; omega, fun y f' hy => Nat.le_trans (HSl.out y f' hy) (by decide), by omega⟩
            · rw [setCell_row0 2 _ H8.out.2.2.2.2]
              simp only [hdl]
              rfl
            · have h1 := ((HO.out.2.2.1.below H8.out.1).keeps hK (fun b hb _ h => by have := (HO.out.2.2.2 b hb).2.1; omega)).take m
              have h2 : intsV f.op.dropLast = (intsV f.op).take m := by
                unfold intsV
                rw [List.dropLast_eq_take, List.map_take]
                congr 1
                omega
              show At _ oo (intsV f.op.dropLast)
              rw [h2]
              exact h1
        · skip
          have hw8s : w.heap.size ≤ W8.heap.size := H8.out.1.size
          have k2 : W8.cell? ⟨g4, 2, none⟩ = some (.slice oo f.op.length ocap) := cell_of_row _ _ 2 _ _ (0, 0) H8.out.2.1
          go_wp2_with fail
          refine (cloneI_any oo f.op ocap (by omega) W8 (HO.out.2.2.1.below H8.out.1)).mono ?_
          rintro e w3 ⟨co, ccap, rfl, hown, hb3⟩
          have hs3 := hb3.size
          have hb34 : Below w3.heap.size w3 (w3.alloc (.cells #[.int .i64 (-1)] 3)) := (Below.refl _ w3).alloc (Nat.le_refl _) _
          have hs34 : (w3.alloc (.cells #[.int .i64 (-1)] 3)).heap.size = w3.heap.size + 1 := by simp
          have hco := fun b hb => hown.lt b (by rw [own_slice]; exact hb : (Value.slice co f.op.length ccap).ownBlock = some b)
          have H3 := Lib.hid (And.intro (hown.alloc (.cells #[.int .i64 (-1)] 3)) (And.intro hb3 (And.intro hb34 (And.intro hs34 (And.intro hco (show At (w3.alloc (.cells #[.int .i64 (-1)] 3)) (some ⟨w3.heap.size, 0, none⟩) (intsV [-1]) from At.new w3 _ _))))))
          clear hown hb3 hb34 hs34 hco k2
          go_wp2_with (at_builtin; refine app_ints rfl _ _ rfl W8.heap.size co ccap f.op f.op.length rfl H3.out.1 _ 1 1 [-1] rfl H3.out.2.2.2.2.2 rfl (by omega) (by have := H3.out.2.2.2.1; omega) ?_; rintro ao5 cap5 w5 p1 p2 p3; have hrow5 : w5.heap[g8]? = _ := (p2.block g8 (by have := H3.out.2.2.2.1; omega) (fun h => by have := (H3.out.2.2.2.2.1 g8 h.symm).1; omega)).trans ((H3.out.2.2.1.block g8 (by omega)).trans ((H3.out.2.1.block g8 q1).trans H8.out.2.2.2.2)); have c65 : w5.cell? ⟨g8, 2, none⟩ = some (.slice oo f.op.length ocap) := cell_of_row _ _ 2 _ _ (0, 0) hrow5; have f65 := frozen_of_row _ g8 2 _ _ hrow5; have PP := Lib.hid (And.intro p1 (And.intro p2 (And.intro p3 hrow5))); clear p1 p2 p3 hrow5)
          go_meet
          case rel =>
            exact brk_end (Keeps.of_below H8.out.1) ((HC.out.mono (E := fun b => A b ∧ b < w.heap.size) (fun b hb h => ⟨h, hb⟩)).below H8.out.1) hB (fun b hb => .inl hb) hA q0 q1 (HNX.out g8 q0) (H3.out.2.1.trans (H3.out.2.2.1.mono hs3)) (fun b hb => ⟨(H3.out.2.2.2.2.1 b hb).1, by have := (H3.out.2.2.2.2.1 b hb).2; have := H3.out.2.2.2.1; omega⟩) PP.out.1 PP.out.2.1 PP.out.2.2.2 (by simp [waysP, runWays]) (by omega) (fun y f' hy => Nat.le_trans (HSl.out y f' hy) (by decide)) (by omega)
        · skip
          have hne : f.op ≠ [] := by
            intro h0
            have h1 := HF1.out
            simp [fitsP, h0] at h1
          have hlp : 0 < f.op.length := List.length_pos_iff.2 hne
          have k2 : W8.cell? ⟨g4, 2, none⟩ = some (.slice oo f.op.length ocap) := cell_of_row _ _ 2 _ _ (0, 0) H8.out.2.1
          have e2 : W8.cell? ⟨g8, 2, none⟩ = some (.slice oo f.op.length ocap) := cell_of_row _ _ 2 _ _ (0, 0) H8.out.2.2.2.2
          have z2 := frozen_of_row _ g8 2 _ _ H8.out.2.2.2.2
          have hoc := HO.out.1
          obtain ⟨m, hm⟩ : ∃ m, f.op.length = m + 1 := ⟨f.op.length - 1, by omega⟩
          have HMM := Lib.hid hm
          go_wp2_with fail
          go_meet
          case rel =>
            have hK : Keeps (fun b => b = g8) W8 (W8.setCell ⟨g8, 2, none⟩ (.slice oo m ocap)) := Keeps.of_grown (setCell_grown0 _ _ _ _) rfl
            have hdl : f.op.dropLast.length = m := by rw [List.length_dropLast]; omega
            refine ⟨S, W, wo, ⟨f.fn, f.h + d, f.op.dropLast⟩, oo, ocap, HC.out.keeps (Y := fun b => w.heap.size ≤ b) ((Keeps.of_below H8.out.1).trans' (hK.mono (fun i _ h => by omega))) (fun b hb h => by omega), ?_, by show f.op.dropLast.length ≤ ocap; omega, HO.out.2.1, ?_, fun b hb => ⟨(HO.out.2.2.2 b hb).1, by have := (HO.out.2.2.2 b hb).2.1; have := hK.size; omega, (HO.out.2.2.2 b hb).2.2⟩, (Keeps.of_below H8.out.1).trans hK (fun i hi h => by omega), fun b hb => .inl hb, by simp [waysP, runWays], by show f.op.dropLast.length ≤ 1000000; omega, fun y f' hy => Nat.le_trans (HSl.out y f' hy) (by decide), by omega⟩
            · rw [setCell_row0 2 _ H8.out.2.2.2.2]
              simp only [hdl]
              rfl
            · have h1 := ((HO.out.2.2.1.below H8.out.1).keeps hK (fun b hb _ h => by have := (HO.out.2.2.2 b hb).2.1; omega)).take m
              have h2 : intsV f.op.dropLast = (intsV f.op).take m := by
                unfold intsV
                rw [List.dropLast_eq_take, List.map_take]
                congr 1
                omega
              show At _ oo (intsV f.op.dropLast)
              rw [h2]
              exact h1
        · skip
          go_wp2_with fail
          refine bodyPost_ret (results_none rfl _ _ _) rfl ?_
          exact ⟨Keeps.of_below H8.out.1, .inl ⟨S, W, wo, HF1.out, rfl, rfl, H8.out.2.2.2.1, fun b hb => .inl hb⟩⟩
      case rest =>
        obtain ⟨S1, W1, wo1, g, ko, kcap, hch, hr8, n1, n2, hat, hkb, hk, hwo, hrw, n3, n4, n5⟩ := hcut
        have k0 : wc.cell? ⟨g8, 0, none⟩ = some (.int .i64 (g.fn : Int)) := cell_of_row _ _ 0 _ _ (0, 0) hr8
        have k1 : wc.cell? ⟨g8, 1, none⟩ = some (.int .i64 g.h) := cell_of_row _ _ 1 _ _ (0, 0) hr8
        have k2 : wc.cell? ⟨g8, 2, none⟩ = some (.slice ko g.op.length kcap) := cell_of_row _ _ 2 _ _ (0, 0) hr8
        have hsk := hk.size
        have hi2 := HP.out.i2
        have HL := Lib.hid (come_any hch (by omega) hi2 n4 n5 ((z : Int) + 1) ⟨by omega, by omega⟩ g n3 (.agg #[.int .i64 (g.fn : Int), .int .i64 g.h, .slice ko g.op.length kcap]) ⟨ko, kcap, rfl, n1, n2, hat, hkb⟩)
        have HMM := Lib.hid (And.intro hk (And.intro hwo hrw))
        clear hch hr8 n1 n2 hat hkb hk hwo hrw n4 HCM
        go_wp2_with fail
        refine HL.out.mono ?_
        rintro e w3 ⟨hk3, hres⟩
        have hkk : Keeps (s.X wo) w w3 := HMM.out.1.trans hk3 (fun i hi hx => by
          rcases hx with h | h | h
          · exact .inl h
          · exact .inr (.inl h)
          · rcases HMM.out.2.1 i h with h' | h'
            · exact .inr (.inr h')
            · omega)
        rcases hres with ⟨hok, rfl, wo3, hch3, hwo3⟩ | ⟨hno, rfl⟩
        · have HCH := Lib.hid (And.intro hkk (And.intro hok (And.intro hch3 hwo3)))
          clear hkk hok hch3 hwo3 hk3 k0 k1 k2
          go_wp2_with fail
          go_end0
          refine ⟨HCH.out.1, .inl ⟨_, _, wo3, HF1.out, by rw [HD.out, HMM.out.2.2, if_pos HCH.out.2.1], rfl, HCH.out.2.2.1, fun b hb => ?_⟩⟩
          rcases HCH.out.2.2.2 b hb with h | h
          · exact HMM.out.2.1 b h
          · exact .inr (by omega)
        · have HNO := Lib.hid (And.intro hkk hno)
          clear hkk hno hk3 k0 k1 k2
          go_wp2_with fail
          exact ⟨rfl, HNO.out.1, .inr ⟨.inr ⟨HF1.out, by rw [HD.out, HMM.out.2.2, if_neg (by rw [HNO.out.2]; decide)]⟩, rfl⟩⟩
end Go.Proofs.YtnhdefaagicejaaDoor
