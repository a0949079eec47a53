/- The walk of the document's step: the operations 0 to 5. -/
import Derived.Test.YtnhdefaagicejaaDoorCodeX
namespace Go.Proofs.YtnhdefaagicejaaDoor
set_option linter.unusedSimpArgs false
set_option linter.unusedVariables false
open Go.RowKit

set_option maxRecDepth 100000 in
set_option maxHeartbeats 40000000 in
theorem rstep_0 {w : World} {c : CodeP} {io so fo : Option Addr} {icap scap fcap : Nat} (hmem : CodeMem w (fun b => b < w.heap.size) c io so fo) (hp : Pre c) {L : List Int} {lo : Option Addr} {lcap : Nat} (hL : L.length = c.funs.length) (hLr : ∀ z ∈ L, R64i z) (hlo : At w lo (intsV L))
    (z : Nat) (hz : z < c.ins.length) (f : FrP) (hh0 : 0 ≤ f.h) (hh1 : f.h ≤ 10000) (hfn : f.fn < c.funs.length) (hol : f.op.length ≤ 1000000) (hop : ∀ u ∈ f.op, -1 ≤ u) (v : Value) (O : Nat → Prop) (hO : ∀ b, O b → b < w.heap.size) (hv : SpV w O v f) (hlow : 0 ≤ (c.ins[z]).op) (hhigh : (c.ins[z]).op ≤ 5) :
    Calls Tryd.prog 21 #[.agg #[.slice io c.ins.length icap, .slice so c.strs.length scap, .slice fo c.funs.length fcap, .int .i64 c.glob], .slice lo L.length lcap, v, .int .i64 (z : Int)] w (RSteps w c L O z c.ins[z] f) := by
  obtain ⟨oo, ocap, rfl, v2, v3, v4, v5⟩ := hv
  obtain ⟨fn, h, o⟩ := f
  simp only at *
  obtain ⟨ib, fi, rfl, i0, i1, i2⟩ := hmem.insAt z hz
  have hxr := hmem.insR _ (List.getElem_mem hz)
  obtain ⟨x, hx⟩ : ∃ x, c.ins[z] = x := ⟨_, rfl⟩
  rw [hx] at i0 i1 i2 hxr hlow hhigh ⊢
  obtain ⟨op, a, b⟩ := x
  simp only at i0 i1 i2 hxr hlow hhigh
  obtain ⟨W2, hW2⟩ : ∃ W2, (w.alloc (.cells #[.slice (some ⟨ib, fi, none⟩) c.ins.length icap, .slice so c.strs.length scap, .slice fo c.funs.length fcap, .int .i64 c.glob] 26)).alloc (.cells #[.bool true, .int .i64 (fn : Int), .int .i64 h, .slice oo o.length ocap] 62) = W2 := ⟨_, rfl⟩
  obtain ⟨W3, hW3⟩ : ∃ W3, W2.alloc (.cells #[.int .i64 op, .int .i64 a, .int .i64 b] 29) = W3 := ⟨_, rfl⟩
  obtain ⟨W4, hW4⟩ : ∃ W4, W3.alloc (.cells #[.bool true, .int .i64 (fn : Int), .int .i64 h, .slice oo o.length ocap] 62) = W4 := ⟨_, rfl⟩
  have hb2 : Below w.heap.size w W2 := by rw [← hW2]; exact ((Below.refl _ w).alloc (Nat.le_refl _) _).alloc (by simp) _
  have hb3 : Below W2.heap.size W2 W3 := by rw [← hW3]; exact (Below.refl _ _).alloc (Nat.le_refl _) _
  have hb4 : Below W3.heap.size W3 W4 := by rw [← hW4]; exact (Below.refl _ _).alloc (Nat.le_refl _) _
  have hs2 : W2.heap.size = w.heap.size + 1 + 1 := by rw [← hW2]; simp
  have hs3 : W3.heap.size = W2.heap.size + 1 := by rw [← hW3]; simp
  have hs4 : W4.heap.size = W3.heap.size + 1 := by rw [← hW4]; simp
  have hr2g : W2.heap[w.heap.size]? = some (.cells #[.slice (some ⟨ib, fi, none⟩) c.ins.length icap, .slice so c.strs.length scap, .slice fo c.funs.length fcap, .int .i64 c.glob] 26 (0, 0)) := by
    rw [← hW2]
    exact (Below.heap_alloc (w.alloc _) _ w.heap.size (by simp)).trans (heap_alloc_new w _)
  have hr2s : W2.heap[w.heap.size + 1]? = some (.cells #[.bool true, .int .i64 (fn : Int), .int .i64 h, .slice oo o.length ocap] 62 (0, 0)) := by
    rw [← hW2]
    have := heap_alloc_new (w.alloc (.cells #[.slice (some ⟨ib, fi, none⟩) c.ins.length icap, .slice so c.strs.length scap, .slice fo c.funs.length fcap, .int .i64 c.glob] 26)) (.cells #[.bool true, .int .i64 (fn : Int), .int .i64 h, .slice oo o.length ocap] 62)
    simpa using this
  have hr3 : W3.heap[W2.heap.size]? = some (.cells #[.int .i64 op, .int .i64 a, .int .i64 b] 29 (0, 0)) := by rw [← hW3]; exact heap_alloc_new W2 _
  have hr4 : W4.heap[W3.heap.size]? = some (.cells #[.bool true, .int .i64 (fn : Int), .int .i64 h, .slice oo o.length ocap] 62 (0, 0)) := by rw [← hW4]; exact heap_alloc_new W3 _
  have hr3s : W3.heap[w.heap.size + 1]? = _ := (hb3.block (w.heap.size + 1) (by omega)).trans hr2s
  have hr4s : W4.heap[w.heap.size + 1]? = _ := (hb4.block (w.heap.size + 1) (by omega)).trans hr3s
  have hr4g : W4.heap[w.heap.size]? = _ := (hb4.block w.heap.size (by omega)).trans ((hb3.block w.heap.size (by omega)).trans hr2g)
  have hr4i : W4.heap[W2.heap.size]? = _ := (hb4.block W2.heap.size (by omega)).trans hr3
  have hbw4 : Below w.heap.size w W4 := hb2.trans ((hb3.mono (by omega)).trans (hb4.mono (by omega)))
  have q0 : W2.cell? ⟨w.heap.size, 0, none⟩ = some (.slice (some ⟨ib, fi, none⟩) c.ins.length icap) := cell_of_row _ _ 0 _ _ (0, 0) hr2g
  have hil : ib < w.heap.size := World.block_lt_of_cell? (a := ⟨ib, fi + z * 3, none⟩) w i0
  have j0 : W2.cell? ⟨ib, fi + z * 3, none⟩ = some (.int .i64 op) := (World.cell?_of_block (a := ⟨ib, fi + z * 3, none⟩) (hb2.block ib hil)).trans i0
  have j1 : W2.cell? ⟨ib, fi + z * 3 + 1, none⟩ = some (.int .i64 a) := (World.cell?_of_block (a := ⟨ib, fi + z * 3 + 1, none⟩) (hb2.block ib hil)).trans i1
  have j2 : W2.cell? ⟨ib, fi + z * 3 + 2, none⟩ = some (.int .i64 b) := (World.cell?_of_block (a := ⟨ib, fi + z * 3 + 2, none⟩) (hb2.block ib hil)).trans i2
  have p0 : W3.cell? ⟨w.heap.size + 1, 0, none⟩ = some (.bool true) := cell_of_row _ _ 0 _ _ (0, 0) hr3s
  have p1 : W3.cell? ⟨w.heap.size + 1, 1, none⟩ = some (.int .i64 (fn : Int)) := cell_of_row _ _ 1 _ _ (0, 0) hr3s
  have p2 : W3.cell? ⟨w.heap.size + 1, 2, none⟩ = some (.int .i64 h) := cell_of_row _ _ 2 _ _ (0, 0) hr3s
  have p3 : W3.cell? ⟨w.heap.size + 1, 3, none⟩ = some (.slice oo o.length ocap) := cell_of_row _ _ 3 _ _ (0, 0) hr3s
  have e3 : W4.cell? ⟨w.heap.size + 1, 3, none⟩ = some (.slice oo o.length ocap) := cell_of_row _ _ 3 _ _ (0, 0) hr4s
  have k0 : W4.cell? ⟨W2.heap.size, 0, none⟩ = some (.int .i64 op) := cell_of_row _ _ 0 _ _ (0, 0) hr4i
  have HP := Lib.hid hp
  have HL := Lib.hid hL
  have HM := Lib.hid (And.intro (hmem.below hbw4) (And.intro (hlo.below hbw4) (v4.below hbw4)))
  have HW := Lib.hid (And.intro hbw4 (And.intro hr4g (And.intro hr4s (And.intro hr4i (And.intro hr4 (And.intro hs2 (And.intro hs3 hs4)))))))
  have HV := Lib.hid (And.intro v2 (And.intro v3 (And.intro v5 (And.intro hO (And.intro hLr (And.intro hop hxr))))))
  have hcl : c.ins.length ≤ 65536 := hp.i2
  clear hb2 hb3 hb4 hr2g hr2s hr3 hr4 hr3s hr4s hr4g hr4i hbw4 hmem hp hlo v2 v3 v4 v5 hO hLr hop hxr i0 i1 i2 hx hs2 hs3 hs4 hil hL
  go_enter Tryd.func21, Tryd.ntmps21
  go_upto_block 0 with (fail)
  clear hW2 hW3 hW4 q0 j0 j1 j2 p0 p1 p2 p3 e3 k0
  obtain ⟨gi, hgi⟩ : ∃ gi, W2.heap.size = gi := ⟨_, rfl⟩
  obtain ⟨gn, hgn⟩ : ∃ gn, W3.heap.size = gn := ⟨_, rfl⟩
  obtain ⟨g, hg⟩ : ∃ g, w.heap.size = g := ⟨_, rfl⟩
  rw [hgi, hgn, hg] at HW
  rw [hgi, hgn, hg]
  have HG := Lib.hid hg
  have HGS := Lib.hid HW.out.2.2.2.2.2
  clear hgi hgn hg
  have hg1 : ¬ gi = gn := by have := HGS.out; omega
  have hg2 : ¬ gn = gi := by have := HGS.out; omega
  have hg3 : ¬ g = gn := by have := HGS.out; omega
  have hg4 : ¬ gn = g := by have := HGS.out; omega
  have hg5 : ¬ g + 1 = gn := by have := HGS.out; omega
  have hg6 : ¬ gn = g + 1 := by have := HGS.out; omega
  have HON := Lib.hid (show ∀ b, blk oo = some b → b ≠ gn ∧ (O b ∨ w.heap.size ≤ b) from fun b hb => ⟨by have := HV.out.2.2.2.1 b (HV.out.2.2.1 b hb); have := HG.out; have := HGS.out; omega, .inl (HV.out.2.2.1 b hb)⟩)
  have HN := Lib.hid (show ∀ V, Below W4.heap.size W4 V → (V.heap[g]? = _ ∧ V.heap[g + 1]? = _ ∧ V.heap[gi]? = _ ∧ V.heap[gn]? = _) ∧ At V oo (intsV o) ∧ Below w.heap.size w V from fun V h5 => ⟨⟨(h5.block g (by have := HGS.out; omega)).trans HW.out.2.1, (h5.block (g + 1) (by have := HGS.out; omega)).trans HW.out.2.2.1, (h5.block gi (by have := HGS.out; omega)).trans HW.out.2.2.2.1, (h5.block gn (by have := HGS.out; omega)).trans HW.out.2.2.2.2.1⟩, HM.out.2.2.below h5, by rw [HG.out]; exact HW.out.1.trans (h5.mono (by have := HG.out; have := HGS.out; omega))⟩)
  have hsl := HP.out.s
  have hfl := HP.out.f2
  have hgl1 := HP.out.g1
  have hgl2 := HP.out.g2
  have hcs : op = 0 ∨ op = 1 ∨ op = 2 ∨ op = 3 ∨ op = 4 ∨ op = 5 := by omega
  clear hlow hhigh
  rcases hcs with rfl | rfl | rfl | rfl | rfl | rfl
  · skip
    -- CUT A0
    obtain ⟨hi1, hi2⟩ := intF a
    obtain ⟨T, hT⟩ : ∃ T, int63 a = T := ⟨_, rfl⟩
    rw [hT] at hi1 hi2
    have HT := Lib.hid (And.intro hT (And.intro hi1 hi2))
    clear hT hi1 hi2
    obtain ⟨⟨hrg, hrs, hri, hrn⟩, hatV, hbV⟩ := HN.out W4 (Below.refl _ _)
    have k0 : W4.cell? ⟨gi, 0, none⟩ = some (.int .i64 0) := cell_of_row _ _ 0 _ _ (0, 0) hri
    have k1 : W4.cell? ⟨gi, 1, none⟩ = some (.int .i64 a) := cell_of_row _ _ 1 _ _ (0, 0) hri
    have k2 : W4.cell? ⟨gi, 2, none⟩ = some (.int .i64 b) := cell_of_row _ _ 2 _ _ (0, 0) hri
    have e1 : W4.cell? ⟨g + 1, 1, none⟩ = some (.int .i64 (fn : Int)) := cell_of_row _ _ 1 _ _ (0, 0) hrs
    have e3 : W4.cell? ⟨g + 1, 3, none⟩ = some (.slice oo o.length ocap) := cell_of_row _ _ 3 _ _ (0, 0) hrs
    have c0 : W4.cell? ⟨g, 0, none⟩ = some (.slice (some ⟨ib, fi, none⟩) c.ins.length icap) := cell_of_row _ _ 0 _ _ (0, 0) hrg
    have c1 : W4.cell? ⟨g, 1, none⟩ = some (.slice so c.strs.length scap) := cell_of_row _ _ 1 _ _ (0, 0) hrg
    have c2 : W4.cell? ⟨g, 2, none⟩ = some (.slice fo c.funs.length fcap) := cell_of_row _ _ 2 _ _ (0, 0) hrg
    have c3 : W4.cell? ⟨g, 3, none⟩ = some (.int .i64 c.glob) := cell_of_row _ _ 3 _ _ (0, 0) hrg
    have n0 : W4.cell? ⟨gn, 0, none⟩ = some (.bool true) := cell_of_row _ _ 0 _ _ (0, 0) hrn
    have n1 : W4.cell? ⟨gn, 1, none⟩ = some (.int .i64 (fn : Int)) := cell_of_row _ _ 1 _ _ (0, 0) hrn
    have n2 : W4.cell? ⟨gn, 2, none⟩ = some (.int .i64 h) := cell_of_row _ _ 2 _ _ (0, 0) hrn
    have n3 : W4.cell? ⟨gn, 3, none⟩ = some (.slice oo o.length ocap) := cell_of_row _ _ 3 _ _ (0, 0) hrn
    have fz2 := frozen_of_row W4 gn 2 _ _ hrn
    have fz3 := frozen_of_row W4 gn 3 _ _ hrn
    have HS := Lib.hid (show (∀ j u, Below w.heap.size w (W4.setCell ⟨gn, j, none⟩ u)) ∧ (∀ j u, At (W4.setCell ⟨gn, j, none⟩ u) oo (intsV o)) ∧ Below w.heap.size w W4 ∧ At W4 oo (intsV o) ∧ ∀ j u, (W4.setCell ⟨gn, j, none⟩ u).heap.size = W4.heap.size from ⟨fun j u => hbV.trans ((Keeps.of_grown (X := fun b => b = gn) (setCell_grown0 _ _ _ _) rfl).below (fun i hi h => by have := HG.out; have := HGS.out; omega) hbV.size), fun j u => hatV.keeps (Keeps.of_grown (X := fun b => b = gn) (setCell_grown0 _ _ _ _) rfl) (fun b hb _ => (HON.out b hb).1), hbV, hatV, fun j u => by simp⟩)
    clear hrg hrs hri hrn hatV hbV
    go_wp2_with fail
    refine seq_start (by kernel_rfl) ?_
    refine seq_take 0 (v := ?_) rfl (by kernel_rfl) (fun _ _ _ h => h) (by rfl) (fun w' hw' => ?_) ?_
    rotate_left
    · go_simp; try with_reducible rfl
    try simp only [List.getElem_toArray, List.getElem_cons_succ, List.getElem_cons_zero, Act.put, List.setIfInBounds_toArray, List.set_cons_zero, List.set_cons_succ]
    refine seq_take 1 rfl (by kernel_rfl) (fun _ _ _ h => h) (by rfl) (seq_ldi rfl rfl ((show W4.drew.cell? ⟨gi, 1, none⟩ = _ from k1))) ?_
    try simp only [List.getElem_toArray, List.getElem_cons_succ, List.getElem_cons_zero, Act.put, List.setIfInBounds_toArray, List.set_cons_zero, List.set_cons_succ]
    refine seq_take 3 (v := ?_) rfl (by kernel_rfl) (fun _ _ _ h => h) (by rfl) (fun w' hw' => ?_) ?_
    rotate_left
    · go_simp; try with_reducible rfl
    try simp only [List.getElem_toArray, List.getElem_cons_succ, List.getElem_cons_zero, Act.put, List.setIfInBounds_toArray, List.set_cons_zero, List.set_cons_succ]
    refine seq_take 4 rfl (by kernel_rfl) (fun _ _ _ h => h) (by rfl) (seq_ldi rfl rfl ((show W4.drew.cell? ⟨gi, 1, none⟩ = _ from k1))) ?_
    try simp only [List.getElem_toArray, List.getElem_cons_succ, List.getElem_cons_zero, Act.put, List.setIfInBounds_toArray, List.set_cons_zero, List.set_cons_succ]
    refine seq_run 2 rfl (by kernel_rfl) (by rfl) (fun KK hKK => ?_)
    go_wp2_with fail
    refine (rwrap_any a HV.out.2.2.2.2.2.2.2.1 W4.drew).mono ?_
    rintro e w2 ⟨rfl, rfl⟩
    go_wp2_with fail
    refine ⟨Below.refl _ _, ?_⟩
    have hi1 := HT.out.2.1
    have hi2 := HT.out.2.2
    refine seq_take 5 (v := ?_) rfl (by kernel_rfl) (fun _ _ _ h => h) (by rfl) (fun w' hw' => ?_) ?_
    rotate_left
    · go_simp; try with_reducible rfl
    try simp only [List.getElem_toArray, List.getElem_cons_succ, List.getElem_cons_zero, Act.put, List.setIfInBounds_toArray, List.set_cons_zero, List.set_cons_succ]
    refine seq_take 6 (v := ?_) rfl (by kernel_rfl) (fun _ _ _ h => h) (by rfl) (fun w' hw' => ?_) ?_
    rotate_left
    · go_simp; try with_reducible rfl
    try simp only [List.getElem_toArray, List.getElem_cons_succ, List.getElem_cons_zero, Act.put, List.setIfInBounds_toArray, List.set_cons_zero, List.set_cons_succ]
    refine seq_done (by kernel_rfl) ?_
    obtain ⟨V5, hV5⟩ : ∃ V5, W4.drew = V5 := ⟨_, rfl⟩
    rw [hV5]
    have hb5 : Below W4.heap.size W4 V5 := by rw [← hV5]; exact (Below.refl _ W4).drew
    have HB5 := Lib.hid hb5
    clear hV5 hb5 hi1 hi2
    clear k0 k1 k2 e1 e3 c0 c1 c2 c3 n0 n1 n2 n3 fz2 fz3 HS
    obtain ⟨⟨hrg, hrs, hri, hrn⟩, hatV, hbV⟩ := HN.out V5 HB5.out
    have k0 : V5.cell? ⟨gi, 0, none⟩ = some (.int .i64 0) := cell_of_row _ _ 0 _ _ (0, 0) hri
    have k1 : V5.cell? ⟨gi, 1, none⟩ = some (.int .i64 a) := cell_of_row _ _ 1 _ _ (0, 0) hri
    have k2 : V5.cell? ⟨gi, 2, none⟩ = some (.int .i64 b) := cell_of_row _ _ 2 _ _ (0, 0) hri
    have e1 : V5.cell? ⟨g + 1, 1, none⟩ = some (.int .i64 (fn : Int)) := cell_of_row _ _ 1 _ _ (0, 0) hrs
    have e3 : V5.cell? ⟨g + 1, 3, none⟩ = some (.slice oo o.length ocap) := cell_of_row _ _ 3 _ _ (0, 0) hrs
    have c0 : V5.cell? ⟨g, 0, none⟩ = some (.slice (some ⟨ib, fi, none⟩) c.ins.length icap) := cell_of_row _ _ 0 _ _ (0, 0) hrg
    have c1 : V5.cell? ⟨g, 1, none⟩ = some (.slice so c.strs.length scap) := cell_of_row _ _ 1 _ _ (0, 0) hrg
    have c2 : V5.cell? ⟨g, 2, none⟩ = some (.slice fo c.funs.length fcap) := cell_of_row _ _ 2 _ _ (0, 0) hrg
    have c3 : V5.cell? ⟨g, 3, none⟩ = some (.int .i64 c.glob) := cell_of_row _ _ 3 _ _ (0, 0) hrg
    have n0 : V5.cell? ⟨gn, 0, none⟩ = some (.bool true) := cell_of_row _ _ 0 _ _ (0, 0) hrn
    have n1 : V5.cell? ⟨gn, 1, none⟩ = some (.int .i64 (fn : Int)) := cell_of_row _ _ 1 _ _ (0, 0) hrn
    have n2 : V5.cell? ⟨gn, 2, none⟩ = some (.int .i64 h) := cell_of_row _ _ 2 _ _ (0, 0) hrn
    have n3 : V5.cell? ⟨gn, 3, none⟩ = some (.slice oo o.length ocap) := cell_of_row _ _ 3 _ _ (0, 0) hrn
    have fz2 := frozen_of_row V5 gn 2 _ _ hrn
    have fz3 := frozen_of_row V5 gn 3 _ _ hrn
    have HS := Lib.hid (show (∀ j u, Below w.heap.size w (V5.setCell ⟨gn, j, none⟩ u)) ∧ (∀ j u, At (V5.setCell ⟨gn, j, none⟩ u) oo (intsV o)) ∧ Below w.heap.size w V5 ∧ At V5 oo (intsV o) ∧ ∀ j u, (V5.setCell ⟨gn, j, none⟩ u).heap.size = V5.heap.size from ⟨fun j u => hbV.trans ((Keeps.of_grown (X := fun b => b = gn) (setCell_grown0 _ _ _ _) rfl).below (fun i hi h => by have := HG.out; have := HGS.out; omega) hbV.size), fun j u => hatV.keeps (Keeps.of_grown (X := fun b => b = gn) (setCell_grown0 _ _ _ _) rfl) (fun b hb _ => (HON.out b hb).1), hbV, hatV, fun j u => by simp⟩)
    clear hrg hrs hri hrn hatV hbV
    cases T with
    | false =>
      go_wp2_with fail
      go_ret2
      exact rsteps_no (HS.out.1 _ _) (HT.out.1) rfl
    | true =>
      obtain ⟨V6, hV6⟩ : ∃ V6, (V5.setCell ⟨gn, 2, none⟩ (.int .i64 (h + 1))).alloc (.cells #[.int .i64 ((z : Int) + 1), .bool true, .int .i64 (fn : Int), .int .i64 (h + 1), .slice oo o.length ocap] 68) = V6 := ⟨_, rfl⟩
      have h6 : Below (V5.setCell ⟨gn, 2, none⟩ (.int .i64 (h + 1))).heap.size (V5.setCell ⟨gn, 2, none⟩ (.int .i64 (h + 1))) V6 := by rw [← hV6]; exact (Below.refl _ _).alloc (Nat.le_refl _) _
      have hat6 : At V6 (some ⟨V5.heap.size, 0, none⟩) (wayRow ((z : Int) + 1, ⟨fn, h + 1, o⟩) oo ocap) := by rw [← hV6]; exact At.newk _ _ _ (0, 0) (Eq.symm (HS.out.2.2.2.2 _ _))
      have h6s : V5.heap.size ≤ V6.heap.size := Nat.le_trans (Nat.le_of_eq (Eq.symm (HS.out.2.2.2.2 _ _))) h6.size
      have H6 := Lib.hid (And.intro hat6 (And.intro ((HS.out.1 _ _).trans (h6.mono (HS.out.1 _ _).size)) (And.intro ((HS.out.2.1 _ _).below h6) h6s)))
      clear h6 hat6 h6s
      go_wp2_with (first | (at_builtin; refine app_way rfl _ _ rfl w.heap.size none 0 0 [] rfl (World.ownsRow_nil _ _ _ _) ((z : Int) + 1, ⟨fn, h + 1, o⟩) oo ocap V5.heap.size rfl H6.out.1 (by omega) H6.out.2.1.size ?_; rintro ao7 cap7 w7 r1 r2; have P7 := Lib.hid (And.intro r1 r2); clear r1 r2))
      go_ret2
      exact rsteps_one (H6.out.2.1.trans ((grown_below P7.out.2).mono H6.out.2.1.size)) (HT.out.1) (by simp) (rfl) P7.out.1 HV.out.1 HV.out.2.1 (H6.out.2.2.1.below (grown_below P7.out.2)) (fun b hb => .inl (HV.out.2.2.1 b hb)) rfl
    -- END A0
  · skip
    -- CUT A1
    obtain ⟨⟨hrg, hrs, hri, hrn⟩, hatV, hbV⟩ := HN.out W4 (Below.refl _ _)
    have k0 : W4.cell? ⟨gi, 0, none⟩ = some (.int .i64 1) := cell_of_row _ _ 0 _ _ (0, 0) hri
    have k1 : W4.cell? ⟨gi, 1, none⟩ = some (.int .i64 a) := cell_of_row _ _ 1 _ _ (0, 0) hri
    have k2 : W4.cell? ⟨gi, 2, none⟩ = some (.int .i64 b) := cell_of_row _ _ 2 _ _ (0, 0) hri
    have e1 : W4.cell? ⟨g + 1, 1, none⟩ = some (.int .i64 (fn : Int)) := cell_of_row _ _ 1 _ _ (0, 0) hrs
    have e3 : W4.cell? ⟨g + 1, 3, none⟩ = some (.slice oo o.length ocap) := cell_of_row _ _ 3 _ _ (0, 0) hrs
    have c0 : W4.cell? ⟨g, 0, none⟩ = some (.slice (some ⟨ib, fi, none⟩) c.ins.length icap) := cell_of_row _ _ 0 _ _ (0, 0) hrg
    have c1 : W4.cell? ⟨g, 1, none⟩ = some (.slice so c.strs.length scap) := cell_of_row _ _ 1 _ _ (0, 0) hrg
    have c2 : W4.cell? ⟨g, 2, none⟩ = some (.slice fo c.funs.length fcap) := cell_of_row _ _ 2 _ _ (0, 0) hrg
    have c3 : W4.cell? ⟨g, 3, none⟩ = some (.int .i64 c.glob) := cell_of_row _ _ 3 _ _ (0, 0) hrg
    have n0 : W4.cell? ⟨gn, 0, none⟩ = some (.bool true) := cell_of_row _ _ 0 _ _ (0, 0) hrn
    have n1 : W4.cell? ⟨gn, 1, none⟩ = some (.int .i64 (fn : Int)) := cell_of_row _ _ 1 _ _ (0, 0) hrn
    have n2 : W4.cell? ⟨gn, 2, none⟩ = some (.int .i64 h) := cell_of_row _ _ 2 _ _ (0, 0) hrn
    have n3 : W4.cell? ⟨gn, 3, none⟩ = some (.slice oo o.length ocap) := cell_of_row _ _ 3 _ _ (0, 0) hrn
    have fz2 := frozen_of_row W4 gn 2 _ _ hrn
    have fz3 := frozen_of_row W4 gn 3 _ _ hrn
    have HS := Lib.hid (show (∀ j u, Below w.heap.size w (W4.setCell ⟨gn, j, none⟩ u)) ∧ (∀ j u, At (W4.setCell ⟨gn, j, none⟩ u) oo (intsV o)) ∧ Below w.heap.size w W4 ∧ At W4 oo (intsV o) ∧ ∀ j u, (W4.setCell ⟨gn, j, none⟩ u).heap.size = W4.heap.size from ⟨fun j u => hbV.trans ((Keeps.of_grown (X := fun b => b = gn) (setCell_grown0 _ _ _ _) rfl).below (fun i hi h => by have := HG.out; have := HGS.out; omega) hbV.size), fun j u => hatV.keeps (Keeps.of_grown (X := fun b => b = gn) (setCell_grown0 _ _ _ _) rfl) (fun b hb _ => (HON.out b hb).1), hbV, hatV, fun j u => by simp⟩)
    clear hrg hrs hri hrn hatV hbV
    obtain ⟨T, hT⟩ : ∃ T, betw a 0 ((c.strs.length : Int) - 1) = T := ⟨_, rfl⟩
    have HT := Lib.hid hT
    clear hT
    cases T with
    | false =>
      go_wp2_with fail
      refine (between_any a 0 ((c.strs.length : Int) - 1) W4).mono ?_
      rintro e w2 ⟨rfl, rfl⟩
      rw [show betw a 0 ((c.strs.length : Int) - 1) = false from HT.out]
      go_wp2_with fail
      go_ret2
      exact rsteps_no (HS.out.1 _ _) (HT.out) rfl
    | true =>
      obtain ⟨V6, hV6⟩ : ∃ V6, (W4.setCell ⟨gn, 2, none⟩ (.int .i64 (h + 1))).alloc (.cells #[.int .i64 ((z : Int) + 1), .bool true, .int .i64 (fn : Int), .int .i64 (h + 1), .slice oo o.length ocap] 68) = V6 := ⟨_, rfl⟩
      have h6 : Below (W4.setCell ⟨gn, 2, none⟩ (.int .i64 (h + 1))).heap.size (W4.setCell ⟨gn, 2, none⟩ (.int .i64 (h + 1))) V6 := by rw [← hV6]; exact (Below.refl _ _).alloc (Nat.le_refl _) _
      have hat6 : At V6 (some ⟨W4.heap.size, 0, none⟩) (wayRow ((z : Int) + 1, ⟨fn, h + 1, o⟩) oo ocap) := by rw [← hV6]; exact At.newk _ _ _ (0, 0) (Eq.symm (HS.out.2.2.2.2 _ _))
      have h6s : W4.heap.size ≤ V6.heap.size := Nat.le_trans (Nat.le_of_eq (Eq.symm (HS.out.2.2.2.2 _ _))) h6.size
      have H6 := Lib.hid (And.intro hat6 (And.intro ((HS.out.1 _ _).trans (h6.mono (HS.out.1 _ _).size)) (And.intro ((HS.out.2.1 _ _).below h6) h6s)))
      clear h6 hat6 h6s
      go_wp2_with fail
      refine (between_any a 0 ((c.strs.length : Int) - 1) W4).mono ?_
      rintro e w2 ⟨rfl, rfl⟩
      rw [show betw a 0 ((c.strs.length : Int) - 1) = true from HT.out]
      go_wp2_with (first | (at_builtin; refine app_way rfl _ _ rfl w.heap.size none 0 0 [] rfl (World.ownsRow_nil _ _ _ _) ((z : Int) + 1, ⟨fn, h + 1, o⟩) oo ocap W4.heap.size rfl H6.out.1 (by omega) H6.out.2.1.size ?_; rintro ao7 cap7 w7 r1 r2; have P7 := Lib.hid (And.intro r1 r2); clear r1 r2))
      go_ret2
      exact rsteps_one (H6.out.2.1.trans ((grown_below P7.out.2).mono H6.out.2.1.size)) (HT.out) (by simp) (rfl) P7.out.1 HV.out.1 HV.out.2.1 (H6.out.2.2.1.below (grown_below P7.out.2)) (fun b hb => .inl (HV.out.2.2.1 b hb)) rfl
    -- END A1
  · skip
    -- CUT A2
    obtain ⟨⟨hrg, hrs, hri, hrn⟩, hatV, hbV⟩ := HN.out W4 (Below.refl _ _)
    have k0 : W4.cell? ⟨gi, 0, none⟩ = some (.int .i64 2) := cell_of_row _ _ 0 _ _ (0, 0) hri
    have k1 : W4.cell? ⟨gi, 1, none⟩ = some (.int .i64 a) := cell_of_row _ _ 1 _ _ (0, 0) hri
    have k2 : W4.cell? ⟨gi, 2, none⟩ = some (.int .i64 b) := cell_of_row _ _ 2 _ _ (0, 0) hri
    have e1 : W4.cell? ⟨g + 1, 1, none⟩ = some (.int .i64 (fn : Int)) := cell_of_row _ _ 1 _ _ (0, 0) hrs
    have e3 : W4.cell? ⟨g + 1, 3, none⟩ = some (.slice oo o.length ocap) := cell_of_row _ _ 3 _ _ (0, 0) hrs
    have c0 : W4.cell? ⟨g, 0, none⟩ = some (.slice (some ⟨ib, fi, none⟩) c.ins.length icap) := cell_of_row _ _ 0 _ _ (0, 0) hrg
    have c1 : W4.cell? ⟨g, 1, none⟩ = some (.slice so c.strs.length scap) := cell_of_row _ _ 1 _ _ (0, 0) hrg
    have c2 : W4.cell? ⟨g, 2, none⟩ = some (.slice fo c.funs.length fcap) := cell_of_row _ _ 2 _ _ (0, 0) hrg
    have c3 : W4.cell? ⟨g, 3, none⟩ = some (.int .i64 c.glob) := cell_of_row _ _ 3 _ _ (0, 0) hrg
    have n0 : W4.cell? ⟨gn, 0, none⟩ = some (.bool true) := cell_of_row _ _ 0 _ _ (0, 0) hrn
    have n1 : W4.cell? ⟨gn, 1, none⟩ = some (.int .i64 (fn : Int)) := cell_of_row _ _ 1 _ _ (0, 0) hrn
    have n2 : W4.cell? ⟨gn, 2, none⟩ = some (.int .i64 h) := cell_of_row _ _ 2 _ _ (0, 0) hrn
    have n3 : W4.cell? ⟨gn, 3, none⟩ = some (.slice oo o.length ocap) := cell_of_row _ _ 3 _ _ (0, 0) hrn
    have fz2 := frozen_of_row W4 gn 2 _ _ hrn
    have fz3 := frozen_of_row W4 gn 3 _ _ hrn
    have HS := Lib.hid (show (∀ j u, Below w.heap.size w (W4.setCell ⟨gn, j, none⟩ u)) ∧ (∀ j u, At (W4.setCell ⟨gn, j, none⟩ u) oo (intsV o)) ∧ Below w.heap.size w W4 ∧ At W4 oo (intsV o) ∧ ∀ j u, (W4.setCell ⟨gn, j, none⟩ u).heap.size = W4.heap.size from ⟨fun j u => hbV.trans ((Keeps.of_grown (X := fun b => b = gn) (setCell_grown0 _ _ _ _) rfl).below (fun i hi h => by have := HG.out; have := HGS.out; omega) hbV.size), fun j u => hatV.keeps (Keeps.of_grown (X := fun b => b = gn) (setCell_grown0 _ _ _ _) rfl) (fun b hb _ => (HON.out b hb).1), hbV, hatV, fun j u => by simp⟩)
    clear hrg hrs hri hrn hatV hbV
    obtain ⟨T, hT⟩ : ∃ T, betw a 0 ((c.strs.length : Int) - 1) = T := ⟨_, rfl⟩
    have HT := Lib.hid hT
    clear hT
    cases T with
    | false =>
      go_wp2_with fail
      refine (between_any a 0 ((c.strs.length : Int) - 1) W4).mono ?_
      rintro e w2 ⟨rfl, rfl⟩
      rw [HT.out]
      go_wp2_with fail
      go_ret2
      exact rsteps_no (HS.out.1 _ _) (by show (betw a 0 ((c.strs.length : Int) - 1) && _) = false; rw [HT.out]; rfl) rfl
    | true =>
      have hin := of_decide_eq_true HT.out
      obtain ⟨k, rfl⟩ : ∃ k : Nat, a = (k : Int) := ⟨a.toNat, by omega⟩
      have hk : k < c.strs.length := by omega
      obtain ⟨sb, sf, rfl, hsc⟩ := HM.out.1.strs.exv k (by simpa [strCells] using hk)
      have hse : (strCells c.strs)[k]'(by simpa [strCells] using hk) = .string ⟨(c.strs[k]).toArray⟩ := by simp [strCells]
      rw [hse] at hsc
      have hsl4 := HP.out.str _ (List.getElem_mem hk)
      have HF := Lib.hid (show (fitsP flC c L ⟨2, (k : Int), b⟩ ⟨fn, h, o⟩).1 = flC c.strs[k] from by
        show (betw (k : Int) 0 ((c.strs.length : Int) - 1) && flC (c.strs.getD ((k : Int)).toNat [])) = _
        rw [HT.out, Int.toNat_natCast, List.getD_eq_getElem?_getD, List.getElem?_eq_getElem hk]; rfl)
      obtain ⟨st, hst⟩ : ∃ st, c.strs[k] = st := ⟨_, rfl⟩
      rw [hst] at hsc hsl4 HF
      clear hst hse hin
      obtain ⟨T2, hT2⟩ : ∃ T2, flC st = T2 := ⟨_, rfl⟩
      have HT2 := Lib.hid hT2
      clear hT2
      cases T2 with
      | false =>
        go_wp2_with fail
        refine (between_any (k : Int) 0 ((c.strs.length : Int) - 1) W4).mono ?_
        rintro e w2 ⟨rfl, rfl⟩
        rw [HT.out]
        go_wp2_with fail
        refine (rfloat_any st (by omega) W4).mono ?_
        rintro e w2 ⟨rfl, rfl⟩
        rw [HT2.out]
        go_wp2_with fail
        go_ret2
        exact rsteps_no (HS.out.1 _ _) (HF.out.trans HT2.out) rfl
      | true =>
        obtain ⟨V6, hV6⟩ : ∃ V6, (W4.setCell ⟨gn, 2, none⟩ (.int .i64 (h + 1))).alloc (.cells #[.int .i64 ((z : Int) + 1), .bool true, .int .i64 (fn : Int), .int .i64 (h + 1), .slice oo o.length ocap] 68) = V6 := ⟨_, rfl⟩
        have h6 : Below (W4.setCell ⟨gn, 2, none⟩ (.int .i64 (h + 1))).heap.size (W4.setCell ⟨gn, 2, none⟩ (.int .i64 (h + 1))) V6 := by rw [← hV6]; exact (Below.refl _ _).alloc (Nat.le_refl _) _
        have hat6 : At V6 (some ⟨W4.heap.size, 0, none⟩) (wayRow ((z : Int) + 1, ⟨fn, h + 1, o⟩) oo ocap) := by rw [← hV6]; exact At.newk _ _ _ (0, 0) (Eq.symm (HS.out.2.2.2.2 _ _))
        have h6s : W4.heap.size ≤ V6.heap.size := Nat.le_trans (Nat.le_of_eq (Eq.symm (HS.out.2.2.2.2 _ _))) h6.size
        have H6 := Lib.hid (And.intro hat6 (And.intro ((HS.out.1 _ _).trans (h6.mono (HS.out.1 _ _).size)) (And.intro ((HS.out.2.1 _ _).below h6) h6s)))
        clear h6 hat6 h6s
        go_wp2_with fail
        refine (between_any (k : Int) 0 ((c.strs.length : Int) - 1) W4).mono ?_
        rintro e w2 ⟨rfl, rfl⟩
        rw [HT.out]
        go_wp2_with fail
        refine (rfloat_any st (by omega) W4).mono ?_
        rintro e w2 ⟨rfl, rfl⟩
        rw [HT2.out]
        go_wp2_with (first | (at_builtin; refine app_way rfl _ _ rfl w.heap.size none 0 0 [] rfl (World.ownsRow_nil _ _ _ _) ((z : Int) + 1, ⟨fn, h + 1, o⟩) oo ocap W4.heap.size rfl H6.out.1 (by omega) H6.out.2.1.size ?_; rintro ao7 cap7 w7 r1 r2; have P7 := Lib.hid (And.intro r1 r2); clear r1 r2))
        go_ret2
        exact rsteps_one (H6.out.2.1.trans ((grown_below P7.out.2).mono H6.out.2.1.size)) (HF.out.trans HT2.out) (by simp) (rfl) P7.out.1 HV.out.1 HV.out.2.1 (H6.out.2.2.1.below (grown_below P7.out.2)) (fun b hb => .inl (HV.out.2.2.1 b hb)) rfl
    -- END A2
  · skip
    -- CUT A3
    obtain ⟨⟨hrg, hrs, hri, hrn⟩, hatV, hbV⟩ := HN.out W4 (Below.refl _ _)
    have k0 : W4.cell? ⟨gi, 0, none⟩ = some (.int .i64 3) := cell_of_row _ _ 0 _ _ (0, 0) hri
    have k1 : W4.cell? ⟨gi, 1, none⟩ = some (.int .i64 a) := cell_of_row _ _ 1 _ _ (0, 0) hri
    have k2 : W4.cell? ⟨gi, 2, none⟩ = some (.int .i64 b) := cell_of_row _ _ 2 _ _ (0, 0) hri
    have e1 : W4.cell? ⟨g + 1, 1, none⟩ = some (.int .i64 (fn : Int)) := cell_of_row _ _ 1 _ _ (0, 0) hrs
    have e3 : W4.cell? ⟨g + 1, 3, none⟩ = some (.slice oo o.length ocap) := cell_of_row _ _ 3 _ _ (0, 0) hrs
    have c0 : W4.cell? ⟨g, 0, none⟩ = some (.slice (some ⟨ib, fi, none⟩) c.ins.length icap) := cell_of_row _ _ 0 _ _ (0, 0) hrg
    have c1 : W4.cell? ⟨g, 1, none⟩ = some (.slice so c.strs.length scap) := cell_of_row _ _ 1 _ _ (0, 0) hrg
    have c2 : W4.cell? ⟨g, 2, none⟩ = some (.slice fo c.funs.length fcap) := cell_of_row _ _ 2 _ _ (0, 0) hrg
    have c3 : W4.cell? ⟨g, 3, none⟩ = some (.int .i64 c.glob) := cell_of_row _ _ 3 _ _ (0, 0) hrg
    have n0 : W4.cell? ⟨gn, 0, none⟩ = some (.bool true) := cell_of_row _ _ 0 _ _ (0, 0) hrn
    have n1 : W4.cell? ⟨gn, 1, none⟩ = some (.int .i64 (fn : Int)) := cell_of_row _ _ 1 _ _ (0, 0) hrn
    have n2 : W4.cell? ⟨gn, 2, none⟩ = some (.int .i64 h) := cell_of_row _ _ 2 _ _ (0, 0) hrn
    have n3 : W4.cell? ⟨gn, 3, none⟩ = some (.slice oo o.length ocap) := cell_of_row _ _ 3 _ _ (0, 0) hrn
    have fz2 := frozen_of_row W4 gn 2 _ _ hrn
    have fz3 := frozen_of_row W4 gn 3 _ _ hrn
    have HS := Lib.hid (show (∀ j u, Below w.heap.size w (W4.setCell ⟨gn, j, none⟩ u)) ∧ (∀ j u, At (W4.setCell ⟨gn, j, none⟩ u) oo (intsV o)) ∧ Below w.heap.size w W4 ∧ At W4 oo (intsV o) ∧ ∀ j u, (W4.setCell ⟨gn, j, none⟩ u).heap.size = W4.heap.size from ⟨fun j u => hbV.trans ((Keeps.of_grown (X := fun b => b = gn) (setCell_grown0 _ _ _ _) rfl).below (fun i hi h => by have := HG.out; have := HGS.out; omega) hbV.size), fun j u => hatV.keeps (Keeps.of_grown (X := fun b => b = gn) (setCell_grown0 _ _ _ _) rfl) (fun b hb _ => (HON.out b hb).1), hbV, hatV, fun j u => by simp⟩)
    clear hrg hrs hri hrn hatV hbV
    obtain ⟨V6, hV6⟩ : ∃ V6, (W4.setCell ⟨gn, 2, none⟩ (.int .i64 (h + 1))).alloc (.cells #[.int .i64 ((z : Int) + 1), .bool true, .int .i64 (fn : Int), .int .i64 (h + 1), .slice oo o.length ocap] 68) = V6 := ⟨_, rfl⟩
    have h6 : Below (W4.setCell ⟨gn, 2, none⟩ (.int .i64 (h + 1))).heap.size (W4.setCell ⟨gn, 2, none⟩ (.int .i64 (h + 1))) V6 := by rw [← hV6]; exact (Below.refl _ _).alloc (Nat.le_refl _) _
    have hat6 : At V6 (some ⟨W4.heap.size, 0, none⟩) (wayRow ((z : Int) + 1, ⟨fn, h + 1, o⟩) oo ocap) := by rw [← hV6]; exact At.newk _ _ _ (0, 0) (Eq.symm (HS.out.2.2.2.2 _ _))
    have h6s : W4.heap.size ≤ V6.heap.size := Nat.le_trans (Nat.le_of_eq (Eq.symm (HS.out.2.2.2.2 _ _))) h6.size
    have H6 := Lib.hid (And.intro hat6 (And.intro ((HS.out.1 _ _).trans (h6.mono (HS.out.1 _ _).size)) (And.intro ((HS.out.2.1 _ _).below h6) h6s)))
    clear h6 hat6 h6s
    go_wp2_with (first | (at_builtin; refine app_way rfl _ _ rfl w.heap.size none 0 0 [] rfl (World.ownsRow_nil _ _ _ _) ((z : Int) + 1, ⟨fn, h + 1, o⟩) oo ocap W4.heap.size rfl H6.out.1 (by omega) H6.out.2.1.size ?_; rintro ao7 cap7 w7 r1 r2; have P7 := Lib.hid (And.intro r1 r2); clear r1 r2))
    go_ret2
    exact rsteps_one (H6.out.2.1.trans ((grown_below P7.out.2).mono H6.out.2.1.size)) (rfl) (by simp) (rfl) P7.out.1 HV.out.1 HV.out.2.1 (H6.out.2.2.1.below (grown_below P7.out.2)) (fun b hb => .inl (HV.out.2.2.1 b hb)) rfl
    -- END A3
  · skip
    -- CUT A4
    obtain ⟨⟨hrg, hrs, hri, hrn⟩, hatV, hbV⟩ := HN.out W4 (Below.refl _ _)
    have k0 : W4.cell? ⟨gi, 0, none⟩ = some (.int .i64 4) := cell_of_row _ _ 0 _ _ (0, 0) hri
    have k1 : W4.cell? ⟨gi, 1, none⟩ = some (.int .i64 a) := cell_of_row _ _ 1 _ _ (0, 0) hri
    have k2 : W4.cell? ⟨gi, 2, none⟩ = some (.int .i64 b) := cell_of_row _ _ 2 _ _ (0, 0) hri
    have e1 : W4.cell? ⟨g + 1, 1, none⟩ = some (.int .i64 (fn : Int)) := cell_of_row _ _ 1 _ _ (0, 0) hrs
    have e3 : W4.cell? ⟨g + 1, 3, none⟩ = some (.slice oo o.length ocap) := cell_of_row _ _ 3 _ _ (0, 0) hrs
    have c0 : W4.cell? ⟨g, 0, none⟩ = some (.slice (some ⟨ib, fi, none⟩) c.ins.length icap) := cell_of_row _ _ 0 _ _ (0, 0) hrg
    have c1 : W4.cell? ⟨g, 1, none⟩ = some (.slice so c.strs.length scap) := cell_of_row _ _ 1 _ _ (0, 0) hrg
    have c2 : W4.cell? ⟨g, 2, none⟩ = some (.slice fo c.funs.length fcap) := cell_of_row _ _ 2 _ _ (0, 0) hrg
    have c3 : W4.cell? ⟨g, 3, none⟩ = some (.int .i64 c.glob) := cell_of_row _ _ 3 _ _ (0, 0) hrg
    have n0 : W4.cell? ⟨gn, 0, none⟩ = some (.bool true) := cell_of_row _ _ 0 _ _ (0, 0) hrn
    have n1 : W4.cell? ⟨gn, 1, none⟩ = some (.int .i64 (fn : Int)) := cell_of_row _ _ 1 _ _ (0, 0) hrn
    have n2 : W4.cell? ⟨gn, 2, none⟩ = some (.int .i64 h) := cell_of_row _ _ 2 _ _ (0, 0) hrn
    have n3 : W4.cell? ⟨gn, 3, none⟩ = some (.slice oo o.length ocap) := cell_of_row _ _ 3 _ _ (0, 0) hrn
    have fz2 := frozen_of_row W4 gn 2 _ _ hrn
    have fz3 := frozen_of_row W4 gn 3 _ _ hrn
    have HS := Lib.hid (show (∀ j u, Below w.heap.size w (W4.setCell ⟨gn, j, none⟩ u)) ∧ (∀ j u, At (W4.setCell ⟨gn, j, none⟩ u) oo (intsV o)) ∧ Below w.heap.size w W4 ∧ At W4 oo (intsV o) ∧ ∀ j u, (W4.setCell ⟨gn, j, none⟩ u).heap.size = W4.heap.size from ⟨fun j u => hbV.trans ((Keeps.of_grown (X := fun b => b = gn) (setCell_grown0 _ _ _ _) rfl).below (fun i hi h => by have := HG.out; have := HGS.out; omega) hbV.size), fun j u => hatV.keeps (Keeps.of_grown (X := fun b => b = gn) (setCell_grown0 _ _ _ _) rfl) (fun b hb _ => (HON.out b hb).1), hbV, hatV, fun j u => by simp⟩)
    clear hrg hrs hri hrn hatV hbV
    obtain ⟨T, hT⟩ : ∃ T, betw a 0 (h - 1) = T := ⟨_, rfl⟩
    have HT := Lib.hid hT
    clear hT
    cases T with
    | false =>
      go_wp2_with fail
      refine (between_any a 0 (h - 1) W4).mono ?_
      rintro e w2 ⟨rfl, rfl⟩
      rw [show betw a 0 (h - 1) = false from HT.out]
      go_wp2_with fail
      go_ret2
      exact rsteps_no (HS.out.1 _ _) (HT.out) rfl
    | true =>
      obtain ⟨V6, hV6⟩ : ∃ V6, (W4.setCell ⟨gn, 2, none⟩ (.int .i64 (h + 1))).alloc (.cells #[.int .i64 ((z : Int) + 1), .bool true, .int .i64 (fn : Int), .int .i64 (h + 1), .slice oo o.length ocap] 68) = V6 := ⟨_, rfl⟩
      have h6 : Below (W4.setCell ⟨gn, 2, none⟩ (.int .i64 (h + 1))).heap.size (W4.setCell ⟨gn, 2, none⟩ (.int .i64 (h + 1))) V6 := by rw [← hV6]; exact (Below.refl _ _).alloc (Nat.le_refl _) _
      have hat6 : At V6 (some ⟨W4.heap.size, 0, none⟩) (wayRow ((z : Int) + 1, ⟨fn, h + 1, o⟩) oo ocap) := by rw [← hV6]; exact At.newk _ _ _ (0, 0) (Eq.symm (HS.out.2.2.2.2 _ _))
      have h6s : W4.heap.size ≤ V6.heap.size := Nat.le_trans (Nat.le_of_eq (Eq.symm (HS.out.2.2.2.2 _ _))) h6.size
      have H6 := Lib.hid (And.intro hat6 (And.intro ((HS.out.1 _ _).trans (h6.mono (HS.out.1 _ _).size)) (And.intro ((HS.out.2.1 _ _).below h6) h6s)))
      clear h6 hat6 h6s
      go_wp2_with fail
      refine (between_any a 0 (h - 1) W4).mono ?_
      rintro e w2 ⟨rfl, rfl⟩
      rw [show betw a 0 (h - 1) = true from HT.out]
      go_wp2_with (first | (at_builtin; refine app_way rfl _ _ rfl w.heap.size none 0 0 [] rfl (World.ownsRow_nil _ _ _ _) ((z : Int) + 1, ⟨fn, h + 1, o⟩) oo ocap W4.heap.size rfl H6.out.1 (by omega) H6.out.2.1.size ?_; rintro ao7 cap7 w7 r1 r2; have P7 := Lib.hid (And.intro r1 r2); clear r1 r2))
      go_ret2
      exact rsteps_one (H6.out.2.1.trans ((grown_below P7.out.2).mono H6.out.2.1.size)) (HT.out) (by simp) (rfl) P7.out.1 HV.out.1 HV.out.2.1 (H6.out.2.2.1.below (grown_below P7.out.2)) (fun b hb => .inl (HV.out.2.2.1 b hb)) rfl
    -- END A4
  · skip
    -- CUT A5
    have hfl5 : fn < L.length := by have := HL.out; omega
    obtain ⟨lb, lf, rfl, hlc⟩ := HM.out.2.1.exv fn (by simpa [intsV] using hfl5)
    rw [intsV_get L fn hfl5] at hlc
    have hz := HV.out.2.2.2.2.1 L[fn] (List.getElem_mem _)
    have hgd : L.getD fn 0 = L[fn] := by simp [List.getD_eq_getElem?_getD, hfl5]
    obtain ⟨y, hze⟩ : ∃ y, L[fn] = y := ⟨_, rfl⟩
    rw [hze] at hlc hz hgd
    obtain ⟨hz0, hz1⟩ := hz
    have hdec : wrap64 (y - 1) = dec64 y := by unfold wrap64 dec64; split <;> omega
    obtain ⟨T, hT⟩ : ∃ T, betw a 0 (wrap64 (y - 1)) = T := ⟨_, rfl⟩
    have HT := Lib.hid hT
    have HF := Lib.hid (show (fitsP flC c L ⟨5, a, b⟩ ⟨fn, h, o⟩).1 = T from by show betw a 0 (dec64 (L.getD fn 0)) = _; rw [hgd, ← hdec]; exact hT)
    have HLC := Lib.hid (show W4.drew.cell? ⟨lb, lf + fn, none⟩ = _ from hlc)
    clear hlc hgd hze hdec hT
    obtain ⟨⟨hrg, hrs, hri, hrn⟩, hatV, hbV⟩ := HN.out W4 (Below.refl _ _)
    have k0 : W4.cell? ⟨gi, 0, none⟩ = some (.int .i64 5) := cell_of_row _ _ 0 _ _ (0, 0) hri
    have k1 : W4.cell? ⟨gi, 1, none⟩ = some (.int .i64 a) := cell_of_row _ _ 1 _ _ (0, 0) hri
    have k2 : W4.cell? ⟨gi, 2, none⟩ = some (.int .i64 b) := cell_of_row _ _ 2 _ _ (0, 0) hri
    have e1 : W4.cell? ⟨g + 1, 1, none⟩ = some (.int .i64 (fn : Int)) := cell_of_row _ _ 1 _ _ (0, 0) hrs
    have e3 : W4.cell? ⟨g + 1, 3, none⟩ = some (.slice oo o.length ocap) := cell_of_row _ _ 3 _ _ (0, 0) hrs
    have c0 : W4.cell? ⟨g, 0, none⟩ = some (.slice (some ⟨ib, fi, none⟩) c.ins.length icap) := cell_of_row _ _ 0 _ _ (0, 0) hrg
    have c1 : W4.cell? ⟨g, 1, none⟩ = some (.slice so c.strs.length scap) := cell_of_row _ _ 1 _ _ (0, 0) hrg
    have c2 : W4.cell? ⟨g, 2, none⟩ = some (.slice fo c.funs.length fcap) := cell_of_row _ _ 2 _ _ (0, 0) hrg
    have c3 : W4.cell? ⟨g, 3, none⟩ = some (.int .i64 c.glob) := cell_of_row _ _ 3 _ _ (0, 0) hrg
    have n0 : W4.cell? ⟨gn, 0, none⟩ = some (.bool true) := cell_of_row _ _ 0 _ _ (0, 0) hrn
    have n1 : W4.cell? ⟨gn, 1, none⟩ = some (.int .i64 (fn : Int)) := cell_of_row _ _ 1 _ _ (0, 0) hrn
    have n2 : W4.cell? ⟨gn, 2, none⟩ = some (.int .i64 h) := cell_of_row _ _ 2 _ _ (0, 0) hrn
    have n3 : W4.cell? ⟨gn, 3, none⟩ = some (.slice oo o.length ocap) := cell_of_row _ _ 3 _ _ (0, 0) hrn
    have fz2 := frozen_of_row W4 gn 2 _ _ hrn
    have fz3 := frozen_of_row W4 gn 3 _ _ hrn
    have HS := Lib.hid (show (∀ j u, Below w.heap.size w (W4.setCell ⟨gn, j, none⟩ u)) ∧ (∀ j u, At (W4.setCell ⟨gn, j, none⟩ u) oo (intsV o)) ∧ Below w.heap.size w W4 ∧ At W4 oo (intsV o) ∧ ∀ j u, (W4.setCell ⟨gn, j, none⟩ u).heap.size = W4.heap.size from ⟨fun j u => hbV.trans ((Keeps.of_grown (X := fun b => b = gn) (setCell_grown0 _ _ _ _) rfl).below (fun i hi h => by have := HG.out; have := HGS.out; omega) hbV.size), fun j u => hatV.keeps (Keeps.of_grown (X := fun b => b = gn) (setCell_grown0 _ _ _ _) rfl) (fun b hb _ => (HON.out b hb).1), hbV, hatV, fun j u => by simp⟩)
    clear hrg hrs hri hrn hatV hbV
    go_wp2_with fail
    refine seq_start (by kernel_rfl) ?_
    refine seq_take 0 (v := ?_) rfl (by kernel_rfl) (fun _ _ _ h => h) (by rfl) (fun w' hw' => ?_) ?_
    rotate_left
    · go_simp; try with_reducible rfl
    try simp only [List.getElem_toArray, List.getElem_cons_succ, List.getElem_cons_zero, Act.put, List.setIfInBounds_toArray, List.set_cons_zero, List.set_cons_succ]
    refine seq_take 1 rfl (by kernel_rfl) (fun _ _ _ h => h) (by rfl) (seq_ldi rfl rfl ((show W4.drew.cell? ⟨gi, 1, none⟩ = _ from k1))) ?_
    try simp only [List.getElem_toArray, List.getElem_cons_succ, List.getElem_cons_zero, Act.put, List.setIfInBounds_toArray, List.set_cons_zero, List.set_cons_succ]
    refine seq_take 2 (v := ?_) rfl (by kernel_rfl) (fun _ _ _ h => h) (by rfl) (fun w' hw' => ?_) ?_
    rotate_left
    · go_simp; try with_reducible rfl
    try simp only [List.getElem_toArray, List.getElem_cons_succ, List.getElem_cons_zero, Act.put, List.setIfInBounds_toArray, List.set_cons_zero, List.set_cons_succ]
    refine seq_take 3 (v := ?_) rfl (by kernel_rfl) (fun _ _ _ h => h) (by rfl) (fun w' hw' => ?_) ?_
    rotate_left
    · go_simp; try with_reducible rfl
    try simp only [List.getElem_toArray, List.getElem_cons_succ, List.getElem_cons_zero, Act.put, List.setIfInBounds_toArray, List.set_cons_zero, List.set_cons_succ]
    refine seq_take 4 rfl (by kernel_rfl) (fun _ _ _ h => h) (by rfl) (seq_ldi rfl rfl ((show W4.drew.cell? ⟨g + 1, 1, none⟩ = _ from e1))) ?_
    try simp only [List.getElem_toArray, List.getElem_cons_succ, List.getElem_cons_zero, Act.put, List.setIfInBounds_toArray, List.set_cons_zero, List.set_cons_succ]
    refine seq_take 5 (v := ?_) rfl (by kernel_rfl) (fun _ _ _ h => h) (by rfl) (fun w' hw' => ?_) ?_
    rotate_left
    · go_simp; try with_reducible rfl
    try simp only [List.getElem_toArray, List.getElem_cons_succ, List.getElem_cons_zero, Act.put, List.setIfInBounds_toArray, List.set_cons_zero, List.set_cons_succ]
    refine seq_take 6 rfl (by kernel_rfl) (fun _ _ _ h => h) (by rfl) (seq_ldi rfl rfl (HLC.out)) ?_
    try simp only [List.getElem_toArray, List.getElem_cons_succ, List.getElem_cons_zero, Act.put, List.setIfInBounds_toArray, List.set_cons_zero, List.set_cons_succ]
    refine seq_take 7 (v := ?_) rfl (by kernel_rfl) (fun _ _ _ h => h) (by rfl) (fun w' hw' => ?_) ?_
    rotate_left
    · go_simp; try with_reducible rfl
    try simp only [List.getElem_toArray, List.getElem_cons_succ, List.getElem_cons_zero, Act.put, List.setIfInBounds_toArray, List.set_cons_zero, List.set_cons_succ]
    refine seq_run 8 rfl (by kernel_rfl) (by rfl) (fun KK hKK => ?_)
    go_wp2_with fail
    refine (between_any a 0 _ W4.drew).mono ?_
    rintro e w2 ⟨rfl, rfl⟩
    rw [HT.out]
    go_wp2_with fail
    refine ⟨Below.refl _ _, ?_⟩
    refine seq_take 9 (v := ?_) rfl (by kernel_rfl) (fun _ _ _ h => h) (by rfl) (fun w' hw' => ?_) ?_
    rotate_left
    · go_simp; try with_reducible rfl
    try simp only [List.getElem_toArray, List.getElem_cons_succ, List.getElem_cons_zero, Act.put, List.setIfInBounds_toArray, List.set_cons_zero, List.set_cons_succ]
    refine seq_done (by kernel_rfl) ?_
    obtain ⟨V5, hV5⟩ : ∃ V5, W4.drew = V5 := ⟨_, rfl⟩
    rw [hV5]
    have hb5 : Below W4.heap.size W4 V5 := by rw [← hV5]; exact (Below.refl _ W4).drew
    have HB5 := Lib.hid hb5
    clear hV5 hb5
    clear k0 k1 k2 e1 e3 c0 c1 c2 c3 n0 n1 n2 n3 fz2 fz3 HS
    obtain ⟨⟨hrg, hrs, hri, hrn⟩, hatV, hbV⟩ := HN.out V5 HB5.out
    have k0 : V5.cell? ⟨gi, 0, none⟩ = some (.int .i64 5) := cell_of_row _ _ 0 _ _ (0, 0) hri
    have k1 : V5.cell? ⟨gi, 1, none⟩ = some (.int .i64 a) := cell_of_row _ _ 1 _ _ (0, 0) hri
    have k2 : V5.cell? ⟨gi, 2, none⟩ = some (.int .i64 b) := cell_of_row _ _ 2 _ _ (0, 0) hri
    have e1 : V5.cell? ⟨g + 1, 1, none⟩ = some (.int .i64 (fn : Int)) := cell_of_row _ _ 1 _ _ (0, 0) hrs
    have e3 : V5.cell? ⟨g + 1, 3, none⟩ = some (.slice oo o.length ocap) := cell_of_row _ _ 3 _ _ (0, 0) hrs
    have c0 : V5.cell? ⟨g, 0, none⟩ = some (.slice (some ⟨ib, fi, none⟩) c.ins.length icap) := cell_of_row _ _ 0 _ _ (0, 0) hrg
    have c1 : V5.cell? ⟨g, 1, none⟩ = some (.slice so c.strs.length scap) := cell_of_row _ _ 1 _ _ (0, 0) hrg
    have c2 : V5.cell? ⟨g, 2, none⟩ = some (.slice fo c.funs.length fcap) := cell_of_row _ _ 2 _ _ (0, 0) hrg
    have c3 : V5.cell? ⟨g, 3, none⟩ = some (.int .i64 c.glob) := cell_of_row _ _ 3 _ _ (0, 0) hrg
    have n0 : V5.cell? ⟨gn, 0, none⟩ = some (.bool true) := cell_of_row _ _ 0 _ _ (0, 0) hrn
    have n1 : V5.cell? ⟨gn, 1, none⟩ = some (.int .i64 (fn : Int)) := cell_of_row _ _ 1 _ _ (0, 0) hrn
    have n2 : V5.cell? ⟨gn, 2, none⟩ = some (.int .i64 h) := cell_of_row _ _ 2 _ _ (0, 0) hrn
    have n3 : V5.cell? ⟨gn, 3, none⟩ = some (.slice oo o.length ocap) := cell_of_row _ _ 3 _ _ (0, 0) hrn
    have fz2 := frozen_of_row V5 gn 2 _ _ hrn
    have fz3 := frozen_of_row V5 gn 3 _ _ hrn
    have HS := Lib.hid (show (∀ j u, Below w.heap.size w (V5.setCell ⟨gn, j, none⟩ u)) ∧ (∀ j u, At (V5.setCell ⟨gn, j, none⟩ u) oo (intsV o)) ∧ Below w.heap.size w V5 ∧ At V5 oo (intsV o) ∧ ∀ j u, (V5.setCell ⟨gn, j, none⟩ u).heap.size = V5.heap.size from ⟨fun j u => hbV.trans ((Keeps.of_grown (X := fun b => b = gn) (setCell_grown0 _ _ _ _) rfl).below (fun i hi h => by have := HG.out; have := HGS.out; omega) hbV.size), fun j u => hatV.keeps (Keeps.of_grown (X := fun b => b = gn) (setCell_grown0 _ _ _ _) rfl) (fun b hb _ => (HON.out b hb).1), hbV, hatV, fun j u => by simp⟩)
    clear hrg hrs hri hrn hatV hbV
    cases T with
    | false =>
      go_wp2_with fail
      go_ret2
      exact rsteps_no (HS.out.1 _ _) (HF.out) rfl
    | true =>
      obtain ⟨V6, hV6⟩ : ∃ V6, (V5.setCell ⟨gn, 2, none⟩ (.int .i64 (h + 1))).alloc (.cells #[.int .i64 ((z : Int) + 1), .bool true, .int .i64 (fn : Int), .int .i64 (h + 1), .slice oo o.length ocap] 68) = V6 := ⟨_, rfl⟩
      have h6 : Below (V5.setCell ⟨gn, 2, none⟩ (.int .i64 (h + 1))).heap.size (V5.setCell ⟨gn, 2, none⟩ (.int .i64 (h + 1))) V6 := by rw [← hV6]; exact (Below.refl _ _).alloc (Nat.le_refl _) _
      have hat6 : At V6 (some ⟨V5.heap.size, 0, none⟩) (wayRow ((z : Int) + 1, ⟨fn, h + 1, o⟩) oo ocap) := by rw [← hV6]; exact At.newk _ _ _ (0, 0) (Eq.symm (HS.out.2.2.2.2 _ _))
      have h6s : V5.heap.size ≤ V6.heap.size := Nat.le_trans (Nat.le_of_eq (Eq.symm (HS.out.2.2.2.2 _ _))) h6.size
      have H6 := Lib.hid (And.intro hat6 (And.intro ((HS.out.1 _ _).trans (h6.mono (HS.out.1 _ _).size)) (And.intro ((HS.out.2.1 _ _).below h6) h6s)))
      clear h6 hat6 h6s
      go_wp2_with (first | (at_builtin; refine app_way rfl _ _ rfl w.heap.size none 0 0 [] rfl (World.ownsRow_nil _ _ _ _) ((z : Int) + 1, ⟨fn, h + 1, o⟩) oo ocap V5.heap.size rfl H6.out.1 (by omega) H6.out.2.1.size ?_; rintro ao7 cap7 w7 r1 r2; have P7 := Lib.hid (And.intro r1 r2); clear r1 r2))
      go_ret2
      exact rsteps_one (H6.out.2.1.trans ((grown_below P7.out.2).mono H6.out.2.1.size)) (HF.out) (by simp) (rfl) P7.out.1 HV.out.1 HV.out.2.1 (H6.out.2.2.1.below (grown_below P7.out.2)) (fun b hb => .inl (HV.out.2.2.1 b hb)) rfl
    -- END A5
end Go.Proofs.YtnhdefaagicejaaDoor
