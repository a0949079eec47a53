/- The walk of the document's step: the operations 23 to 28. -/
import Derived.Test.YtnhdefaagicejaaDoorCodeX
namespace Go.Proofs.YtnhdefaagicejaaDoor
set_option linter.unusedSimpArgs false
set_option linter.unusedVariables false
open Go.RowKit

set_option maxRecDepth 100000 in
set_option maxHeartbeats 40000000 in
theorem rstep_23 {w : World} {c : CodeP} {io so fo : Option Addr} {icap scap fcap : Nat} (hmem : CodeMem w (fun b => b < w.heap.size) c io so fo) (hp : Pre c) {L : List Int} {lo : Option Addr} {lcap : Nat} (hL : L.length = c.funs.length) (hLr : ∀ z ∈ L, R64i z) (hlo : At w lo (intsV L))
    (z : Nat) (hz : z < c.ins.length) (f : FrP) (hh0 : 0 ≤ f.h) (hh1 : f.h ≤ 10000) (hfn : f.fn < c.funs.length) (hol : f.op.length ≤ 1000000) (hop : ∀ u ∈ f.op, -1 ≤ u) (v : Value) (O : Nat → Prop) (hO : ∀ b, O b → b < w.heap.size) (hv : SpV w O v f) (hlow : 23 ≤ (c.ins[z]).op) (hhigh : (c.ins[z]).op ≤ 28) :
    Calls Tryd.prog 21 #[.agg #[.slice io c.ins.length icap, .slice so c.strs.length scap, .slice fo c.funs.length fcap, .int .i64 c.glob], .slice lo L.length lcap, v, .int .i64 (z : Int)] w (RSteps w c L O z c.ins[z] f) := by
  obtain ⟨oo, ocap, rfl, v2, v3, v4, v5⟩ := hv
  obtain ⟨fn, h, o⟩ := f
  simp only at *
  obtain ⟨ib, fi, rfl, i0, i1, i2⟩ := hmem.insAt z hz
  have hxr := hmem.insR _ (List.getElem_mem hz)
  obtain ⟨x, hx⟩ : ∃ x, c.ins[z] = x := ⟨_, rfl⟩
  rw [hx] at i0 i1 i2 hxr hlow hhigh ⊢
  obtain ⟨op, a, b⟩ := x
  simp only at i0 i1 i2 hxr hlow hhigh
  obtain ⟨W2, hW2⟩ : ∃ W2, (w.alloc (.cells #[.slice (some ⟨ib, fi, none⟩) c.ins.length icap, .slice so c.strs.length scap, .slice fo c.funs.length fcap, .int .i64 c.glob] 26)).alloc (.cells #[.bool true, .int .i64 (fn : Int), .int .i64 h, .slice oo o.length ocap] 62) = W2 := ⟨_, rfl⟩
  obtain ⟨W3, hW3⟩ : ∃ W3, W2.alloc (.cells #[.int .i64 op, .int .i64 a, .int .i64 b] 29) = W3 := ⟨_, rfl⟩
  obtain ⟨W4, hW4⟩ : ∃ W4, W3.alloc (.cells #[.bool true, .int .i64 (fn : Int), .int .i64 h, .slice oo o.length ocap] 62) = W4 := ⟨_, rfl⟩
  have hb2 : Below w.heap.size w W2 := by rw [← hW2]; exact ((Below.refl _ w).alloc (Nat.le_refl _) _).alloc (by simp) _
  have hb3 : Below W2.heap.size W2 W3 := by rw [← hW3]; exact (Below.refl _ _).alloc (Nat.le_refl _) _
  have hb4 : Below W3.heap.size W3 W4 := by rw [← hW4]; exact (Below.refl _ _).alloc (Nat.le_refl _) _
  have hs2 : W2.heap.size = w.heap.size + 1 + 1 := by rw [← hW2]; simp
  have hs3 : W3.heap.size = W2.heap.size + 1 := by rw [← hW3]; simp
  have hs4 : W4.heap.size = W3.heap.size + 1 := by rw [← hW4]; simp
  have hr2g : W2.heap[w.heap.size]? = some (.cells #[.slice (some ⟨ib, fi, none⟩) c.ins.length icap, .slice so c.strs.length scap, .slice fo c.funs.length fcap, .int .i64 c.glob] 26 (0, 0)) := by
    rw [← hW2]
    exact (Below.heap_alloc (w.alloc _) _ w.heap.size (by simp)).trans (heap_alloc_new w _)
  have hr2s : W2.heap[w.heap.size + 1]? = some (.cells #[.bool true, .int .i64 (fn : Int), .int .i64 h, .slice oo o.length ocap] 62 (0, 0)) := by
    rw [← hW2]
    have := heap_alloc_new (w.alloc (.cells #[.slice (some ⟨ib, fi, none⟩) c.ins.length icap, .slice so c.strs.length scap, .slice fo c.funs.length fcap, .int .i64 c.glob] 26)) (.cells #[.bool true, .int .i64 (fn : Int), .int .i64 h, .slice oo o.length ocap] 62)
    simpa using this
  have hr3 : W3.heap[W2.heap.size]? = some (.cells #[.int .i64 op, .int .i64 a, .int .i64 b] 29 (0, 0)) := by rw [← hW3]; exact heap_alloc_new W2 _
  have hr4 : W4.heap[W3.heap.size]? = some (.cells #[.bool true, .int .i64 (fn : Int), .int .i64 h, .slice oo o.length ocap] 62 (0, 0)) := by rw [← hW4]; exact heap_alloc_new W3 _
  have hr3s : W3.heap[w.heap.size + 1]? = _ := (hb3.block (w.heap.size + 1) (by omega)).trans hr2s
  have hr4s : W4.heap[w.heap.size + 1]? = _ := (hb4.block (w.heap.size + 1) (by omega)).trans hr3s
  have hr4g : W4.heap[w.heap.size]? = _ := (hb4.block w.heap.size (by omega)).trans ((hb3.block w.heap.size (by omega)).trans hr2g)
  have hr4i : W4.heap[W2.heap.size]? = _ := (hb4.block W2.heap.size (by omega)).trans hr3
  have hbw4 : Below w.heap.size w W4 := hb2.trans ((hb3.mono (by omega)).trans (hb4.mono (by omega)))
  have q0 : W2.cell? ⟨w.heap.size, 0, none⟩ = some (.slice (some ⟨ib, fi, none⟩) c.ins.length icap) := cell_of_row _ _ 0 _ _ (0, 0) hr2g
  have hil : ib < w.heap.size := World.block_lt_of_cell? (a := ⟨ib, fi + z * 3, none⟩) w i0
  have j0 : W2.cell? ⟨ib, fi + z * 3, none⟩ = some (.int .i64 op) := (World.cell?_of_block (a := ⟨ib, fi + z * 3, none⟩) (hb2.block ib hil)).trans i0
  have j1 : W2.cell? ⟨ib, fi + z * 3 + 1, none⟩ = some (.int .i64 a) := (World.cell?_of_block (a := ⟨ib, fi + z * 3 + 1, none⟩) (hb2.block ib hil)).trans i1
  have j2 : W2.cell? ⟨ib, fi + z * 3 + 2, none⟩ = some (.int .i64 b) := (World.cell?_of_block (a := ⟨ib, fi + z * 3 + 2, none⟩) (hb2.block ib hil)).trans i2
  have p0 : W3.cell? ⟨w.heap.size + 1, 0, none⟩ = some (.bool true) := cell_of_row _ _ 0 _ _ (0, 0) hr3s
  have p1 : W3.cell? ⟨w.heap.size + 1, 1, none⟩ = some (.int .i64 (fn : Int)) := cell_of_row _ _ 1 _ _ (0, 0) hr3s
  have p2 : W3.cell? ⟨w.heap.size + 1, 2, none⟩ = some (.int .i64 h) := cell_of_row _ _ 2 _ _ (0, 0) hr3s
  have p3 : W3.cell? ⟨w.heap.size + 1, 3, none⟩ = some (.slice oo o.length ocap) := cell_of_row _ _ 3 _ _ (0, 0) hr3s
  have e3 : W4.cell? ⟨w.heap.size + 1, 3, none⟩ = some (.slice oo o.length ocap) := cell_of_row _ _ 3 _ _ (0, 0) hr4s
  have k0 : W4.cell? ⟨W2.heap.size, 0, none⟩ = some (.int .i64 op) := cell_of_row _ _ 0 _ _ (0, 0) hr4i
  have HP := Lib.hid hp
  have HL := Lib.hid hL
  have HM := Lib.hid (And.intro (hmem.below hbw4) (And.intro (hlo.below hbw4) (v4.below hbw4)))
  have HW := Lib.hid (And.intro hbw4 (And.intro hr4g (And.intro hr4s (And.intro hr4i (And.intro hr4 (And.intro hs2 (And.intro hs3 hs4)))))))
  have HV := Lib.hid (And.intro v2 (And.intro v3 (And.intro v5 (And.intro hO (And.intro hLr (And.intro hop hxr))))))
  have hcl : c.ins.length ≤ 65536 := hp.i2
  clear hb2 hb3 hb4 hr2g hr2s hr3 hr4 hr3s hr4s hr4g hr4i hbw4 hmem hp hlo v2 v3 v4 v5 hO hLr hop hxr i0 i1 i2 hx hs2 hs3 hs4 hil hL
  go_enter Tryd.func21, Tryd.ntmps21
  go_upto_block 0 with (fail)
  clear hW2 hW3 hW4 q0 j0 j1 j2 p0 p1 p2 p3 e3 k0
  obtain ⟨gi, hgi⟩ : ∃ gi, W2.heap.size = gi := ⟨_, rfl⟩
  obtain ⟨gn, hgn⟩ : ∃ gn, W3.heap.size = gn := ⟨_, rfl⟩
  obtain ⟨g, hg⟩ : ∃ g, w.heap.size = g := ⟨_, rfl⟩
  rw [hgi, hgn, hg] at HW
  rw [hgi, hgn, hg]
  have HG := Lib.hid hg
  have HGS := Lib.hid HW.out.2.2.2.2.2
  clear hgi hgn hg
  have hg1 : ¬ gi = gn := by have := HGS.out; omega
  have hg2 : ¬ gn = gi := by have := HGS.out; omega
  have hg3 : ¬ g = gn := by have := HGS.out; omega
  have hg4 : ¬ gn = g := by have := HGS.out; omega
  have hg5 : ¬ g + 1 = gn := by have := HGS.out; omega
  have hg6 : ¬ gn = g + 1 := by have := HGS.out; omega
  have HON := Lib.hid (show ∀ b, blk oo = some b → b ≠ gn ∧ (O b ∨ w.heap.size ≤ b) from fun b hb => ⟨by have := HV.out.2.2.2.1 b (HV.out.2.2.1 b hb); have := HG.out; have := HGS.out; omega, .inl (HV.out.2.2.1 b hb)⟩)
  have HN := Lib.hid (show ∀ V, Below W4.heap.size W4 V → (V.heap[g]? = _ ∧ V.heap[g + 1]? = _ ∧ V.heap[gi]? = _ ∧ V.heap[gn]? = _) ∧ At V oo (intsV o) ∧ Below w.heap.size w V from fun V h5 => ⟨⟨(h5.block g (by have := HGS.out; omega)).trans HW.out.2.1, (h5.block (g + 1) (by have := HGS.out; omega)).trans HW.out.2.2.1, (h5.block gi (by have := HGS.out; omega)).trans HW.out.2.2.2.1, (h5.block gn (by have := HGS.out; omega)).trans HW.out.2.2.2.2.1⟩, HM.out.2.2.below h5, by rw [HG.out]; exact HW.out.1.trans (h5.mono (by have := HG.out; have := HGS.out; omega))⟩)
  have hsl := HP.out.s
  have hfl := HP.out.f2
  have hgl1 := HP.out.g1
  have hgl2 := HP.out.g2
  have hcs : op = 23 ∨ op = 24 ∨ op = 25 ∨ op = 26 ∨ op = 27 ∨ op = 28 := by omega
  clear hlow hhigh
  rcases hcs with rfl | rfl | rfl | rfl | rfl | rfl
  · skip
    -- CUT A23
    obtain ⟨⟨hrg, hrs, hri, hrn⟩, hatV, hbV⟩ := HN.out W4 (Below.refl _ _)
    have k0 : W4.cell? ⟨gi, 0, none⟩ = some (.int .i64 23) := cell_of_row _ _ 0 _ _ (0, 0) hri
    have k1 : W4.cell? ⟨gi, 1, none⟩ = some (.int .i64 a) := cell_of_row _ _ 1 _ _ (0, 0) hri
    have k2 : W4.cell? ⟨gi, 2, none⟩ = some (.int .i64 b) := cell_of_row _ _ 2 _ _ (0, 0) hri
    have e1 : W4.cell? ⟨g + 1, 1, none⟩ = some (.int .i64 (fn : Int)) := cell_of_row _ _ 1 _ _ (0, 0) hrs
    have e3 : W4.cell? ⟨g + 1, 3, none⟩ = some (.slice oo o.length ocap) := cell_of_row _ _ 3 _ _ (0, 0) hrs
    have c0 : W4.cell? ⟨g, 0, none⟩ = some (.slice (some ⟨ib, fi, none⟩) c.ins.length icap) := cell_of_row _ _ 0 _ _ (0, 0) hrg
    have c1 : W4.cell? ⟨g, 1, none⟩ = some (.slice so c.strs.length scap) := cell_of_row _ _ 1 _ _ (0, 0) hrg
    have c2 : W4.cell? ⟨g, 2, none⟩ = some (.slice fo c.funs.length fcap) := cell_of_row _ _ 2 _ _ (0, 0) hrg
    have c3 : W4.cell? ⟨g, 3, none⟩ = some (.int .i64 c.glob) := cell_of_row _ _ 3 _ _ (0, 0) hrg
    have n0 : W4.cell? ⟨gn, 0, none⟩ = some (.bool true) := cell_of_row _ _ 0 _ _ (0, 0) hrn
    have n1 : W4.cell? ⟨gn, 1, none⟩ = some (.int .i64 (fn : Int)) := cell_of_row _ _ 1 _ _ (0, 0) hrn
    have n2 : W4.cell? ⟨gn, 2, none⟩ = some (.int .i64 h) := cell_of_row _ _ 2 _ _ (0, 0) hrn
    have n3 : W4.cell? ⟨gn, 3, none⟩ = some (.slice oo o.length ocap) := cell_of_row _ _ 3 _ _ (0, 0) hrn
    have fz2 := frozen_of_row W4 gn 2 _ _ hrn
    have fz3 := frozen_of_row W4 gn 3 _ _ hrn
    have HS := Lib.hid (show (∀ j u, Below w.heap.size w (W4.setCell ⟨gn, j, none⟩ u)) ∧ (∀ j u, At (W4.setCell ⟨gn, j, none⟩ u) oo (intsV o)) ∧ Below w.heap.size w W4 ∧ At W4 oo (intsV o) ∧ ∀ j u, (W4.setCell ⟨gn, j, none⟩ u).heap.size = W4.heap.size from ⟨fun j u => hbV.trans ((Keeps.of_grown (X := fun b => b = gn) (setCell_grown0 _ _ _ _) rfl).below (fun i hi h => by have := HG.out; have := HGS.out; omega) hbV.size), fun j u => hatV.keeps (Keeps.of_grown (X := fun b => b = gn) (setCell_grown0 _ _ _ _) rfl) (fun b hb _ => (HON.out b hb).1), hbV, hatV, fun j u => by simp⟩)
    clear hrg hrs hri hrn hatV hbV
    by_cases h1 : 1 ≤ h
    · have hd1 : decide (1 ≤ h) = true := decide_eq_true h1
      go_wp2_with fail
      go_ret2
      exact rsteps_none HS.out.2.2.1 (decide_eq_true h1) (by simp) rfl rfl
    · have hd1 : decide (1 ≤ h) = false := decide_eq_false h1
      go_wp2_with fail
      go_ret2
      exact rsteps_no HS.out.2.2.1 (by show decide (1 ≤ h) = false; exact decide_eq_false (by omega)) rfl
    -- END A23
  · skip
    -- CUT A24
    obtain ⟨T, hT⟩ : ∃ T, betw a 0 ((c.ins.length : Int) - 1) = T := ⟨_, rfl⟩
    have HT := Lib.hid hT
    clear hT
    obtain ⟨⟨hrg, hrs, hri, hrn⟩, hatV, hbV⟩ := HN.out W4 (Below.refl _ _)
    have k0 : W4.cell? ⟨gi, 0, none⟩ = some (.int .i64 24) := cell_of_row _ _ 0 _ _ (0, 0) hri
    have k1 : W4.cell? ⟨gi, 1, none⟩ = some (.int .i64 a) := cell_of_row _ _ 1 _ _ (0, 0) hri
    have k2 : W4.cell? ⟨gi, 2, none⟩ = some (.int .i64 b) := cell_of_row _ _ 2 _ _ (0, 0) hri
    have e1 : W4.cell? ⟨g + 1, 1, none⟩ = some (.int .i64 (fn : Int)) := cell_of_row _ _ 1 _ _ (0, 0) hrs
    have e3 : W4.cell? ⟨g + 1, 3, none⟩ = some (.slice oo o.length ocap) := cell_of_row _ _ 3 _ _ (0, 0) hrs
    have c0 : W4.cell? ⟨g, 0, none⟩ = some (.slice (some ⟨ib, fi, none⟩) c.ins.length icap) := cell_of_row _ _ 0 _ _ (0, 0) hrg
    have c1 : W4.cell? ⟨g, 1, none⟩ = some (.slice so c.strs.length scap) := cell_of_row _ _ 1 _ _ (0, 0) hrg
    have c2 : W4.cell? ⟨g, 2, none⟩ = some (.slice fo c.funs.length fcap) := cell_of_row _ _ 2 _ _ (0, 0) hrg
    have c3 : W4.cell? ⟨g, 3, none⟩ = some (.int .i64 c.glob) := cell_of_row _ _ 3 _ _ (0, 0) hrg
    have n0 : W4.cell? ⟨gn, 0, none⟩ = some (.bool true) := cell_of_row _ _ 0 _ _ (0, 0) hrn
    have n1 : W4.cell? ⟨gn, 1, none⟩ = some (.int .i64 (fn : Int)) := cell_of_row _ _ 1 _ _ (0, 0) hrn
    have n2 : W4.cell? ⟨gn, 2, none⟩ = some (.int .i64 h) := cell_of_row _ _ 2 _ _ (0, 0) hrn
    have n3 : W4.cell? ⟨gn, 3, none⟩ = some (.slice oo o.length ocap) := cell_of_row _ _ 3 _ _ (0, 0) hrn
    have fz2 := frozen_of_row W4 gn 2 _ _ hrn
    have fz3 := frozen_of_row W4 gn 3 _ _ hrn
    have HS := Lib.hid (show (∀ j u, Below w.heap.size w (W4.setCell ⟨gn, j, none⟩ u)) ∧ (∀ j u, At (W4.setCell ⟨gn, j, none⟩ u) oo (intsV o)) ∧ Below w.heap.size w W4 ∧ At W4 oo (intsV o) ∧ ∀ j u, (W4.setCell ⟨gn, j, none⟩ u).heap.size = W4.heap.size from ⟨fun j u => hbV.trans ((Keeps.of_grown (X := fun b => b = gn) (setCell_grown0 _ _ _ _) rfl).below (fun i hi h => by have := HG.out; have := HGS.out; omega) hbV.size), fun j u => hatV.keeps (Keeps.of_grown (X := fun b => b = gn) (setCell_grown0 _ _ _ _) rfl) (fun b hb _ => (HON.out b hb).1), hbV, hatV, fun j u => by simp⟩)
    clear hrg hrs hri hrn hatV hbV
    have hgW : gn < W4.heap.size := by have := HGS.out; omega
    have e3d : W4.drew.cell? ⟨g + 1, 3, none⟩ = some (.slice oo o.length ocap) := e3
    have k1d : W4.drew.cell? ⟨gi, 1, none⟩ = some (.int .i64 a) := k1
    go_wp2_with fail
    refine seqx_start (fun j => W4.heap.size ≤ j ∨ j = gn) (by kernel_rfl) ?_
    refine seqx_take 1 (v := ?_) rfl (by kernel_rfl) (fun _ _ _ h => h) (by rfl) (fun w' hw' => ?_) ?_
    rotate_left
    · go_simp; try with_reducible rfl
    try simp only [List.getElem_toArray, List.getElem_cons_succ, List.getElem_cons_zero, Act.put, List.setIfInBounds_toArray, List.set_cons_zero, List.set_cons_succ]
    refine seqx_take 2 rfl (by kernel_rfl) (fun _ _ _ h => h) (by rfl) (fun w' hw' => (seq_ldII rfl rfl (keeps_cell hw' (by (intro hh; have hh : W4.heap.size ≤ g + 1 ∨ g + 1 = gn := hh; have := HGS.out; omega)) (e3d))) w' (Below.refl _ _)) ?_
    try simp only [List.getElem_toArray, List.getElem_cons_succ, List.getElem_cons_zero, Act.put, List.setIfInBounds_toArray, List.set_cons_zero, List.set_cons_succ]
    refine seqx_take 4 (v := ?_) rfl (by kernel_rfl) (fun _ _ _ h => h) (by rfl) (fun w' hw' => ?_) ?_
    rotate_left
    · go_simp; try with_reducible rfl
    try simp only [List.getElem_toArray, List.getElem_cons_succ, List.getElem_cons_zero, Act.put, List.setIfInBounds_toArray, List.set_cons_zero, List.set_cons_succ]
    refine seqx_take 5 rfl (by kernel_rfl) (fun _ _ _ h => h) (by rfl) (fun w' hw' => (seq_ldi rfl rfl (keeps_cell hw' (by (intro hh; have hh : W4.heap.size ≤ gi ∨ gi = gn := hh; have := HGS.out; omega)) (k1d))) w' (Below.refl _ _)) ?_
    try simp only [List.getElem_toArray, List.getElem_cons_succ, List.getElem_cons_zero, Act.put, List.setIfInBounds_toArray, List.set_cons_zero, List.set_cons_succ]
    clear e3d k1d
    refine seqx_two 0 6 rfl rfl (by kernel_rfl) (by rfl) (by rfl) (fun KK hKK => ?_) (fun KK hKK => ?_)
    · skip
      go_wp2_with fail
      refine ⟨Keeps.alloc _ _ _, ?_⟩
      have HBA := Lib.hid (((Below.refl _ W4).alloc (Nat.le_refl _) (.cells #[] 3)).drew)
      have HLIT := Lib.hid (show ((W4.alloc (.cells #[] 3)).drew).ownsRow W4.heap.size 3 1 (.slice (some ⟨W4.heap.size, 0, none⟩) 0 0) 0 (intsV []) from owns_below (World.ownsRow_lit W4 #[] 0 (Nat.le_refl _) (by decide) rfl) (Below.refl _ _).drew)
      refine seqx_two 3 6 rfl rfl (by kernel_rfl) (by rfl) (by rfl) (fun KK hKK => ?_) (fun KK hKK => ?_)
      · skip
        refine wp_ints _ _ rfl W4.heap.size (some ⟨W4.heap.size, 0, none⟩) 0 [] 0 rfl HLIT.out oo o.length ocap o rfl (HS.out.2.2.2.1.below HBA.out) rfl (by omega) (by simp) ?_
        intro co capc w1 q1 q2 q3
        have Q1 := Lib.hid (And.intro (show w1.ownsRow W4.heap.size 3 1 (.slice co o.length capc) o.length (intsV o) from by simpa using q1) (HBA.out.trans (below_grown HLIT.out (by simp) q2)))
        refine hKK _ _ ⟨Keeps.of_grown' q2 (fun b hb => by cases hb; exact .inl (Nat.le_refl _)), ?_⟩
        clear q1 q2 q3
        simp only [Nat.zero_add]
        refine seqx_run 6 rfl (by kernel_rfl) (by rfl) (fun KK hKK => ?_)
        go_wp2_with fail
        refine ⟨Keeps.alloc _ _ _, ?_⟩
        have HBB := Lib.hid (Q1.out.2.trans (((Below.refl _ w1).alloc (Nat.le_refl _) (.cells #[.int .i64 a] 3)).mono Q1.out.2.size))
        have HOW := Lib.hid (Q1.out.1.alloc (.cells #[.int .i64 a] 3))
        refine seqx_run 7 rfl (by kernel_rfl) (by rfl) (fun KK hKK => ?_)
        refine wp_ints _ _ rfl W4.heap.size co capc o o.length rfl HOW.out (some ⟨w1.heap.size, 0, none⟩) 1 1 [a] rfl (At.new w1 #[.int .i64 a] 3) rfl (by omega) HBB.out.size ?_
        rintro co2 cap2 w3 q1 q2 q3
        have hb3 := HBB.out.trans (below_grown HOW.out (by have := HBB.out.size; omega) q2)
        have n33 : w3.cell? ⟨gn, 3, none⟩ = some (.slice oo o.length ocap) := (World.cell?_of_block (a := ⟨gn, 3, none⟩) (hb3.block gn hgW)).trans n3
        have fz33 : w3.frozen? ⟨gn, 3, none⟩ = false := (World.frozen?_of_block (a := ⟨gn, 3, none⟩) (hb3.block gn hgW)).trans fz3
        have hk33 := Keeps.of_grown' (X := fun j => W4.heap.size ≤ j ∨ j = gn) q2 (fun b hb => .inl ((HOW.out.lt b (by rw [own_slice]; exact hb)).1))
        have Q3 := Lib.hid (And.intro q1 hb3)
        refine hKK _ _ ⟨hk33, ?_⟩
        clear q1 q2 q3 hb3 hk33
        refine seqx_take 8 (v := ?_) rfl (by kernel_rfl) (fun _ _ _ h => h) (by rfl) (fun w' hw' => ?_) ?_
        rotate_left
        · go_simp; try with_reducible rfl
        try simp only [List.getElem_toArray, List.getElem_cons_succ, List.getElem_cons_zero, Act.put, List.setIfInBounds_toArray, List.set_cons_zero, List.set_cons_succ]
        refine seqx_run 9 rfl (by kernel_rfl) (by rfl) (fun KK hKK => ?_)
        go_wp2_with fail
        refine ⟨Keeps.of_grown (setCell_grown0 _ _ _ _) (.inr rfl), ?_⟩
        refine seqx_done (by kernel_rfl) ?_
        clear n33 fz33
        clear k0 k1 k2 e1 e3 c0 c1 c2 c3 n0 n1 n2 n3 fz2 fz3 HS
        obtain ⟨⟨hrg, hrs, hri, hrn⟩, hatV, hbV⟩ := HN.out w3 Q3.out.2
        have k0 : w3.cell? ⟨gi, 0, none⟩ = some (.int .i64 24) := cell_of_row _ _ 0 _ _ (0, 0) hri
        have k1 : w3.cell? ⟨gi, 1, none⟩ = some (.int .i64 a) := cell_of_row _ _ 1 _ _ (0, 0) hri
        have k2 : w3.cell? ⟨gi, 2, none⟩ = some (.int .i64 b) := cell_of_row _ _ 2 _ _ (0, 0) hri
        have e1 : w3.cell? ⟨g + 1, 1, none⟩ = some (.int .i64 (fn : Int)) := cell_of_row _ _ 1 _ _ (0, 0) hrs
        have e3 : w3.cell? ⟨g + 1, 3, none⟩ = some (.slice oo o.length ocap) := cell_of_row _ _ 3 _ _ (0, 0) hrs
        have c0 : w3.cell? ⟨g, 0, none⟩ = some (.slice (some ⟨ib, fi, none⟩) c.ins.length icap) := cell_of_row _ _ 0 _ _ (0, 0) hrg
        have c1 : w3.cell? ⟨g, 1, none⟩ = some (.slice so c.strs.length scap) := cell_of_row _ _ 1 _ _ (0, 0) hrg
        have c2 : w3.cell? ⟨g, 2, none⟩ = some (.slice fo c.funs.length fcap) := cell_of_row _ _ 2 _ _ (0, 0) hrg
        have c3 : w3.cell? ⟨g, 3, none⟩ = some (.int .i64 c.glob) := cell_of_row _ _ 3 _ _ (0, 0) hrg
        have n0 : w3.cell? ⟨gn, 0, none⟩ = some (.bool true) := cell_of_row _ _ 0 _ _ (0, 0) hrn
        have n1 : w3.cell? ⟨gn, 1, none⟩ = some (.int .i64 (fn : Int)) := cell_of_row _ _ 1 _ _ (0, 0) hrn
        have n2 : w3.cell? ⟨gn, 2, none⟩ = some (.int .i64 h) := cell_of_row _ _ 2 _ _ (0, 0) hrn
        have n3 : w3.cell? ⟨gn, 3, none⟩ = some (.slice oo o.length ocap) := cell_of_row _ _ 3 _ _ (0, 0) hrn
        have fz2 := frozen_of_row w3 gn 2 _ _ hrn
        have fz3 := frozen_of_row w3 gn 3 _ _ hrn
        have HS := Lib.hid (show (∀ j u, Below w.heap.size w (w3.setCell ⟨gn, j, none⟩ u)) ∧ (∀ j u, At (w3.setCell ⟨gn, j, none⟩ u) oo (intsV o)) ∧ Below w.heap.size w w3 ∧ At w3 oo (intsV o) ∧ ∀ j u, (w3.setCell ⟨gn, j, none⟩ u).heap.size = w3.heap.size from ⟨fun j u => hbV.trans ((Keeps.of_grown (X := fun b => b = gn) (setCell_grown0 _ _ _ _) rfl).below (fun i hi h => by have := HG.out; have := HGS.out; omega) hbV.size), fun j u => hatV.keeps (Keeps.of_grown (X := fun b => b = gn) (setCell_grown0 _ _ _ _) rfl) (fun b hb _ => (HON.out b hb).1), hbV, hatV, fun j u => by simp⟩)
        clear hrg hrs hri hrn hatV hbV
        have hco : ∀ b, blk co2 = some b → W4.heap.size ≤ b ∧ b < w3.heap.size := fun b hb => Q3.out.1.lt b (by rw [own_slice]; exact hb)
        have hcap2 : o.length + 1 ≤ cap2 ∧ cap2 ≤ 9223372036854775807 := by
          rcases Q3.out.1.2 with ⟨e, _⟩ | ⟨_, cap', cur, hv, _, _, hnc, hcm, _⟩
          · have := Value.slice.inj e
            omega
          · have := Value.slice.inj hv
            unfold maxLen at hcm
            omega
        have HCO := Lib.hid (And.intro hco (And.intro hcap2 ((At.own Q3.out.1).keeps (Keeps.of_grown (X := fun b => b = gn) (setCell_grown0 w3 gn 3 (.slice co2 (o.length + 1) cap2)) rfl) (fun b hb _ h => by have := hco b hb; omega))))
        clear hco hcap2
        cases T with
        | false =>
          go_wp2_with fail
          refine (between_any a 0 ((c.ins.length : Int) - 1) (w3.setCell ⟨gn, 3, none⟩ (.slice co2 (o.length + 1) cap2))).mono ?_
          rintro e w2 ⟨rfl, rfl⟩
          rw [HT.out]
          go_wp2_with fail
          go_ret2
          refine ⟨HS.out.1 _ _, .inr ⟨.inr ⟨rfl, fun hr => ?_⟩, rfl⟩⟩
          have hr2 := HT.out
          rw [show betw a 0 ((c.ins.length : Int) - 1) = true from decide_eq_true ⟨hr.1, by have := hr.2; simp only at this; omega⟩] at hr2
          cases hr2
        | true =>
          obtain ⟨V6, hV6⟩ : ∃ V6, (w3.setCell ⟨gn, 3, none⟩ (.slice co2 (o.length + 1) cap2)).alloc (.cells #[.int .i64 a, .bool true, .int .i64 (fn : Int), .int .i64 (h + 1), .slice oo o.length ocap] 68) = V6 := ⟨_, rfl⟩
          have h6 : Below (w3.setCell ⟨gn, 3, none⟩ (.slice co2 (o.length + 1) cap2)).heap.size (w3.setCell ⟨gn, 3, none⟩ (.slice co2 (o.length + 1) cap2)) V6 := by rw [← hV6]; exact (Below.refl _ _).alloc (Nat.le_refl _) _
          have hat6 : At V6 (some ⟨w3.heap.size, 0, none⟩) (wayRow (a, ⟨fn, h + 1, o⟩) oo ocap) := by rw [← hV6]; exact At.newk _ _ _ (0, 0) (Eq.symm (HS.out.2.2.2.2 _ _))
          have hs6 : w3.heap.size ≤ V6.heap.size := by have := h6.size; rw [HS.out.2.2.2.2 _ _] at this; exact this
          have H6 := Lib.hid (And.intro hat6 (And.intro ((HS.out.1 _ _).trans (h6.mono (HS.out.1 _ _).size)) (And.intro ((HS.out.2.1 _ _).below h6) (And.intro h6 (HCO.out.2.2.below h6)))))
          clear h6 hat6
          go_wp2_with fail
          refine (between_any a 0 ((c.ins.length : Int) - 1) (w3.setCell ⟨gn, 3, none⟩ (.slice co2 (o.length + 1) cap2))).mono ?_
          rintro e w2 ⟨rfl, rfl⟩
          rw [HT.out]
          have HK0 := Lib.hid (show ∀ w', Below (w3.setCell ⟨gn, 3, none⟩ (.slice co2 (o.length + 1) cap2)).heap.size (w3.setCell ⟨gn, 3, none⟩ (.slice co2 (o.length + 1) cap2)) w' → w'.cell? ⟨gi, 0, none⟩ = some (.int .i64 24) from fun w' hw => (World.cell?_of_block (a := ⟨gi, 0, none⟩) (hw.block gi (by rw [HS.out.2.2.2.2 _ _]; have := Q3.out.2.size; have := HGS.out; omega))).trans (by rw [World.cell?_setCell_other _ _ _ _ (by intro hh; simp at hh; try omega)]; exact k0))
          go_upto_region 105 with (at_builtin; refine app_way rfl _ _ rfl w3.heap.size none 0 0 [] rfl (World.ownsRow_nil _ _ _ _) (a, ⟨fn, h + 1, o⟩) oo ocap w3.heap.size rfl H6.out.1 (by omega) hs6 ?_; rintro ao7 cap7 w7 r1 r2; have k07 := HK0.out w7 (H6.out.2.2.2.1.trans ((grown_below r2).mono H6.out.2.2.2.1.size)); have P7 := Lib.hid (And.intro r1 r2); clear r1 r2)
          clear hV6
          have hgS : gn < (w3.setCell ⟨gn, 3, none⟩ (.slice co2 (o.length + 1) cap2)).heap.size := by rw [HS.out.2.2.2.2 _ _]; have := Q3.out.2.size; omega
          have hk7 : Below (w3.setCell ⟨gn, 3, none⟩ (.slice co2 (o.length + 1) cap2)).heap.size (w3.setCell ⟨gn, 3, none⟩ (.slice co2 (o.length + 1) cap2)) w7 := H6.out.2.2.2.1.trans ((grown_below P7.out.2).mono H6.out.2.2.2.1.size)
          have t0 : w7.cell? ⟨gn, 0, none⟩ = some (.bool true) := (World.cell?_of_block (a := ⟨gn, 0, none⟩) (hk7.block gn hgS)).trans (by rw [World.cell?_setCell_other _ _ _ _ (by intro hh; simp at hh)]; exact n0)
          have t1 : w7.cell? ⟨gn, 1, none⟩ = some (.int .i64 (fn : Int)) := (World.cell?_of_block (a := ⟨gn, 1, none⟩) (hk7.block gn hgS)).trans (by rw [World.cell?_setCell_other _ _ _ _ (by intro hh; simp at hh)]; exact n1)
          have t2 : w7.cell? ⟨gn, 2, none⟩ = some (.int .i64 h) := (World.cell?_of_block (a := ⟨gn, 2, none⟩) (hk7.block gn hgS)).trans (by rw [World.cell?_setCell_other _ _ _ _ (by intro hh; simp at hh)]; exact n2)
          have t3 : w7.cell? ⟨gn, 3, none⟩ = some (.slice co2 (o.length + 1) cap2) := (World.cell?_of_block (a := ⟨gn, 3, none⟩) (hk7.block gn hgS)).trans (World.cell?_setCell_same _ _ _ n3)
          obtain ⟨V8, hV8⟩ : ∃ V8, w7.alloc (.cells #[.int .i64 ((z : Int) + 1), .bool true, .int .i64 (fn : Int), .int .i64 h, .slice co2 (o.length + 1) cap2] 68) = V8 := ⟨_, rfl⟩
          have h8 : Below w7.heap.size w7 V8 := by rw [← hV8]; exact (Below.refl _ _).alloc (Nat.le_refl _) _
          have hat8 : At V8 (some ⟨w7.heap.size, 0, none⟩) (wayRow ((z : Int) + 1, ⟨fn, h, o ++ [a]⟩) co2 cap2) := by rw [← hV8, show wayRow ((z : Int) + 1, ⟨fn, h, o ++ [a]⟩) co2 cap2 = [.int .i64 ((z : Int) + 1), .bool true, .int .i64 (fn : Int), .int .i64 h, .slice co2 (o.length + 1) cap2] from by simp [wayRow]]; exact At.newk _ _ _ (0, 0) rfl
          have hb7 := H6.out.2.1.trans ((grown_below P7.out.2).mono H6.out.2.1.size)
          have hs8 : w3.heap.size ≤ V8.heap.size := by have := h8.size; have := P7.out.2.size; omega
          have H8 := Lib.hid (And.intro hat8 (And.intro (hb7.trans (h8.mono hb7.size)) (And.intro ((H6.out.2.2.1.below (grown_below P7.out.2)).below h8) (And.intro (owns_below P7.out.1 h8) ((H6.out.2.2.2.2.below (grown_below P7.out.2)).below h8)))))
          clear h8 hat8 hk7 hb7 hgS hs6
          go_wp2_with (at_builtin; refine app_way rfl _ _ rfl w3.heap.size ao7 cap7 (0 + 1) _ rfl H8.out.2.2.2.1 ((z : Int) + 1, ⟨fn, h, o ++ [a]⟩) co2 cap2 w7.heap.size rfl H8.out.1 (by omega) hs8 ?_; rintro ao9 cap9 w9 r1 r2; have P9 := Lib.hid (And.intro r1 r2); clear r1 r2)
          go_ret2
          have hw3 : w.heap.size ≤ w3.heap.size := by have := Q3.out.2.size; have := HG.out; have := HGS.out; omega
          have hk9 : Keeps (fun b => w3.heap.size ≤ b) V8 w9 := Keeps.of_grown' P9.out.2 (fun b hb => (P7.out.1.lt b (by rw [own_slice]; exact hb)).1)
          have hat9 : At w9 oo (intsV o) := H8.out.2.2.1.keeps hk9 (fun b hb _ h => by have := HV.out.2.2.2.1 b (HV.out.2.2.1 b hb); omega)
          have hbt9 : At w9 co2 (intsV (o ++ [a])) := H8.out.2.2.2.2.keeps hk9 (fun b hb _ h => by have := (HCO.out.1 b hb).2; omega)
          have hin := of_decide_eq_true HT.out
          refine rsteps_two (x := ⟨24, a, b⟩) (f := ⟨fn, h, o⟩) (wy := (a, ⟨fn, h + 1, o⟩)) (wz := ((z : Int) + 1, ⟨fn, h, o ++ [a]⟩)) ?_ rfl ?_ ?_ (owns_mono P9.out.1 hw3) HV.out.1 HV.out.2.1 hat9 (fun b hb => .inl (HV.out.2.2.1 b hb)) ?_ ?_ hbt9 ?_ ?_
          · exact H8.out.2.1.trans (hk9.below (fun i hi h => by omega) H8.out.2.1.size)
          · intro _
            exact ⟨hin.1, by have := hin.2; show a < (c.ins.length : Int); omega⟩
          · show [(_, _), (_, (⟨fn, h + 0, o ++ [a]⟩ : FrP))] = _
            rw [Int.add_zero]
          · show (o ++ [a]).length ≤ cap2
            rw [List.length_append, List.length_singleton]
            exact HCO.out.2.1.1
          · exact HCO.out.2.1.2
          · exact fun b hb => .inr (by have := HCO.out.1 b hb; have := HG.out; have := HGS.out; have := P9.out.2.size; omega)
          · rfl
      · skip
        go_wp2_with fail
        refine ⟨Keeps.alloc _ _ _, ?_⟩
        have hbl := (Below.refl (W4.alloc (.cells #[] 3)).heap.size (W4.alloc (.cells #[] 3))).alloc (Nat.le_refl _) (.cells #[.int .i64 a] 3)
        have HBC := Lib.hid (show Below W4.heap.size W4 ((W4.alloc (.cells #[] 3)).alloc (.cells #[.int .i64 a] 3)).drew from ((((Below.refl _ W4).alloc (Nat.le_refl _) (.cells #[] 3)).trans (hbl.mono (by simp)))).drew)
        have HLIB := Lib.hid (show (((W4.alloc (.cells #[] 3)).alloc (.cells #[.int .i64 a] 3)).drew).ownsRow W4.heap.size 3 1 (.slice (some ⟨W4.heap.size, 0, none⟩) 0 0) 0 (intsV []) from owns_below (owns_below (World.ownsRow_lit W4 #[] 0 (Nat.le_refl _) (by decide) rfl) hbl) (Below.refl _ _).drew)
        have HAA := Lib.hid (show At ((W4.alloc (.cells #[] 3)).alloc (.cells #[.int .i64 a] 3)).drew (some ⟨W4.heap.size + 1, 0, none⟩) (intsV [a]) from (by
          have := At.new (W4.alloc (.cells #[] 3)) #[.int .i64 a] 3
          simp only [World.size_alloc] at this
          exact this.below (Below.refl _ _).drew))
        clear hbl
        refine seqx_run 3 rfl (by kernel_rfl) (by rfl) (fun KK hKK => ?_)
        refine wp_ints _ _ rfl W4.heap.size (some ⟨W4.heap.size, 0, none⟩) 0 [] 0 rfl HLIB.out oo o.length ocap o rfl (HS.out.2.2.2.1.below HBC.out) rfl (by omega) HBC.out.size ?_
        intro co capc w1 q1 q2 q3
        have HOW := Lib.hid (show w1.ownsRow W4.heap.size 3 1 (.slice co o.length capc) o.length (intsV o) from by simpa using q1)
        have HBB := Lib.hid (HBC.out.trans (below_grown HLIB.out HBC.out.size q2))
        have HA1 := Lib.hid (show At w1 (some ⟨W4.heap.size + 1, 0, none⟩) (intsV [a]) from HAA.out.keeps (Keeps.of_grown' (X := fun b => b = W4.heap.size) q2 (fun b hb => by cases hb; rfl)) (fun b hb _ h => by have hbb : W4.heap.size + 1 = b := (by simpa [blk] using hb); omega))
        refine hKK _ _ ⟨Keeps.of_grown' q2 (fun b hb => by cases hb; exact .inl (Nat.le_refl _)), ?_⟩
        clear q1 q2 q3
        simp only [Nat.zero_add]
        refine seqx_run 7 rfl (by kernel_rfl) (by rfl) (fun KK hKK => ?_)
        refine wp_ints _ _ rfl W4.heap.size co capc o o.length rfl HOW.out (some ⟨W4.heap.size + 1, 0, none⟩) 1 1 [a] rfl HA1.out rfl (by omega) HBB.out.size ?_
        rintro co2 cap2 w3 q1 q2 q3
        have hb3 := HBB.out.trans (below_grown HOW.out (by have := HBB.out.size; omega) q2)
        have n33 : w3.cell? ⟨gn, 3, none⟩ = some (.slice oo o.length ocap) := (World.cell?_of_block (a := ⟨gn, 3, none⟩) (hb3.block gn hgW)).trans n3
        have fz33 : w3.frozen? ⟨gn, 3, none⟩ = false := (World.frozen?_of_block (a := ⟨gn, 3, none⟩) (hb3.block gn hgW)).trans fz3
        have hk33 := Keeps.of_grown' (X := fun j => W4.heap.size ≤ j ∨ j = gn) q2 (fun b hb => .inl ((HOW.out.lt b (by rw [own_slice]; exact hb)).1))
        have Q3 := Lib.hid (And.intro q1 hb3)
        refine hKK _ _ ⟨hk33, ?_⟩
        clear q1 q2 q3 hb3 hk33
        refine seqx_take 8 (v := ?_) rfl (by kernel_rfl) (fun _ _ _ h => h) (by rfl) (fun w' hw' => ?_) ?_
        rotate_left
        · go_simp; try with_reducible rfl
        try simp only [List.getElem_toArray, List.getElem_cons_succ, List.getElem_cons_zero, Act.put, List.setIfInBounds_toArray, List.set_cons_zero, List.set_cons_succ]
        refine seqx_run 9 rfl (by kernel_rfl) (by rfl) (fun KK hKK => ?_)
        go_wp2_with fail
        refine ⟨Keeps.of_grown (setCell_grown0 _ _ _ _) (.inr rfl), ?_⟩
        refine seqx_done (by kernel_rfl) ?_
        clear n33 fz33
        clear k0 k1 k2 e1 e3 c0 c1 c2 c3 n0 n1 n2 n3 fz2 fz3 HS
        obtain ⟨⟨hrg, hrs, hri, hrn⟩, hatV, hbV⟩ := HN.out w3 Q3.out.2
        have k0 : w3.cell? ⟨gi, 0, none⟩ = some (.int .i64 24) := cell_of_row _ _ 0 _ _ (0, 0) hri
        have k1 : w3.cell? ⟨gi, 1, none⟩ = some (.int .i64 a) := cell_of_row _ _ 1 _ _ (0, 0) hri
        have k2 : w3.cell? ⟨gi, 2, none⟩ = some (.int .i64 b) := cell_of_row _ _ 2 _ _ (0, 0) hri
        have e1 : w3.cell? ⟨g + 1, 1, none⟩ = some (.int .i64 (fn : Int)) := cell_of_row _ _ 1 _ _ (0, 0) hrs
        have e3 : w3.cell? ⟨g + 1, 3, none⟩ = some (.slice oo o.length ocap) := cell_of_row _ _ 3 _ _ (0, 0) hrs
        have c0 : w3.cell? ⟨g, 0, none⟩ = some (.slice (some ⟨ib, fi, none⟩) c.ins.length icap) := cell_of_row _ _ 0 _ _ (0, 0) hrg
        have c1 : w3.cell? ⟨g, 1, none⟩ = some (.slice so c.strs.length scap) := cell_of_row _ _ 1 _ _ (0, 0) hrg
        have c2 : w3.cell? ⟨g, 2, none⟩ = some (.slice fo c.funs.length fcap) := cell_of_row _ _ 2 _ _ (0, 0) hrg
        have c3 : w3.cell? ⟨g, 3, none⟩ = some (.int .i64 c.glob) := cell_of_row _ _ 3 _ _ (0, 0) hrg
        have n0 : w3.cell? ⟨gn, 0, none⟩ = some (.bool true) := cell_of_row _ _ 0 _ _ (0, 0) hrn
        have n1 : w3.cell? ⟨gn, 1, none⟩ = some (.int .i64 (fn : Int)) := cell_of_row _ _ 1 _ _ (0, 0) hrn
        have n2 : w3.cell? ⟨gn, 2, none⟩ = some (.int .i64 h) := cell_of_row _ _ 2 _ _ (0, 0) hrn
        have n3 : w3.cell? ⟨gn, 3, none⟩ = some (.slice oo o.length ocap) := cell_of_row _ _ 3 _ _ (0, 0) hrn
        have fz2 := frozen_of_row w3 gn 2 _ _ hrn
        have fz3 := frozen_of_row w3 gn 3 _ _ hrn
        have HS := Lib.hid (show (∀ j u, Below w.heap.size w (w3.setCell ⟨gn, j, none⟩ u)) ∧ (∀ j u, At (w3.setCell ⟨gn, j, none⟩ u) oo (intsV o)) ∧ Below w.heap.size w w3 ∧ At w3 oo (intsV o) ∧ ∀ j u, (w3.setCell ⟨gn, j, none⟩ u).heap.size = w3.heap.size from ⟨fun j u => hbV.trans ((Keeps.of_grown (X := fun b => b = gn) (setCell_grown0 _ _ _ _) rfl).below (fun i hi h => by have := HG.out; have := HGS.out; omega) hbV.size), fun j u => hatV.keeps (Keeps.of_grown (X := fun b => b = gn) (setCell_grown0 _ _ _ _) rfl) (fun b hb _ => (HON.out b hb).1), hbV, hatV, fun j u => by simp⟩)
        clear hrg hrs hri hrn hatV hbV
        have hco : ∀ b, blk co2 = some b → W4.heap.size ≤ b ∧ b < w3.heap.size := fun b hb => Q3.out.1.lt b (by rw [own_slice]; exact hb)
        have hcap2 : o.length + 1 ≤ cap2 ∧ cap2 ≤ 9223372036854775807 := by
          rcases Q3.out.1.2 with ⟨e, _⟩ | ⟨_, cap', cur, hv, _, _, hnc, hcm, _⟩
          · have := Value.slice.inj e
            omega
          · have := Value.slice.inj hv
            unfold maxLen at hcm
            omega
        have HCO := Lib.hid (And.intro hco (And.intro hcap2 ((At.own Q3.out.1).keeps (Keeps.of_grown (X := fun b => b = gn) (setCell_grown0 w3 gn 3 (.slice co2 (o.length + 1) cap2)) rfl) (fun b hb _ h => by have := hco b hb; omega))))
        clear hco hcap2
        cases T with
        | false =>
          go_wp2_with fail
          refine (between_any a 0 ((c.ins.length : Int) - 1) (w3.setCell ⟨gn, 3, none⟩ (.slice co2 (o.length + 1) cap2))).mono ?_
          rintro e w2 ⟨rfl, rfl⟩
          rw [HT.out]
          go_wp2_with fail
          go_ret2
          refine ⟨HS.out.1 _ _, .inr ⟨.inr ⟨rfl, fun hr => ?_⟩, rfl⟩⟩
          have hr2 := HT.out
          rw [show betw a 0 ((c.ins.length : Int) - 1) = true from decide_eq_true ⟨hr.1, by have := hr.2; simp only at this; omega⟩] at hr2
          cases hr2
        | true =>
          obtain ⟨V6, hV6⟩ : ∃ V6, (w3.setCell ⟨gn, 3, none⟩ (.slice co2 (o.length + 1) cap2)).alloc (.cells #[.int .i64 a, .bool true, .int .i64 (fn : Int), .int .i64 (h + 1), .slice oo o.length ocap] 68) = V6 := ⟨_, rfl⟩
          have h6 : Below (w3.setCell ⟨gn, 3, none⟩ (.slice co2 (o.length + 1) cap2)).heap.size (w3.setCell ⟨gn, 3, none⟩ (.slice co2 (o.length + 1) cap2)) V6 := by rw [← hV6]; exact (Below.refl _ _).alloc (Nat.le_refl _) _
          have hat6 : At V6 (some ⟨w3.heap.size, 0, none⟩) (wayRow (a, ⟨fn, h + 1, o⟩) oo ocap) := by rw [← hV6]; exact At.newk _ _ _ (0, 0) (Eq.symm (HS.out.2.2.2.2 _ _))
          have hs6 : w3.heap.size ≤ V6.heap.size := by have := h6.size; rw [HS.out.2.2.2.2 _ _] at this; exact this
          have H6 := Lib.hid (And.intro hat6 (And.intro ((HS.out.1 _ _).trans (h6.mono (HS.out.1 _ _).size)) (And.intro ((HS.out.2.1 _ _).below h6) (And.intro h6 (HCO.out.2.2.below h6)))))
          clear h6 hat6
          go_wp2_with fail
          refine (between_any a 0 ((c.ins.length : Int) - 1) (w3.setCell ⟨gn, 3, none⟩ (.slice co2 (o.length + 1) cap2))).mono ?_
          rintro e w2 ⟨rfl, rfl⟩
          rw [HT.out]
          have HK0 := Lib.hid (show ∀ w', Below (w3.setCell ⟨gn, 3, none⟩ (.slice co2 (o.length + 1) cap2)).heap.size (w3.setCell ⟨gn, 3, none⟩ (.slice co2 (o.length + 1) cap2)) w' → w'.cell? ⟨gi, 0, none⟩ = some (.int .i64 24) from fun w' hw => (World.cell?_of_block (a := ⟨gi, 0, none⟩) (hw.block gi (by rw [HS.out.2.2.2.2 _ _]; have := Q3.out.2.size; have := HGS.out; omega))).trans (by rw [World.cell?_setCell_other _ _ _ _ (by intro hh; simp at hh; try omega)]; exact k0))
          go_upto_region 105 with (at_builtin; refine app_way rfl _ _ rfl w3.heap.size none 0 0 [] rfl (World.ownsRow_nil _ _ _ _) (a, ⟨fn, h + 1, o⟩) oo ocap w3.heap.size rfl H6.out.1 (by omega) hs6 ?_; rintro ao7 cap7 w7 r1 r2; have k07 := HK0.out w7 (H6.out.2.2.2.1.trans ((grown_below r2).mono H6.out.2.2.2.1.size)); have P7 := Lib.hid (And.intro r1 r2); clear r1 r2)
          clear hV6
          have hgS : gn < (w3.setCell ⟨gn, 3, none⟩ (.slice co2 (o.length + 1) cap2)).heap.size := by rw [HS.out.2.2.2.2 _ _]; have := Q3.out.2.size; omega
          have hk7 : Below (w3.setCell ⟨gn, 3, none⟩ (.slice co2 (o.length + 1) cap2)).heap.size (w3.setCell ⟨gn, 3, none⟩ (.slice co2 (o.length + 1) cap2)) w7 := H6.out.2.2.2.1.trans ((grown_below P7.out.2).mono H6.out.2.2.2.1.size)
          have t0 : w7.cell? ⟨gn, 0, none⟩ = some (.bool true) := (World.cell?_of_block (a := ⟨gn, 0, none⟩) (hk7.block gn hgS)).trans (by rw [World.cell?_setCell_other _ _ _ _ (by intro hh; simp at hh)]; exact n0)
          have t1 : w7.cell? ⟨gn, 1, none⟩ = some (.int .i64 (fn : Int)) := (World.cell?_of_block (a := ⟨gn, 1, none⟩) (hk7.block gn hgS)).trans (by rw [World.cell?_setCell_other _ _ _ _ (by intro hh; simp at hh)]; exact n1)
          have t2 : w7.cell? ⟨gn, 2, none⟩ = some (.int .i64 h) := (World.cell?_of_block (a := ⟨gn, 2, none⟩) (hk7.block gn hgS)).trans (by rw [World.cell?_setCell_other _ _ _ _ (by intro hh; simp at hh)]; exact n2)
          have t3 : w7.cell? ⟨gn, 3, none⟩ = some (.slice co2 (o.length + 1) cap2) := (World.cell?_of_block (a := ⟨gn, 3, none⟩) (hk7.block gn hgS)).trans (World.cell?_setCell_same _ _ _ n3)
          obtain ⟨V8, hV8⟩ : ∃ V8, w7.alloc (.cells #[.int .i64 ((z : Int) + 1), .bool true, .int .i64 (fn : Int), .int .i64 h, .slice co2 (o.length + 1) cap2] 68) = V8 := ⟨_, rfl⟩
          have h8 : Below w7.heap.size w7 V8 := by rw [← hV8]; exact (Below.refl _ _).alloc (Nat.le_refl _) _
          have hat8 : At V8 (some ⟨w7.heap.size, 0, none⟩) (wayRow ((z : Int) + 1, ⟨fn, h, o ++ [a]⟩) co2 cap2) := by rw [← hV8, show wayRow ((z : Int) + 1, ⟨fn, h, o ++ [a]⟩) co2 cap2 = [.int .i64 ((z : Int) + 1), .bool true, .int .i64 (fn : Int), .int .i64 h, .slice co2 (o.length + 1) cap2] from by simp [wayRow]]; exact At.newk _ _ _ (0, 0) rfl
          have hb7 := H6.out.2.1.trans ((grown_below P7.out.2).mono H6.out.2.1.size)
          have hs8 : w3.heap.size ≤ V8.heap.size := by have := h8.size; have := P7.out.2.size; omega
          have H8 := Lib.hid (And.intro hat8 (And.intro (hb7.trans (h8.mono hb7.size)) (And.intro ((H6.out.2.2.1.below (grown_below P7.out.2)).below h8) (And.intro (owns_below P7.out.1 h8) ((H6.out.2.2.2.2.below (grown_below P7.out.2)).below h8)))))
          clear h8 hat8 hk7 hb7 hgS hs6
          go_wp2_with (at_builtin; refine app_way rfl _ _ rfl w3.heap.size ao7 cap7 (0 + 1) _ rfl H8.out.2.2.2.1 ((z : Int) + 1, ⟨fn, h, o ++ [a]⟩) co2 cap2 w7.heap.size rfl H8.out.1 (by omega) hs8 ?_; rintro ao9 cap9 w9 r1 r2; have P9 := Lib.hid (And.intro r1 r2); clear r1 r2)
          go_ret2
          have hw3 : w.heap.size ≤ w3.heap.size := by have := Q3.out.2.size; have := HG.out; have := HGS.out; omega
          have hk9 : Keeps (fun b => w3.heap.size ≤ b) V8 w9 := Keeps.of_grown' P9.out.2 (fun b hb => (P7.out.1.lt b (by rw [own_slice]; exact hb)).1)
          have hat9 : At w9 oo (intsV o) := H8.out.2.2.1.keeps hk9 (fun b hb _ h => by have := HV.out.2.2.2.1 b (HV.out.2.2.1 b hb); omega)
          have hbt9 : At w9 co2 (intsV (o ++ [a])) := H8.out.2.2.2.2.keeps hk9 (fun b hb _ h => by have := (HCO.out.1 b hb).2; omega)
          have hin := of_decide_eq_true HT.out
          refine rsteps_two (x := ⟨24, a, b⟩) (f := ⟨fn, h, o⟩) (wy := (a, ⟨fn, h + 1, o⟩)) (wz := ((z : Int) + 1, ⟨fn, h, o ++ [a]⟩)) ?_ rfl ?_ ?_ (owns_mono P9.out.1 hw3) HV.out.1 HV.out.2.1 hat9 (fun b hb => .inl (HV.out.2.2.1 b hb)) ?_ ?_ hbt9 ?_ ?_
          · exact H8.out.2.1.trans (hk9.below (fun i hi h => by omega) H8.out.2.1.size)
          · intro _
            exact ⟨hin.1, by have := hin.2; show a < (c.ins.length : Int); omega⟩
          · show [(_, _), (_, (⟨fn, h + 0, o ++ [a]⟩ : FrP))] = _
            rw [Int.add_zero]
          · show (o ++ [a]).length ≤ cap2
            rw [List.length_append, List.length_singleton]
            exact HCO.out.2.1.1
          · exact HCO.out.2.1.2
          · exact fun b hb => .inr (by have := HCO.out.1 b hb; have := HG.out; have := HGS.out; have := P9.out.2.size; omega)
          · rfl
    · skip
      go_wp2_with fail
      refine ⟨Keeps.alloc _ _ _, ?_⟩
      refine seqx_run 0 rfl (by kernel_rfl) (by rfl) (fun KK hKK => ?_)
      go_wp2_with fail
      refine ⟨⟨rfl, rfl, rfl, by simp, fun k hk hne => (Below.heap_two _ _ _ k (by simp at hne; omega)).trans (Below.heap_alloc W4 _ k (by simp at hne; omega)).symm⟩, ?_⟩
      have hbl := (Below.refl (W4.alloc (.cells #[.int .i64 a] 3)).heap.size (W4.alloc (.cells #[.int .i64 a] 3))).alloc (Nat.le_refl _) (.cells #[] 3)
      have HBC := Lib.hid (show Below W4.heap.size W4 ((W4.alloc (.cells #[.int .i64 a] 3)).alloc (.cells #[] 3)).drew from ((((Below.refl _ W4).alloc (Nat.le_refl _) (.cells #[.int .i64 a] 3)).trans (hbl.mono (by simp)))).drew)
      have HLIB := Lib.hid (show (((W4.alloc (.cells #[.int .i64 a] 3)).alloc (.cells #[] 3)).drew).ownsRow W4.heap.size 3 1 (.slice (some ⟨W4.heap.size + 1, 0, none⟩) 0 0) 0 (intsV []) from (by
        have this : ((W4.alloc (.cells #[.int .i64 a] 3)).alloc (.cells #[] 3)).ownsRow (W4.alloc (.cells #[.int .i64 a] 3)).heap.size 3 1 (.slice (some ⟨(W4.alloc (.cells #[.int .i64 a] 3)).heap.size, 0, none⟩) 0 0) 0 (intsV []) := World.ownsRow_lit _ #[] 0 (Nat.le_refl _) (by decide) rfl
        simp only [World.size_alloc] at this
        exact owns_below (owns_mono this (by omega)) (Below.refl _ _).drew))
      have HAA := Lib.hid (show At ((W4.alloc (.cells #[.int .i64 a] 3)).alloc (.cells #[] 3)).drew (some ⟨W4.heap.size, 0, none⟩) (intsV [a]) from ((At.new W4 #[.int .i64 a] 3).below hbl).below (Below.refl _ _).drew)
      clear hbl
      refine seqx_run 3 rfl (by kernel_rfl) (by rfl) (fun KK hKK => ?_)
      refine wp_ints _ _ rfl W4.heap.size (some ⟨W4.heap.size + 1, 0, none⟩) 0 [] 0 rfl HLIB.out oo o.length ocap o rfl (HS.out.2.2.2.1.below HBC.out) rfl (by omega) HBC.out.size ?_
      intro co capc w1 q1 q2 q3
      have HOW := Lib.hid (show w1.ownsRow W4.heap.size 3 1 (.slice co o.length capc) o.length (intsV o) from by simpa using q1)
      have HBB := Lib.hid (HBC.out.trans (below_grown HLIB.out HBC.out.size q2))
      have HA1 := Lib.hid (show At w1 (some ⟨W4.heap.size, 0, none⟩) (intsV [a]) from HAA.out.keeps (Keeps.of_grown' (X := fun b => b = W4.heap.size + 1) q2 (fun b hb => by cases hb; rfl)) (fun b hb _ h => by have hbb : W4.heap.size = b := (by simpa [blk] using hb); omega))
      refine hKK _ _ ⟨Keeps.of_grown' q2 (fun b hb => by
        have hbb : W4.heap.size + 1 = b := by simpa [blk] using hb
        exact .inl (by omega)), ?_⟩
      clear q1 q2 q3
      simp only [Nat.zero_add]
      refine seqx_run 7 rfl (by kernel_rfl) (by rfl) (fun KK hKK => ?_)
      refine wp_ints _ _ rfl W4.heap.size co capc o o.length rfl HOW.out (some ⟨W4.heap.size, 0, none⟩) 1 1 [a] rfl HA1.out rfl (by omega) HBB.out.size ?_
      rintro co2 cap2 w3 q1 q2 q3
      have hb3 := HBB.out.trans (below_grown HOW.out (by have := HBB.out.size; omega) q2)
      have n33 : w3.cell? ⟨gn, 3, none⟩ = some (.slice oo o.length ocap) := (World.cell?_of_block (a := ⟨gn, 3, none⟩) (hb3.block gn hgW)).trans n3
      have fz33 : w3.frozen? ⟨gn, 3, none⟩ = false := (World.frozen?_of_block (a := ⟨gn, 3, none⟩) (hb3.block gn hgW)).trans fz3
      have hk33 := Keeps.of_grown' (X := fun j => W4.heap.size ≤ j ∨ j = gn) q2 (fun b hb => .inl ((HOW.out.lt b (by rw [own_slice]; exact hb)).1))
      have Q3 := Lib.hid (And.intro q1 hb3)
      refine hKK _ _ ⟨hk33, ?_⟩
      clear q1 q2 q3 hb3 hk33
      refine seqx_take 8 (v := ?_) rfl (by kernel_rfl) (fun _ _ _ h => h) (by rfl) (fun w' hw' => ?_) ?_
      rotate_left
      · go_simp; try with_reducible rfl
      try simp only [List.getElem_toArray, List.getElem_cons_succ, List.getElem_cons_zero, Act.put, List.setIfInBounds_toArray, List.set_cons_zero, List.set_cons_succ]
      refine seqx_run 9 rfl (by kernel_rfl) (by rfl) (fun KK hKK => ?_)
      go_wp2_with fail
      refine ⟨Keeps.of_grown (setCell_grown0 _ _ _ _) (.inr rfl), ?_⟩
      refine seqx_done (by kernel_rfl) ?_
      clear n33 fz33
      clear k0 k1 k2 e1 e3 c0 c1 c2 c3 n0 n1 n2 n3 fz2 fz3 HS
      obtain ⟨⟨hrg, hrs, hri, hrn⟩, hatV, hbV⟩ := HN.out w3 Q3.out.2
      have k0 : w3.cell? ⟨gi, 0, none⟩ = some (.int .i64 24) := cell_of_row _ _ 0 _ _ (0, 0) hri
      have k1 : w3.cell? ⟨gi, 1, none⟩ = some (.int .i64 a) := cell_of_row _ _ 1 _ _ (0, 0) hri
      have k2 : w3.cell? ⟨gi, 2, none⟩ = some (.int .i64 b) := cell_of_row _ _ 2 _ _ (0, 0) hri
      have e1 : w3.cell? ⟨g + 1, 1, none⟩ = some (.int .i64 (fn : Int)) := cell_of_row _ _ 1 _ _ (0, 0) hrs
      have e3 : w3.cell? ⟨g + 1, 3, none⟩ = some (.slice oo o.length ocap) := cell_of_row _ _ 3 _ _ (0, 0) hrs
      have c0 : w3.cell? ⟨g, 0, none⟩ = some (.slice (some ⟨ib, fi, none⟩) c.ins.length icap) := cell_of_row _ _ 0 _ _ (0, 0) hrg
      have c1 : w3.cell? ⟨g, 1, none⟩ = some (.slice so c.strs.length scap) := cell_of_row _ _ 1 _ _ (0, 0) hrg
      have c2 : w3.cell? ⟨g, 2, none⟩ = some (.slice fo c.funs.length fcap) := cell_of_row _ _ 2 _ _ (0, 0) hrg
      have c3 : w3.cell? ⟨g, 3, none⟩ = some (.int .i64 c.glob) := cell_of_row _ _ 3 _ _ (0, 0) hrg
      have n0 : w3.cell? ⟨gn, 0, none⟩ = some (.bool true) := cell_of_row _ _ 0 _ _ (0, 0) hrn
      have n1 : w3.cell? ⟨gn, 1, none⟩ = some (.int .i64 (fn : Int)) := cell_of_row _ _ 1 _ _ (0, 0) hrn
      have n2 : w3.cell? ⟨gn, 2, none⟩ = some (.int .i64 h) := cell_of_row _ _ 2 _ _ (0, 0) hrn
      have n3 : w3.cell? ⟨gn, 3, none⟩ = some (.slice oo o.length ocap) := cell_of_row _ _ 3 _ _ (0, 0) hrn
      have fz2 := frozen_of_row w3 gn 2 _ _ hrn
      have fz3 := frozen_of_row w3 gn 3 _ _ hrn
      have HS := Lib.hid (show (∀ j u, Below w.heap.size w (w3.setCell ⟨gn, j, none⟩ u)) ∧ (∀ j u, At (w3.setCell ⟨gn, j, none⟩ u) oo (intsV o)) ∧ Below w.heap.size w w3 ∧ At w3 oo (intsV o) ∧ ∀ j u, (w3.setCell ⟨gn, j, none⟩ u).heap.size = w3.heap.size from ⟨fun j u => hbV.trans ((Keeps.of_grown (X := fun b => b = gn) (setCell_grown0 _ _ _ _) rfl).below (fun i hi h => by have := HG.out; have := HGS.out; omega) hbV.size), fun j u => hatV.keeps (Keeps.of_grown (X := fun b => b = gn) (setCell_grown0 _ _ _ _) rfl) (fun b hb _ => (HON.out b hb).1), hbV, hatV, fun j u => by simp⟩)
      clear hrg hrs hri hrn hatV hbV
      have hco : ∀ b, blk co2 = some b → W4.heap.size ≤ b ∧ b < w3.heap.size := fun b hb => Q3.out.1.lt b (by rw [own_slice]; exact hb)
      have hcap2 : o.length + 1 ≤ cap2 ∧ cap2 ≤ 9223372036854775807 := by
        rcases Q3.out.1.2 with ⟨e, _⟩ | ⟨_, cap', cur, hv, _, _, hnc, hcm, _⟩
        · have := Value.slice.inj e
          omega
        · have := Value.slice.inj hv
          unfold maxLen at hcm
          omega
      have HCO := Lib.hid (And.intro hco (And.intro hcap2 ((At.own Q3.out.1).keeps (Keeps.of_grown (X := fun b => b = gn) (setCell_grown0 w3 gn 3 (.slice co2 (o.length + 1) cap2)) rfl) (fun b hb _ h => by have := hco b hb; omega))))
      clear hco hcap2
      cases T with
      | false =>
        go_wp2_with fail
        refine (between_any a 0 ((c.ins.length : Int) - 1) (w3.setCell ⟨gn, 3, none⟩ (.slice co2 (o.length + 1) cap2))).mono ?_
        rintro e w2 ⟨rfl, rfl⟩
        rw [HT.out]
        go_wp2_with fail
        go_ret2
        refine ⟨HS.out.1 _ _, .inr ⟨.inr ⟨rfl, fun hr => ?_⟩, rfl⟩⟩
        have hr2 := HT.out
        rw [show betw a 0 ((c.ins.length : Int) - 1) = true from decide_eq_true ⟨hr.1, by have := hr.2; simp only at this; omega⟩] at hr2
        cases hr2
      | true =>
        obtain ⟨V6, hV6⟩ : ∃ V6, (w3.setCell ⟨gn, 3, none⟩ (.slice co2 (o.length + 1) cap2)).alloc (.cells #[.int .i64 a, .bool true, .int .i64 (fn : Int), .int .i64 (h + 1), .slice oo o.length ocap] 68) = V6 := ⟨_, rfl⟩
        have h6 : Below (w3.setCell ⟨gn, 3, none⟩ (.slice co2 (o.length + 1) cap2)).heap.size (w3.setCell ⟨gn, 3, none⟩ (.slice co2 (o.length + 1) cap2)) V6 := by rw [← hV6]; exact (Below.refl _ _).alloc (Nat.le_refl _) _
        have hat6 : At V6 (some ⟨w3.heap.size, 0, none⟩) (wayRow (a, ⟨fn, h + 1, o⟩) oo ocap) := by rw [← hV6]; exact At.newk _ _ _ (0, 0) (Eq.symm (HS.out.2.2.2.2 _ _))
        have hs6 : w3.heap.size ≤ V6.heap.size := by have := h6.size; rw [HS.out.2.2.2.2 _ _] at this; exact this
        have H6 := Lib.hid (And.intro hat6 (And.intro ((HS.out.1 _ _).trans (h6.mono (HS.out.1 _ _).size)) (And.intro ((HS.out.2.1 _ _).below h6) (And.intro h6 (HCO.out.2.2.below h6)))))
        clear h6 hat6
        go_wp2_with fail
        refine (between_any a 0 ((c.ins.length : Int) - 1) (w3.setCell ⟨gn, 3, none⟩ (.slice co2 (o.length + 1) cap2))).mono ?_
        rintro e w2 ⟨rfl, rfl⟩
        rw [HT.out]
        have HK0 := Lib.hid (show ∀ w', Below (w3.setCell ⟨gn, 3, none⟩ (.slice co2 (o.length + 1) cap2)).heap.size (w3.setCell ⟨gn, 3, none⟩ (.slice co2 (o.length + 1) cap2)) w' → w'.cell? ⟨gi, 0, none⟩ = some (.int .i64 24) from fun w' hw => (World.cell?_of_block (a := ⟨gi, 0, none⟩) (hw.block gi (by rw [HS.out.2.2.2.2 _ _]; have := Q3.out.2.size; have := HGS.out; omega))).trans (by rw [World.cell?_setCell_other _ _ _ _ (by intro hh; simp at hh; try omega)]; exact k0))
        go_upto_region 105 with (at_builtin; refine app_way rfl _ _ rfl w3.heap.size none 0 0 [] rfl (World.ownsRow_nil _ _ _ _) (a, ⟨fn, h + 1, o⟩) oo ocap w3.heap.size rfl H6.out.1 (by omega) hs6 ?_; rintro ao7 cap7 w7 r1 r2; have k07 := HK0.out w7 (H6.out.2.2.2.1.trans ((grown_below r2).mono H6.out.2.2.2.1.size)); have P7 := Lib.hid (And.intro r1 r2); clear r1 r2)
        clear hV6
        have hgS : gn < (w3.setCell ⟨gn, 3, none⟩ (.slice co2 (o.length + 1) cap2)).heap.size := by rw [HS.out.2.2.2.2 _ _]; have := Q3.out.2.size; omega
        have hk7 : Below (w3.setCell ⟨gn, 3, none⟩ (.slice co2 (o.length + 1) cap2)).heap.size (w3.setCell ⟨gn, 3, none⟩ (.slice co2 (o.length + 1) cap2)) w7 := H6.out.2.2.2.1.trans ((grown_below P7.out.2).mono H6.out.2.2.2.1.size)
        have t0 : w7.cell? ⟨gn, 0, none⟩ = some (.bool true) := (World.cell?_of_block (a := ⟨gn, 0, none⟩) (hk7.block gn hgS)).trans (by rw [World.cell?_setCell_other _ _ _ _ (by intro hh; simp at hh)]; exact n0)
        have t1 : w7.cell? ⟨gn, 1, none⟩ = some (.int .i64 (fn : Int)) := (World.cell?_of_block (a := ⟨gn, 1, none⟩) (hk7.block gn hgS)).trans (by rw [World.cell?_setCell_other _ _ _ _ (by intro hh; simp at hh)]; exact n1)
        have t2 : w7.cell? ⟨gn, 2, none⟩ = some (.int .i64 h) := (World.cell?_of_block (a := ⟨gn, 2, none⟩) (hk7.block gn hgS)).trans (by rw [World.cell?_setCell_other _ _ _ _ (by intro hh; simp at hh)]; exact n2)
        have t3 : w7.cell? ⟨gn, 3, none⟩ = some (.slice co2 (o.length + 1) cap2) := (World.cell?_of_block (a := ⟨gn, 3, none⟩) (hk7.block gn hgS)).trans (World.cell?_setCell_same _ _ _ n3)
        obtain ⟨V8, hV8⟩ : ∃ V8, w7.alloc (.cells #[.int .i64 ((z : Int) + 1), .bool true, .int .i64 (fn : Int), .int .i64 h, .slice co2 (o.length + 1) cap2] 68) = V8 := ⟨_, rfl⟩
        have h8 : Below w7.heap.size w7 V8 := by rw [← hV8]; exact (Below.refl _ _).alloc (Nat.le_refl _) _
        have hat8 : At V8 (some ⟨w7.heap.size, 0, none⟩) (wayRow ((z : Int) + 1, ⟨fn, h, o ++ [a]⟩) co2 cap2) := by rw [← hV8, show wayRow ((z : Int) + 1, ⟨fn, h, o ++ [a]⟩) co2 cap2 = [.int .i64 ((z : Int) + 1), .bool true, .int .i64 (fn : Int), .int .i64 h, .slice co2 (o.length + 1) cap2] from by simp [wayRow]]; exact At.newk _ _ _ (0, 0) rfl
        have hb7 := H6.out.2.1.trans ((grown_below P7.out.2).mono H6.out.2.1.size)
        have hs8 : w3.heap.size ≤ V8.heap.size := by have := h8.size; have := P7.out.2.size; omega
        have H8 := Lib.hid (And.intro hat8 (And.intro (hb7.trans (h8.mono hb7.size)) (And.intro ((H6.out.2.2.1.below (grown_below P7.out.2)).below h8) (And.intro (owns_below P7.out.1 h8) ((H6.out.2.2.2.2.below (grown_below P7.out.2)).below h8)))))
        clear h8 hat8 hk7 hb7 hgS hs6
        go_wp2_with (at_builtin; refine app_way rfl _ _ rfl w3.heap.size ao7 cap7 (0 + 1) _ rfl H8.out.2.2.2.1 ((z : Int) + 1, ⟨fn, h, o ++ [a]⟩) co2 cap2 w7.heap.size rfl H8.out.1 (by omega) hs8 ?_; rintro ao9 cap9 w9 r1 r2; have P9 := Lib.hid (And.intro r1 r2); clear r1 r2)
        go_ret2
        have hw3 : w.heap.size ≤ w3.heap.size := by have := Q3.out.2.size; have := HG.out; have := HGS.out; omega
        have hk9 : Keeps (fun b => w3.heap.size ≤ b) V8 w9 := Keeps.of_grown' P9.out.2 (fun b hb => (P7.out.1.lt b (by rw [own_slice]; exact hb)).1)
        have hat9 : At w9 oo (intsV o) := H8.out.2.2.1.keeps hk9 (fun b hb _ h => by have := HV.out.2.2.2.1 b (HV.out.2.2.1 b hb); omega)
        have hbt9 : At w9 co2 (intsV (o ++ [a])) := H8.out.2.2.2.2.keeps hk9 (fun b hb _ h => by have := (HCO.out.1 b hb).2; omega)
        have hin := of_decide_eq_true HT.out
        refine rsteps_two (x := ⟨24, a, b⟩) (f := ⟨fn, h, o⟩) (wy := (a, ⟨fn, h + 1, o⟩)) (wz := ((z : Int) + 1, ⟨fn, h, o ++ [a]⟩)) ?_ rfl ?_ ?_ (owns_mono P9.out.1 hw3) HV.out.1 HV.out.2.1 hat9 (fun b hb => .inl (HV.out.2.2.1 b hb)) ?_ ?_ hbt9 ?_ ?_
        · exact H8.out.2.1.trans (hk9.below (fun i hi h => by omega) H8.out.2.1.size)
        · intro _
          exact ⟨hin.1, by have := hin.2; show a < (c.ins.length : Int); omega⟩
        · show [(_, _), (_, (⟨fn, h + 0, o ++ [a]⟩ : FrP))] = _
          rw [Int.add_zero]
        · show (o ++ [a]).length ≤ cap2
          rw [List.length_append, List.length_singleton]
          exact HCO.out.2.1.1
        · exact HCO.out.2.1.2
        · exact fun b hb => .inr (by have := HCO.out.1 b hb; have := HG.out; have := HGS.out; have := P9.out.2.size; omega)
        · rfl
    -- END A24
  · skip
    -- CUT A25
    rcases (show o = [] ∨ o ≠ [] from Classical.em _) with rfl | hne
    · skip
      obtain ⟨⟨hrg, hrs, hri, hrn⟩, hatV, hbV⟩ := HN.out W4 (Below.refl _ _)
      have k0 : W4.cell? ⟨gi, 0, none⟩ = some (.int .i64 25) := cell_of_row _ _ 0 _ _ (0, 0) hri
      have k1 : W4.cell? ⟨gi, 1, none⟩ = some (.int .i64 a) := cell_of_row _ _ 1 _ _ (0, 0) hri
      have k2 : W4.cell? ⟨gi, 2, none⟩ = some (.int .i64 b) := cell_of_row _ _ 2 _ _ (0, 0) hri
      have e1 : W4.cell? ⟨g + 1, 1, none⟩ = some (.int .i64 (fn : Int)) := cell_of_row _ _ 1 _ _ (0, 0) hrs
      have e3 : W4.cell? ⟨g + 1, 3, none⟩ = some (.slice oo ([] : List Int).length ocap) := cell_of_row _ _ 3 _ _ (0, 0) hrs
      have c0 : W4.cell? ⟨g, 0, none⟩ = some (.slice (some ⟨ib, fi, none⟩) c.ins.length icap) := cell_of_row _ _ 0 _ _ (0, 0) hrg
      have c1 : W4.cell? ⟨g, 1, none⟩ = some (.slice so c.strs.length scap) := cell_of_row _ _ 1 _ _ (0, 0) hrg
      have c2 : W4.cell? ⟨g, 2, none⟩ = some (.slice fo c.funs.length fcap) := cell_of_row _ _ 2 _ _ (0, 0) hrg
      have c3 : W4.cell? ⟨g, 3, none⟩ = some (.int .i64 c.glob) := cell_of_row _ _ 3 _ _ (0, 0) hrg
      have n0 : W4.cell? ⟨gn, 0, none⟩ = some (.bool true) := cell_of_row _ _ 0 _ _ (0, 0) hrn
      have n1 : W4.cell? ⟨gn, 1, none⟩ = some (.int .i64 (fn : Int)) := cell_of_row _ _ 1 _ _ (0, 0) hrn
      have n2 : W4.cell? ⟨gn, 2, none⟩ = some (.int .i64 h) := cell_of_row _ _ 2 _ _ (0, 0) hrn
      have n3 : W4.cell? ⟨gn, 3, none⟩ = some (.slice oo ([] : List Int).length ocap) := cell_of_row _ _ 3 _ _ (0, 0) hrn
      have fz2 := frozen_of_row W4 gn 2 _ _ hrn
      have fz3 := frozen_of_row W4 gn 3 _ _ hrn
      have HS := Lib.hid (show (∀ j u, Below w.heap.size w (W4.setCell ⟨gn, j, none⟩ u)) ∧ (∀ j u, At (W4.setCell ⟨gn, j, none⟩ u) oo (intsV [])) ∧ Below w.heap.size w W4 ∧ At W4 oo (intsV []) ∧ ∀ j u, (W4.setCell ⟨gn, j, none⟩ u).heap.size = W4.heap.size from ⟨fun j u => hbV.trans ((Keeps.of_grown (X := fun b => b = gn) (setCell_grown0 _ _ _ _) rfl).below (fun i hi h => by have := HG.out; have := HGS.out; omega) hbV.size), fun j u => hatV.keeps (Keeps.of_grown (X := fun b => b = gn) (setCell_grown0 _ _ _ _) rfl) (fun b hb _ => (HON.out b hb).1), hbV, hatV, fun j u => by simp⟩)
      clear hrg hrs hri hrn hatV hbV
      go_wp2_with fail
      go_ret2
      exact rsteps_no HS.out.2.2.1 (by show (decide (([] : List Int) ≠ []) && decide (([] : List Int).getLast? ≠ some (-1))) = false; simp) rfl
    · obtain ⟨l, u, ho⟩ : ∃ l u, o = l ++ [u] := ⟨o.dropLast, o.getLast hne, (List.dropLast_concat_getLast hne).symm⟩
      have hu := HV.out.2.2.2.2.2.1 u (by rw [ho]; simp)
      have hlen : o.length = l.length + 1 := by rw [ho]; simp
      have hm : (o.length : Int) - 1 = (l.length : Int) := by omega
      have hlo : l.length < o.length := by omega
      obtain ⟨pb, pf, hoo, pc⟩ := HM.out.2.2.exv l.length (by simp [intsV]; omega)
      have hpe : (intsV o)[l.length]'(by simp [intsV]; omega) = .int .i64 u := by simp [intsV, ho]
      rw [hpe] at pc
      subst hoo
      have hoc := HV.out.1
      have HO := Lib.hid (And.intro ho hlen)
      have HATL := Lib.hid (show At W4 (some ⟨pb, pf, none⟩) (intsV l) from by
        have := HM.out.2.2.take l.length
        rw [show (intsV o).take l.length = intsV l by rw [ho]; simp [intsV]] at this
        exact this)
      clear ho hne hlen hpe
      obtain ⟨⟨hrg, hrs, hri, hrn⟩, hatV, hbV⟩ := HN.out W4 (Below.refl _ _)
      have k0 : W4.cell? ⟨gi, 0, none⟩ = some (.int .i64 25) := cell_of_row _ _ 0 _ _ (0, 0) hri
      have k1 : W4.cell? ⟨gi, 1, none⟩ = some (.int .i64 a) := cell_of_row _ _ 1 _ _ (0, 0) hri
      have k2 : W4.cell? ⟨gi, 2, none⟩ = some (.int .i64 b) := cell_of_row _ _ 2 _ _ (0, 0) hri
      have e1 : W4.cell? ⟨g + 1, 1, none⟩ = some (.int .i64 (fn : Int)) := cell_of_row _ _ 1 _ _ (0, 0) hrs
      have e3 : W4.cell? ⟨g + 1, 3, none⟩ = some (.slice (some ⟨pb, pf, none⟩) o.length ocap) := cell_of_row _ _ 3 _ _ (0, 0) hrs
      have c0 : W4.cell? ⟨g, 0, none⟩ = some (.slice (some ⟨ib, fi, none⟩) c.ins.length icap) := cell_of_row _ _ 0 _ _ (0, 0) hrg
      have c1 : W4.cell? ⟨g, 1, none⟩ = some (.slice so c.strs.length scap) := cell_of_row _ _ 1 _ _ (0, 0) hrg
      have c2 : W4.cell? ⟨g, 2, none⟩ = some (.slice fo c.funs.length fcap) := cell_of_row _ _ 2 _ _ (0, 0) hrg
      have c3 : W4.cell? ⟨g, 3, none⟩ = some (.int .i64 c.glob) := cell_of_row _ _ 3 _ _ (0, 0) hrg
      have n0 : W4.cell? ⟨gn, 0, none⟩ = some (.bool true) := cell_of_row _ _ 0 _ _ (0, 0) hrn
      have n1 : W4.cell? ⟨gn, 1, none⟩ = some (.int .i64 (fn : Int)) := cell_of_row _ _ 1 _ _ (0, 0) hrn
      have n2 : W4.cell? ⟨gn, 2, none⟩ = some (.int .i64 h) := cell_of_row _ _ 2 _ _ (0, 0) hrn
      have n3 : W4.cell? ⟨gn, 3, none⟩ = some (.slice (some ⟨pb, pf, none⟩) o.length ocap) := cell_of_row _ _ 3 _ _ (0, 0) hrn
      have fz2 := frozen_of_row W4 gn 2 _ _ hrn
      have fz3 := frozen_of_row W4 gn 3 _ _ hrn
      have HS := Lib.hid (show (∀ j u, Below w.heap.size w (W4.setCell ⟨gn, j, none⟩ u)) ∧ (∀ j u, At (W4.setCell ⟨gn, j, none⟩ u) (some ⟨pb, pf, none⟩) (intsV o)) ∧ Below w.heap.size w W4 ∧ At W4 (some ⟨pb, pf, none⟩) (intsV o) ∧ ∀ j u, (W4.setCell ⟨gn, j, none⟩ u).heap.size = W4.heap.size from ⟨fun j u => hbV.trans ((Keeps.of_grown (X := fun b => b = gn) (setCell_grown0 _ _ _ _) rfl).below (fun i hi h => by have := HG.out; have := HGS.out; omega) hbV.size), fun j u => hatV.keeps (Keeps.of_grown (X := fun b => b = gn) (setCell_grown0 _ _ _ _) rfl) (fun b hb _ => (HON.out b hb).1), hbV, hatV, fun j u => by simp⟩)
      clear hrg hrs hri hrn hatV hbV
      by_cases hu1 : 0 ≤ u
      · have hd1 : decide (0 ≤ u) = true := decide_eq_true hu1
        have HATS := Lib.hid (HATL.out.keeps (Keeps.of_grown (X := fun b => b = gn) (setCell_grown0 W4 gn 3 (.slice (some ⟨pb, pf, none⟩) l.length ocap)) rfl) (fun b hb _ => (HON.out b hb).1))
        obtain ⟨V6, hV6⟩ : ∃ V6, (W4.setCell ⟨gn, 3, none⟩ (.slice (some ⟨pb, pf, none⟩) l.length ocap)).alloc (.cells #[.int .i64 ((z : Int) + 1), .bool true, .int .i64 (fn : Int), .int .i64 (h), .slice (some ⟨pb, pf, none⟩) l.length ocap] 68) = V6 := ⟨_, rfl⟩
        have h6 : Below (W4.setCell ⟨gn, 3, none⟩ (.slice (some ⟨pb, pf, none⟩) l.length ocap)).heap.size (W4.setCell ⟨gn, 3, none⟩ (.slice (some ⟨pb, pf, none⟩) l.length ocap)) V6 := by rw [← hV6]; exact (Below.refl _ _).alloc (Nat.le_refl _) _
        have hat6 : At V6 (some ⟨W4.heap.size, 0, none⟩) (wayRow ((z : Int) + 1, ⟨fn, h, l⟩) (some ⟨pb, pf, none⟩) ocap) := by rw [← hV6]; exact At.newk _ _ _ (0, 0) (Eq.symm (HS.out.2.2.2.2 _ _))
        have h6s : W4.heap.size ≤ V6.heap.size := Nat.le_trans (Nat.le_of_eq (Eq.symm (HS.out.2.2.2.2 _ _))) h6.size
        have H6 := Lib.hid (And.intro hat6 (And.intro ((HS.out.1 _ _).trans (h6.mono (HS.out.1 _ _).size)) (And.intro (HATS.out.below h6) h6s)))
        clear h6 hat6 h6s
        go_wp2_with (first | (at_builtin; refine app_way rfl _ _ rfl w.heap.size none 0 0 [] rfl (World.ownsRow_nil _ _ _ _) ((z : Int) + 1, ⟨fn, h, l⟩) (some ⟨pb, pf, none⟩) ocap W4.heap.size rfl H6.out.1 (by omega) H6.out.2.1.size ?_; rintro ao7 cap7 w7 r1 r2; have P7 := Lib.hid (And.intro r1 r2); clear r1 r2) | (refine op_hiI rfl _ _ rfl (some ⟨pb, pf, none⟩) o.length ocap l.length rfl rfl (by omega) ?_))
        go_ret2
        refine rsteps_one (x := ⟨25, a, b⟩) (f := ⟨fn, h, o⟩) (wy := ((z : Int) + 1, ⟨fn, h, l⟩)) ?_ ?_ ?_ ?_ P7.out.1 ?_ ?_ ?_ ?_ ?_
        · exact H6.out.2.1.trans ((grown_below P7.out.2).mono H6.out.2.1.size)
        · show (decide (o ≠ []) && decide (o.getLast? ≠ some (-1))) = true; rw [HO.out.1]; simp; omega
        · simp
        · show [(_, (⟨fn, h + 0, o.dropLast⟩ : FrP))] = _; rw [Int.add_zero, HO.out.1, List.dropLast_concat]
        · show l.length ≤ ocap; omega
        · exact HV.out.2.1
        · exact H6.out.2.2.1.below (grown_below P7.out.2)
        · exact fun b hb => .inl (HV.out.2.2.1 b hb)
        · rfl
      · have hd1 : decide (0 ≤ u) = false := decide_eq_false hu1
        go_wp2_with fail
        go_ret2
        exact rsteps_no HS.out.2.2.1 (by show (decide (o ≠ []) && decide (o.getLast? ≠ some (-1))) = false; rw [HO.out.1]; simp; omega) rfl
    -- END A25
  · skip
    -- CUT A26
    obtain ⟨⟨hrg, hrs, hri, hrn⟩, hatV, hbV⟩ := HN.out W4 (Below.refl _ _)
    have k0 : W4.cell? ⟨gi, 0, none⟩ = some (.int .i64 26) := cell_of_row _ _ 0 _ _ (0, 0) hri
    have k1 : W4.cell? ⟨gi, 1, none⟩ = some (.int .i64 a) := cell_of_row _ _ 1 _ _ (0, 0) hri
    have k2 : W4.cell? ⟨gi, 2, none⟩ = some (.int .i64 b) := cell_of_row _ _ 2 _ _ (0, 0) hri
    have e1 : W4.cell? ⟨g + 1, 1, none⟩ = some (.int .i64 (fn : Int)) := cell_of_row _ _ 1 _ _ (0, 0) hrs
    have e3 : W4.cell? ⟨g + 1, 3, none⟩ = some (.slice oo o.length ocap) := cell_of_row _ _ 3 _ _ (0, 0) hrs
    have c0 : W4.cell? ⟨g, 0, none⟩ = some (.slice (some ⟨ib, fi, none⟩) c.ins.length icap) := cell_of_row _ _ 0 _ _ (0, 0) hrg
    have c1 : W4.cell? ⟨g, 1, none⟩ = some (.slice so c.strs.length scap) := cell_of_row _ _ 1 _ _ (0, 0) hrg
    have c2 : W4.cell? ⟨g, 2, none⟩ = some (.slice fo c.funs.length fcap) := cell_of_row _ _ 2 _ _ (0, 0) hrg
    have c3 : W4.cell? ⟨g, 3, none⟩ = some (.int .i64 c.glob) := cell_of_row _ _ 3 _ _ (0, 0) hrg
    have n0 : W4.cell? ⟨gn, 0, none⟩ = some (.bool true) := cell_of_row _ _ 0 _ _ (0, 0) hrn
    have n1 : W4.cell? ⟨gn, 1, none⟩ = some (.int .i64 (fn : Int)) := cell_of_row _ _ 1 _ _ (0, 0) hrn
    have n2 : W4.cell? ⟨gn, 2, none⟩ = some (.int .i64 h) := cell_of_row _ _ 2 _ _ (0, 0) hrn
    have n3 : W4.cell? ⟨gn, 3, none⟩ = some (.slice oo o.length ocap) := cell_of_row _ _ 3 _ _ (0, 0) hrn
    have fz2 := frozen_of_row W4 gn 2 _ _ hrn
    have fz3 := frozen_of_row W4 gn 3 _ _ hrn
    have HS := Lib.hid (show (∀ j u, Below w.heap.size w (W4.setCell ⟨gn, j, none⟩ u)) ∧ (∀ j u, At (W4.setCell ⟨gn, j, none⟩ u) oo (intsV o)) ∧ Below w.heap.size w W4 ∧ At W4 oo (intsV o) ∧ ∀ j u, (W4.setCell ⟨gn, j, none⟩ u).heap.size = W4.heap.size from ⟨fun j u => hbV.trans ((Keeps.of_grown (X := fun b => b = gn) (setCell_grown0 _ _ _ _) rfl).below (fun i hi h => by have := HG.out; have := HGS.out; omega) hbV.size), fun j u => hatV.keeps (Keeps.of_grown (X := fun b => b = gn) (setCell_grown0 _ _ _ _) rfl) (fun b hb _ => (HON.out b hb).1), hbV, hatV, fun j u => by simp⟩)
    clear hrg hrs hri hrn hatV hbV
    have hA1 : Below W4.heap.size W4 (W4.alloc (.cells #[] 3)) := (Below.refl _ _).alloc (Nat.le_refl _) _
    have HLIT := Lib.hid (And.intro (show (W4.alloc (.cells #[] 3)).ownsRow W4.heap.size 3 1 (.slice (some ⟨W4.heap.size, 0, none⟩) 0 0) 0 (intsV []) from World.ownsRow_lit W4 #[] 0 (Nat.le_refl _) (by decide) rfl) (And.intro (HS.out.2.2.2.1.below hA1) hA1))
    have hgW : gn < W4.heap.size := by have := HGS.out; omega
    have e3a : (W4.alloc (.cells #[] 3)).cell? ⟨g + 1, 3, none⟩ = some (.slice oo o.length ocap) := (World.cell?_of_block (a := ⟨g + 1, 3, none⟩) (hA1.block (g + 1) (by have := HGS.out; omega))).trans e3
    clear hA1
    go_upto_region 94 with (first | (at_builtin; refine app_ints rfl _ _ rfl W4.heap.size (some ⟨W4.heap.size, 0, none⟩) 0 [] 0 rfl HLIT.out.1 oo o.length ocap o rfl HLIT.out.2.1 rfl (by omega) (by simp) ?_; rintro co capc w1 q1 q2 q3; have Q1 := Lib.hid (And.intro (show w1.ownsRow W4.heap.size 3 1 (.slice co o.length capc) o.length (intsV o) from by simpa using q1) (HLIT.out.2.2.trans (below_grown HLIT.out.1 (by simp) q2))); clear q1 q2 q3) | (at_builtin; refine app_ints rfl _ _ rfl W4.heap.size co capc o o.length rfl (Q1.out.1.alloc _) (some ⟨w1.heap.size, 0, none⟩) 1 1 [-1] rfl (At.new w1 #[.int .i64 (-1)] 3) rfl (by omega) (by simp; have := Q1.out.2.size; omega) ?_; rintro co2 cap2 w3 q1 q2 q3; have hb3 : Below W4.heap.size W4 w3 := (Q1.out.2.trans (((Below.refl _ w1).alloc (Nat.le_refl _) _).mono Q1.out.2.size)).trans (below_grown (Q1.out.1.alloc _) (by simp; have := Q1.out.2.size; omega) q2); have n33 : w3.cell? ⟨gn, 3, none⟩ = some (.slice oo o.length ocap) := (World.cell?_of_block (a := ⟨gn, 3, none⟩) (hb3.block gn hgW)).trans n3; have fz33 : w3.frozen? ⟨gn, 3, none⟩ = false := (World.frozen?_of_block (a := ⟨gn, 3, none⟩) (hb3.block gn hgW)).trans fz3; have Q3 := Lib.hid (And.intro q1 hb3); clear q1 q2 q3 hb3))
    clear n33 fz33 e3a
    clear k0 k1 k2 e1 e3 c0 c1 c2 c3 n0 n1 n2 n3 fz2 fz3 HS
    obtain ⟨⟨hrg, hrs, hri, hrn⟩, hatV, hbV⟩ := HN.out w3 Q3.out.2
    have k0 : w3.cell? ⟨gi, 0, none⟩ = some (.int .i64 26) := cell_of_row _ _ 0 _ _ (0, 0) hri
    have k1 : w3.cell? ⟨gi, 1, none⟩ = some (.int .i64 a) := cell_of_row _ _ 1 _ _ (0, 0) hri
    have k2 : w3.cell? ⟨gi, 2, none⟩ = some (.int .i64 b) := cell_of_row _ _ 2 _ _ (0, 0) hri
    have e1 : w3.cell? ⟨g + 1, 1, none⟩ = some (.int .i64 (fn : Int)) := cell_of_row _ _ 1 _ _ (0, 0) hrs
    have e3 : w3.cell? ⟨g + 1, 3, none⟩ = some (.slice oo o.length ocap) := cell_of_row _ _ 3 _ _ (0, 0) hrs
    have c0 : w3.cell? ⟨g, 0, none⟩ = some (.slice (some ⟨ib, fi, none⟩) c.ins.length icap) := cell_of_row _ _ 0 _ _ (0, 0) hrg
    have c1 : w3.cell? ⟨g, 1, none⟩ = some (.slice so c.strs.length scap) := cell_of_row _ _ 1 _ _ (0, 0) hrg
    have c2 : w3.cell? ⟨g, 2, none⟩ = some (.slice fo c.funs.length fcap) := cell_of_row _ _ 2 _ _ (0, 0) hrg
    have c3 : w3.cell? ⟨g, 3, none⟩ = some (.int .i64 c.glob) := cell_of_row _ _ 3 _ _ (0, 0) hrg
    have n0 : w3.cell? ⟨gn, 0, none⟩ = some (.bool true) := cell_of_row _ _ 0 _ _ (0, 0) hrn
    have n1 : w3.cell? ⟨gn, 1, none⟩ = some (.int .i64 (fn : Int)) := cell_of_row _ _ 1 _ _ (0, 0) hrn
    have n2 : w3.cell? ⟨gn, 2, none⟩ = some (.int .i64 h) := cell_of_row _ _ 2 _ _ (0, 0) hrn
    have n3 : w3.cell? ⟨gn, 3, none⟩ = some (.slice oo o.length ocap) := cell_of_row _ _ 3 _ _ (0, 0) hrn
    have fz2 := frozen_of_row w3 gn 2 _ _ hrn
    have fz3 := frozen_of_row w3 gn 3 _ _ hrn
    have HS := Lib.hid (show (∀ j u, Below w.heap.size w (w3.setCell ⟨gn, j, none⟩ u)) ∧ (∀ j u, At (w3.setCell ⟨gn, j, none⟩ u) oo (intsV o)) ∧ Below w.heap.size w w3 ∧ At w3 oo (intsV o) ∧ ∀ j u, (w3.setCell ⟨gn, j, none⟩ u).heap.size = w3.heap.size from ⟨fun j u => hbV.trans ((Keeps.of_grown (X := fun b => b = gn) (setCell_grown0 _ _ _ _) rfl).below (fun i hi h => by have := HG.out; have := HGS.out; omega) hbV.size), fun j u => hatV.keeps (Keeps.of_grown (X := fun b => b = gn) (setCell_grown0 _ _ _ _) rfl) (fun b hb _ => (HON.out b hb).1), hbV, hatV, fun j u => by simp⟩)
    clear hrg hrs hri hrn hatV hbV
    have hco : ∀ b, blk co2 = some b → W4.heap.size ≤ b ∧ b < w3.heap.size := fun b hb => Q3.out.1.lt b (by rw [own_slice]; exact hb)
    have hcap2 : o.length + 1 ≤ cap2 ∧ cap2 ≤ 9223372036854775807 := by
      rcases Q3.out.1.2 with ⟨e, _⟩ | ⟨_, cap', cur, hv, _, _, hnc, hcm, _⟩
      · have := Value.slice.inj e
        omega
      · have := Value.slice.inj hv
        unfold maxLen at hcm
        omega
    have HCO := Lib.hid (And.intro hco (And.intro hcap2 ((At.own Q3.out.1).keeps (Keeps.of_grown (X := fun b => b = gn) (setCell_grown0 w3 gn 3 (.slice co2 (o.length + 1) cap2)) rfl) (fun b hb _ h => by have := hco b hb; omega))))
    clear hco hcap2
    obtain ⟨V6, hV6⟩ : ∃ V6, (w3.setCell ⟨gn, 3, none⟩ (.slice co2 (o.length + 1) cap2)).alloc (.cells #[.int .i64 ((z : Int) + 1), .bool true, .int .i64 (fn : Int), .int .i64 (h), .slice co2 (o.length + 1) cap2] 68) = V6 := ⟨_, rfl⟩
    have h6 : Below (w3.setCell ⟨gn, 3, none⟩ (.slice co2 (o.length + 1) cap2)).heap.size (w3.setCell ⟨gn, 3, none⟩ (.slice co2 (o.length + 1) cap2)) V6 := by rw [← hV6]; exact (Below.refl _ _).alloc (Nat.le_refl _) _
    have hat6 : At V6 (some ⟨w3.heap.size, 0, none⟩) (wayRow ((z : Int) + 1, ⟨fn, h, (o ++ [-1])⟩) co2 cap2) := by rw [← hV6, show wayRow ((z : Int) + 1, ⟨fn, h, (o ++ [-1])⟩) co2 cap2 = [.int .i64 ((z : Int) + 1), .bool true, .int .i64 (fn : Int), .int .i64 (h), .slice co2 (o.length + 1) cap2] from by simp [wayRow]]; exact At.newk _ _ _ (0, 0) (Eq.symm (HS.out.2.2.2.2 _ _))
    have h6s : w3.heap.size ≤ V6.heap.size := Nat.le_trans (Nat.le_of_eq (Eq.symm (HS.out.2.2.2.2 _ _))) h6.size
    have H6 := Lib.hid (And.intro hat6 (And.intro ((HS.out.1 _ _).trans (h6.mono (HS.out.1 _ _).size)) (And.intro (HCO.out.2.2.below h6) h6s)))
    clear h6 hat6 h6s
    go_wp2_with (first | (at_builtin; refine app_way rfl _ _ rfl w.heap.size none 0 0 [] rfl (World.ownsRow_nil _ _ _ _) ((z : Int) + 1, ⟨fn, h, (o ++ [-1])⟩) co2 cap2 w3.heap.size rfl H6.out.1 (by omega) H6.out.2.1.size ?_; rintro ao7 cap7 w7 r1 r2; have P7 := Lib.hid (And.intro r1 r2); clear r1 r2))
    go_ret2
    refine rsteps_one (x := ⟨26, a, b⟩) (f := ⟨fn, h, o⟩) (wy := ((z : Int) + 1, ⟨fn, h, (o ++ [-1])⟩)) ?_ ?_ ?_ ?_ P7.out.1 ?_ ?_ ?_ ?_ ?_
    · exact H6.out.2.1.trans ((grown_below P7.out.2).mono H6.out.2.1.size)
    · exact rfl
    · simp
    · show [(_, (⟨fn, h + 0, o ++ [-1]⟩ : FrP))] = _; rw [Int.add_zero]
    · show (o ++ [-1]).length ≤ cap2; rw [List.length_append, List.length_singleton]; exact HCO.out.2.1.1
    · exact HCO.out.2.1.2
    · exact H6.out.2.2.1.below (grown_below P7.out.2)
    · exact fun b hb => .inr (by have := HCO.out.1 b hb; have := HG.out; have := HGS.out; have := H6.out.2.2.2; have := P7.out.2.size; omega)
    · rfl
    -- END A26
  · skip
    -- CUT A27
    rcases (show o = [] ∨ o ≠ [] from Classical.em _) with rfl | hne
    · skip
      obtain ⟨⟨hrg, hrs, hri, hrn⟩, hatV, hbV⟩ := HN.out W4 (Below.refl _ _)
      have k0 : W4.cell? ⟨gi, 0, none⟩ = some (.int .i64 27) := cell_of_row _ _ 0 _ _ (0, 0) hri
      have k1 : W4.cell? ⟨gi, 1, none⟩ = some (.int .i64 a) := cell_of_row _ _ 1 _ _ (0, 0) hri
      have k2 : W4.cell? ⟨gi, 2, none⟩ = some (.int .i64 b) := cell_of_row _ _ 2 _ _ (0, 0) hri
      have e1 : W4.cell? ⟨g + 1, 1, none⟩ = some (.int .i64 (fn : Int)) := cell_of_row _ _ 1 _ _ (0, 0) hrs
      have e3 : W4.cell? ⟨g + 1, 3, none⟩ = some (.slice oo ([] : List Int).length ocap) := cell_of_row _ _ 3 _ _ (0, 0) hrs
      have c0 : W4.cell? ⟨g, 0, none⟩ = some (.slice (some ⟨ib, fi, none⟩) c.ins.length icap) := cell_of_row _ _ 0 _ _ (0, 0) hrg
      have c1 : W4.cell? ⟨g, 1, none⟩ = some (.slice so c.strs.length scap) := cell_of_row _ _ 1 _ _ (0, 0) hrg
      have c2 : W4.cell? ⟨g, 2, none⟩ = some (.slice fo c.funs.length fcap) := cell_of_row _ _ 2 _ _ (0, 0) hrg
      have c3 : W4.cell? ⟨g, 3, none⟩ = some (.int .i64 c.glob) := cell_of_row _ _ 3 _ _ (0, 0) hrg
      have n0 : W4.cell? ⟨gn, 0, none⟩ = some (.bool true) := cell_of_row _ _ 0 _ _ (0, 0) hrn
      have n1 : W4.cell? ⟨gn, 1, none⟩ = some (.int .i64 (fn : Int)) := cell_of_row _ _ 1 _ _ (0, 0) hrn
      have n2 : W4.cell? ⟨gn, 2, none⟩ = some (.int .i64 h) := cell_of_row _ _ 2 _ _ (0, 0) hrn
      have n3 : W4.cell? ⟨gn, 3, none⟩ = some (.slice oo ([] : List Int).length ocap) := cell_of_row _ _ 3 _ _ (0, 0) hrn
      have fz2 := frozen_of_row W4 gn 2 _ _ hrn
      have fz3 := frozen_of_row W4 gn 3 _ _ hrn
      have HS := Lib.hid (show (∀ j u, Below w.heap.size w (W4.setCell ⟨gn, j, none⟩ u)) ∧ (∀ j u, At (W4.setCell ⟨gn, j, none⟩ u) oo (intsV [])) ∧ Below w.heap.size w W4 ∧ At W4 oo (intsV []) ∧ ∀ j u, (W4.setCell ⟨gn, j, none⟩ u).heap.size = W4.heap.size from ⟨fun j u => hbV.trans ((Keeps.of_grown (X := fun b => b = gn) (setCell_grown0 _ _ _ _) rfl).below (fun i hi h => by have := HG.out; have := HGS.out; omega) hbV.size), fun j u => hatV.keeps (Keeps.of_grown (X := fun b => b = gn) (setCell_grown0 _ _ _ _) rfl) (fun b hb _ => (HON.out b hb).1), hbV, hatV, fun j u => by simp⟩)
      clear hrg hrs hri hrn hatV hbV
      go_wp2_with fail
      go_ret2
      exact rsteps_no HS.out.2.2.1 (by show decide (([] : List Int).getLast? = some (-1)) = false; simp) rfl
    · obtain ⟨l, u, ho⟩ : ∃ l u, o = l ++ [u] := ⟨o.dropLast, o.getLast hne, (List.dropLast_concat_getLast hne).symm⟩
      have hu := HV.out.2.2.2.2.2.1 u (by rw [ho]; simp)
      have hlen : o.length = l.length + 1 := by rw [ho]; simp
      have hm : (o.length : Int) - 1 = (l.length : Int) := by omega
      have hlo : l.length < o.length := by omega
      obtain ⟨pb, pf, hoo, pc⟩ := HM.out.2.2.exv l.length (by simp [intsV]; omega)
      have hpe : (intsV o)[l.length]'(by simp [intsV]; omega) = .int .i64 u := by simp [intsV, ho]
      rw [hpe] at pc
      subst hoo
      have hoc := HV.out.1
      have HO := Lib.hid (And.intro ho hlen)
      have HATL := Lib.hid (show At W4 (some ⟨pb, pf, none⟩) (intsV l) from by
        have := HM.out.2.2.take l.length
        rw [show (intsV o).take l.length = intsV l by rw [ho]; simp [intsV]] at this
        exact this)
      clear ho hne hlen hpe
      obtain ⟨⟨hrg, hrs, hri, hrn⟩, hatV, hbV⟩ := HN.out W4 (Below.refl _ _)
      have k0 : W4.cell? ⟨gi, 0, none⟩ = some (.int .i64 27) := cell_of_row _ _ 0 _ _ (0, 0) hri
      have k1 : W4.cell? ⟨gi, 1, none⟩ = some (.int .i64 a) := cell_of_row _ _ 1 _ _ (0, 0) hri
      have k2 : W4.cell? ⟨gi, 2, none⟩ = some (.int .i64 b) := cell_of_row _ _ 2 _ _ (0, 0) hri
      have e1 : W4.cell? ⟨g + 1, 1, none⟩ = some (.int .i64 (fn : Int)) := cell_of_row _ _ 1 _ _ (0, 0) hrs
      have e3 : W4.cell? ⟨g + 1, 3, none⟩ = some (.slice (some ⟨pb, pf, none⟩) o.length ocap) := cell_of_row _ _ 3 _ _ (0, 0) hrs
      have c0 : W4.cell? ⟨g, 0, none⟩ = some (.slice (some ⟨ib, fi, none⟩) c.ins.length icap) := cell_of_row _ _ 0 _ _ (0, 0) hrg
      have c1 : W4.cell? ⟨g, 1, none⟩ = some (.slice so c.strs.length scap) := cell_of_row _ _ 1 _ _ (0, 0) hrg
      have c2 : W4.cell? ⟨g, 2, none⟩ = some (.slice fo c.funs.length fcap) := cell_of_row _ _ 2 _ _ (0, 0) hrg
      have c3 : W4.cell? ⟨g, 3, none⟩ = some (.int .i64 c.glob) := cell_of_row _ _ 3 _ _ (0, 0) hrg
      have n0 : W4.cell? ⟨gn, 0, none⟩ = some (.bool true) := cell_of_row _ _ 0 _ _ (0, 0) hrn
      have n1 : W4.cell? ⟨gn, 1, none⟩ = some (.int .i64 (fn : Int)) := cell_of_row _ _ 1 _ _ (0, 0) hrn
      have n2 : W4.cell? ⟨gn, 2, none⟩ = some (.int .i64 h) := cell_of_row _ _ 2 _ _ (0, 0) hrn
      have n3 : W4.cell? ⟨gn, 3, none⟩ = some (.slice (some ⟨pb, pf, none⟩) o.length ocap) := cell_of_row _ _ 3 _ _ (0, 0) hrn
      have fz2 := frozen_of_row W4 gn 2 _ _ hrn
      have fz3 := frozen_of_row W4 gn 3 _ _ hrn
      have HS := Lib.hid (show (∀ j u, Below w.heap.size w (W4.setCell ⟨gn, j, none⟩ u)) ∧ (∀ j u, At (W4.setCell ⟨gn, j, none⟩ u) (some ⟨pb, pf, none⟩) (intsV o)) ∧ Below w.heap.size w W4 ∧ At W4 (some ⟨pb, pf, none⟩) (intsV o) ∧ ∀ j u, (W4.setCell ⟨gn, j, none⟩ u).heap.size = W4.heap.size from ⟨fun j u => hbV.trans ((Keeps.of_grown (X := fun b => b = gn) (setCell_grown0 _ _ _ _) rfl).below (fun i hi h => by have := HG.out; have := HGS.out; omega) hbV.size), fun j u => hatV.keeps (Keeps.of_grown (X := fun b => b = gn) (setCell_grown0 _ _ _ _) rfl) (fun b hb _ => (HON.out b hb).1), hbV, hatV, fun j u => by simp⟩)
      clear hrg hrs hri hrn hatV hbV
      by_cases hu1 : u = -1
      · have hd1 : (u == -1) = true := by simp [hu1]
        have hd2 : decide (u = -1) = true := decide_eq_true hu1
        have HU1 := Lib.hid hu1
        clear hu1
        have HATS := Lib.hid (HATL.out.keeps (Keeps.of_grown (X := fun b => b = gn) (setCell_grown0 W4 gn 3 (.slice (some ⟨pb, pf, none⟩) l.length ocap)) rfl) (fun b hb _ => (HON.out b hb).1))
        obtain ⟨V6, hV6⟩ : ∃ V6, (W4.setCell ⟨gn, 3, none⟩ (.slice (some ⟨pb, pf, none⟩) l.length ocap)).alloc (.cells #[.int .i64 ((z : Int) + 1), .bool true, .int .i64 (fn : Int), .int .i64 (h), .slice (some ⟨pb, pf, none⟩) l.length ocap] 68) = V6 := ⟨_, rfl⟩
        have h6 : Below (W4.setCell ⟨gn, 3, none⟩ (.slice (some ⟨pb, pf, none⟩) l.length ocap)).heap.size (W4.setCell ⟨gn, 3, none⟩ (.slice (some ⟨pb, pf, none⟩) l.length ocap)) V6 := by rw [← hV6]; exact (Below.refl _ _).alloc (Nat.le_refl _) _
        have hat6 : At V6 (some ⟨W4.heap.size, 0, none⟩) (wayRow ((z : Int) + 1, ⟨fn, h, l⟩) (some ⟨pb, pf, none⟩) ocap) := by rw [← hV6]; exact At.newk _ _ _ (0, 0) (Eq.symm (HS.out.2.2.2.2 _ _))
        have h6s : W4.heap.size ≤ V6.heap.size := Nat.le_trans (Nat.le_of_eq (Eq.symm (HS.out.2.2.2.2 _ _))) h6.size
        have H6 := Lib.hid (And.intro hat6 (And.intro ((HS.out.1 _ _).trans (h6.mono (HS.out.1 _ _).size)) (And.intro (HATS.out.below h6) h6s)))
        clear h6 hat6 h6s
        go_wp2_with (first | (at_builtin; refine app_way rfl _ _ rfl w.heap.size none 0 0 [] rfl (World.ownsRow_nil _ _ _ _) ((z : Int) + 1, ⟨fn, h, l⟩) (some ⟨pb, pf, none⟩) ocap W4.heap.size rfl H6.out.1 (by omega) H6.out.2.1.size ?_; rintro ao7 cap7 w7 r1 r2; have P7 := Lib.hid (And.intro r1 r2); clear r1 r2) | (refine op_hiI rfl _ _ rfl (some ⟨pb, pf, none⟩) o.length ocap l.length rfl rfl (by omega) ?_))
        go_ret2
        refine rsteps_one (x := ⟨27, a, b⟩) (f := ⟨fn, h, o⟩) (wy := ((z : Int) + 1, ⟨fn, h, l⟩)) ?_ ?_ ?_ ?_ P7.out.1 ?_ ?_ ?_ ?_ ?_
        · exact H6.out.2.1.trans ((grown_below P7.out.2).mono H6.out.2.1.size)
        · show decide (o.getLast? = some (-1)) = true; rw [HO.out.1, HU1.out]; simp
        · simp
        · show [(_, (⟨fn, h + 0, o.dropLast⟩ : FrP))] = _; rw [Int.add_zero, HO.out.1, List.dropLast_concat]
        · show l.length ≤ ocap; omega
        · exact HV.out.2.1
        · exact H6.out.2.2.1.below (grown_below P7.out.2)
        · exact fun b hb => .inl (HV.out.2.2.1 b hb)
        · rfl
      · have hd1 : (u == -1) = false := by simp [hu1]
        have hd2 : decide (u = -1) = false := decide_eq_false hu1
        go_wp2_with fail
        go_ret2
        exact rsteps_no HS.out.2.2.1 (by show decide (o.getLast? = some (-1)) = false; rw [HO.out.1]; simp [hu1]) rfl
    -- END A27
  · skip
    -- CUT A28
    obtain ⟨⟨hrg, hrs, hri, hrn⟩, hatV, hbV⟩ := HN.out W4 (Below.refl _ _)
    have k0 : W4.cell? ⟨gi, 0, none⟩ = some (.int .i64 28) := cell_of_row _ _ 0 _ _ (0, 0) hri
    have k1 : W4.cell? ⟨gi, 1, none⟩ = some (.int .i64 a) := cell_of_row _ _ 1 _ _ (0, 0) hri
    have k2 : W4.cell? ⟨gi, 2, none⟩ = some (.int .i64 b) := cell_of_row _ _ 2 _ _ (0, 0) hri
    have e1 : W4.cell? ⟨g + 1, 1, none⟩ = some (.int .i64 (fn : Int)) := cell_of_row _ _ 1 _ _ (0, 0) hrs
    have e3 : W4.cell? ⟨g + 1, 3, none⟩ = some (.slice oo o.length ocap) := cell_of_row _ _ 3 _ _ (0, 0) hrs
    have c0 : W4.cell? ⟨g, 0, none⟩ = some (.slice (some ⟨ib, fi, none⟩) c.ins.length icap) := cell_of_row _ _ 0 _ _ (0, 0) hrg
    have c1 : W4.cell? ⟨g, 1, none⟩ = some (.slice so c.strs.length scap) := cell_of_row _ _ 1 _ _ (0, 0) hrg
    have c2 : W4.cell? ⟨g, 2, none⟩ = some (.slice fo c.funs.length fcap) := cell_of_row _ _ 2 _ _ (0, 0) hrg
    have c3 : W4.cell? ⟨g, 3, none⟩ = some (.int .i64 c.glob) := cell_of_row _ _ 3 _ _ (0, 0) hrg
    have n0 : W4.cell? ⟨gn, 0, none⟩ = some (.bool true) := cell_of_row _ _ 0 _ _ (0, 0) hrn
    have n1 : W4.cell? ⟨gn, 1, none⟩ = some (.int .i64 (fn : Int)) := cell_of_row _ _ 1 _ _ (0, 0) hrn
    have n2 : W4.cell? ⟨gn, 2, none⟩ = some (.int .i64 h) := cell_of_row _ _ 2 _ _ (0, 0) hrn
    have n3 : W4.cell? ⟨gn, 3, none⟩ = some (.slice oo o.length ocap) := cell_of_row _ _ 3 _ _ (0, 0) hrn
    have fz2 := frozen_of_row W4 gn 2 _ _ hrn
    have fz3 := frozen_of_row W4 gn 3 _ _ hrn
    have HS := Lib.hid (show (∀ j u, Below w.heap.size w (W4.setCell ⟨gn, j, none⟩ u)) ∧ (∀ j u, At (W4.setCell ⟨gn, j, none⟩ u) oo (intsV o)) ∧ Below w.heap.size w W4 ∧ At W4 oo (intsV o) ∧ ∀ j u, (W4.setCell ⟨gn, j, none⟩ u).heap.size = W4.heap.size from ⟨fun j u => hbV.trans ((Keeps.of_grown (X := fun b => b = gn) (setCell_grown0 _ _ _ _) rfl).below (fun i hi h => by have := HG.out; have := HGS.out; omega) hbV.size), fun j u => hatV.keeps (Keeps.of_grown (X := fun b => b = gn) (setCell_grown0 _ _ _ _) rfl) (fun b hb _ => (HON.out b hb).1), hbV, hatV, fun j u => by simp⟩)
    clear hrg hrs hri hrn hatV hbV
    by_cases hf0 : fn = 0
    · subst hf0
      rcases (show o = [] ∨ o ≠ [] from Classical.em _) with rfl | hne
      · go_wp2_with fail
        go_ret2
        exact rsteps_none HS.out.2.2.1 rfl (by simp) rfl rfl
      · have hlen : 0 < o.length := List.length_pos_iff.2 hne
        have hd5 : decide ((o.length : Int) - 1 < 0) = false := decide_eq_false (by omega)
        have HNO := Lib.hid (show (fitsP flC c L ⟨28, a, b⟩ ⟨0, h, o⟩).1 = false from by show (decide ((0 : Nat) = 0) && decide (o = [])) = false; rw [decide_eq_false hne, Bool.and_false])
        go_wp2_with fail
        go_ret2
        exact rsteps_no HS.out.2.2.1 (HNO.out) rfl
    · have hd1 : ((fn : Int) == 0) = false := by simp; omega
      have hd2 : (fn == 0) = false := by simp; omega
      have hd3 : decide (fn = 0) = false := decide_eq_false hf0
      go_wp2_with fail
      go_ret2
      exact rsteps_no HS.out.2.2.1 (by show (decide (fn = 0) && _) = false; rw [decide_eq_false hf0]; rfl) rfl
    -- END A28
end Go.Proofs.YtnhdefaagicejaaDoor
