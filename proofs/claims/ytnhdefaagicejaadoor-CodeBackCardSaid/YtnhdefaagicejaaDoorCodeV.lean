/- The walk of Verify: what is thrown is caught. -/
import Derived.Test.YtnhdefaagicejaaDoorCodeT
import Derived.Tactics
import Derived.Tactics2
import Derived.Defers
import Derived.Recover
namespace Go.Proofs.YtnhdefaagicejaaDoor
set_option linter.unusedSimpArgs false
set_option linter.unusedVariables false
open Go.RowKit

set_option maxRecDepth 100000 in
theorem catch_panicking (p : Addr) (x : Value) (w : World) (hc : w.cell? p = some x) (hz : w.frozen? p = false) :
    CallsD Tryd.prog 16 #[.pointer (some p)] (.panicking [disP]) w fun e u' w' =>
      e = .returned (.tuple #[]) ∧ u' = .panicking [{ disP with recovered := true }] ∧ w' = (w.alloc (.cells #[] 52)).setCell p (.int .i64 2) := by
  refine callsD_of_wpS Tryd.func16 rfl fun c₀ cs hu => ?_
  apply wpS_seq
  apply wpS_region
  simp [wpOpsS, go_sem, recoverD, hu, disP, Tryd.ntmps16, Exit.thenS]
  have HU := Lib.hid hu
  clear hu
  have hta : ∀ w, (Instr.typeAssert (.iface 52 (.agg #[])) 20 52 true).run Tryd.prog w = .ok (.tuple #[.agg #[], .bool true]) w := fun w => by
    simp [Instr.typeAssert, go_sem]
  refine wpS_of_wp ?_
  have hbk := Below.heap_alloc w (.cells #[] 52) p.block (World.block_lt_of_cell? (a := p) w hc)
  have hc2 : (w.alloc (.cells #[] 52)).cell? p = some x := (World.cell?_of_block hbk).trans hc
  have hz2 : (w.alloc (.cells #[] 52)).frozen? p = false := (World.frozen?_of_block hbk).trans hz
  clear hbk hc hz
  go_wp2_with fail
  have hu := HU.out
  clear HU hta hc2 hz2
  cases c₀
  simp_all [bodyPostS, results, Tryd.results16, disP]
theorem catch_idle (p : Addr) (w : World) :
    CallsD Tryd.prog 16 #[.pointer (some p)] .returning w fun e u' w' => e = .returned (.tuple #[]) ∧ u' = .returning ∧ w' = w := by
  refine callsD_of_wpS Tryd.func16 rfl fun c₀ cs hu => ?_
  apply wpS_seq
  apply wpS_region
  simp [wpOpsS, go_sem, recoverD, hu, Tryd.ntmps16, Exit.thenS]
  refine wpS_of_wp ?_
  go_wp2_with fail
  cases c₀
  simp_all [bodyPostS, results, Tryd.results16]
/-- What a call to Verify leaves. -/
def Verifies (w : World) (c : CodeP) (e : Ending) (w' : World) : Prop := Below w.heap.size w w' ∧ (Ord flC c ∧ e = .returned (.int .i64 0) ∨ ¬ Ord flC c ∧ e = .returned (.int .i64 2))
set_option maxRecDepth 100000 in
set_option maxHeartbeats 4000000 in
theorem verify_any {w : World} {c : CodeP} {io so fo : Option Addr} {icap scap fcap : Nat} (hmem : CodeMem w (fun b => b < w.heap.size) c io so fo) (ht : ShTab w) (hil : c.ins.length ≤ 1000000000) (hsl : c.strs.length ≤ 1000000000) (hfl : c.funs.length ≤ 1000000000) (hg : R64i c.glob) :
    Calls Tryd.prog 7 #[.agg #[.slice io c.ins.length icap, .slice so c.strs.length scap, .slice fo c.funs.length fcap, .int .i64 c.glob]] w (Verifies w c) := by
  have hmf : ∀ (fn : Fn) (first cap : Array Value) (w : World), (Instr.makeFunc fn first cap).run Tryd.prog w = .ok (.func fn first cap) w := fun _ _ _ _ => rfl
  have hmm := @run_makeMap Tryd.prog
  have H := Lib.hid (And.intro hmem (And.intro ht hg))
  clear hmem ht hg
  obtain ⟨W2, hW2⟩ : ∃ W2, (w.alloc (.cells #[.slice io c.ins.length icap, .slice so c.strs.length scap, .slice fo c.funs.length fcap, .int .i64 c.glob] 35)).alloc (.cells #[.int .i64 0] 31) = W2 := ⟨_, rfl⟩
  obtain ⟨W4, hW4⟩ : ∃ W4, (W2.alloc (.map #[] 0)).alloc (.cells #[.slice io c.ins.length icap, .slice so c.strs.length scap, .slice fo c.funs.length fcap, .int .i64 c.glob, .slice none 0 0, .map (some (w.heap.size + 1 + 1)), .slice none 0 0] 56) = W4 := ⟨_, rfl⟩
  have hs2 : W2.heap.size = w.heap.size + 1 + 1 := by rw [← hW2]; simp
  have hb2 : Below w.heap.size w W2 := by rw [← hW2]; exact ((Below.refl _ w).alloc (Nat.le_refl _) _).alloc (by simp) _
  have hr2 : W2.heap[w.heap.size + 1]? = some (.cells #[.int .i64 0] 31 (0, 0)) := by
    rw [← hW2]
    have := heap_alloc_new (w.alloc (.cells #[.slice io c.ins.length icap, .slice so c.strs.length scap, .slice fo c.funs.length fcap, .int .i64 c.glob] 35)) (.cells #[.int .i64 0] 31)
    simpa using this
  have hs4 : W4.heap.size = W2.heap.size + 1 + 1 := by rw [← hW4]; simp
  have hb4 : Below W2.heap.size W2 W4 := by rw [← hW4]; exact ((Below.refl _ W2).alloc (Nat.le_refl _) _).alloc (by simp) _
  have hm4 : MapAt W4 (w.heap.size + 1 + 1) (fun _ => none) := by
    rw [← hW4, ← hs2]
    exact (MapAt.made W2).below ((Below.refl _ _).alloc (Nat.le_refl _) _)
  have hr4 : W4.heap[w.heap.size + 1 + 1 + 1]? = some (.cells #[.slice io c.ins.length icap, .slice so c.strs.length scap, .slice fo c.funs.length fcap, .int .i64 c.glob, .slice none 0 0, .map (some (w.heap.size + 1 + 1)), .slice none 0 0] 56 (0, 0)) := by
    rw [← hW4]
    have := heap_alloc_new (W2.alloc (.map #[] 0)) (.cells #[.slice io c.ins.length icap, .slice so c.strs.length scap, .slice fo c.funs.length fcap, .int .i64 c.glob, .slice none 0 0, .map (some (w.heap.size + 1 + 1)), .slice none 0 0] 56)
    simp only [World.size_alloc] at this
    rw [hs2] at this
    exact this
  have hbw4 : Below w.heap.size w W4 := hb2.trans (hb4.mono (by omega))
  have h0 : 0 < w.heap.size := World.block_lt_of_cell? (a := ⟨0, 0 * 2 + 1, none⟩) w (H.out.2.1 0 (by decide))
  have hall := all_any (B := w.heap.size + 1 + 1) hr4 ((H.out.1.below hbw4).mono (fun b hb => by omega)) hm4 (by omega) (by omega) (by omega) (by omega) (fun k hk => (World.cell?_of_block (a := ⟨0, k * 2 + 1, none⟩) (hbw4.block 0 h0)).trans (H.out.2.1 k hk)) hil hsl hfl H.out.2.2
  have hr24 : W4.heap[w.heap.size + 1]? = _ := (hb4.block (w.heap.size + 1) (by omega)).trans hr2
  have HA := Lib.hid (And.intro hall (And.intro hbw4 (And.intro hr24 (And.intro hs4 hs2))))
  have HW := Lib.hid (And.intro hW2 hW4)
  clear hs2 hb2 hr2 hs4 hb4 hm4 hr4 hbw4 h0 hall hr24 hW2 hW4
  go_enter_defers Tryd.func7, Tryd.ntmps7
  go_wp2_with fail
  rw [HW.out.1, HW.out.2]
  refine HA.out.1.mono ?_
  rintro e w5 ⟨hb5, hres⟩
  have hb : Below w.heap.size w w5 := HA.out.2.1.trans (hb5.mono (by omega))
  have hr5 : w5.heap[w.heap.size + 1]? = _ := (hb5.block (w.heap.size + 1) (by omega)).trans HA.out.2.2.1
  have c5 : w5.cell? ⟨w.heap.size + 1, 0, none⟩ = some (.int .i64 0) := cell_of_row _ _ 0 _ _ (0, 0) hr5
  have f5 := frozen_of_row w5 (w.heap.size + 1) 0 _ _ hr5
  have H5 := Lib.hid (And.intro hb (And.intro hr5 hres))
  clear hb5 hr5 hb
  rcases hres with ⟨ho, rfl⟩ | ⟨hno, rfl⟩
  · go_wp2_with fail
    have c6 := World.cell?_setCell_same w5 ⟨w.heap.size + 1, 0, none⟩ (.int .i64 0) c5
    have hb6 : Below w.heap.size w (w5.setCell ⟨w.heap.size + 1, 0, none⟩ (.int .i64 0)) := H5.out.1.trans ((Keeps.of_grown (X := fun b => b = w.heap.size + 1) (setCell_grown0 _ _ _ _) rfl).below (fun i hi h => by omega) H5.out.1.size)
    refine leaves_cons (f := 16) (args := #[.pointer (some ⟨w.heap.size + 1, 0, none⟩)]) (by simp) (by simp [go_sem]) ?_
    refine (catch_idle ⟨w.heap.size + 1, 0, none⟩ _).mono ?_
    rintro e u' w'' ⟨rfl, rfl, rfl⟩
    simp [Leaves, settle, results, Tryd.results7, go_sem, c6]
    exact ⟨hb6, .inl ⟨ho, rfl⟩⟩
  · refine leaves_cons (f := 16) (args := #[.pointer (some ⟨w.heap.size + 1, 0, none⟩)]) (by simp) (by simp [go_sem]) ?_
    refine (catch_panicking ⟨w.heap.size + 1, 0, none⟩ _ _ c5 f5).mono ?_
    rintro e u' w'' ⟨rfl, rfl, rfl⟩
    have hba : Below w5.heap.size w5 (w5.alloc (.cells #[] 52)) := (Below.refl _ w5).alloc (Nat.le_refl _) _
    have c6 := World.cell?_setCell_same (w5.alloc (.cells #[] 52)) ⟨w.heap.size + 1, 0, none⟩ (.int .i64 2) ((World.cell?_of_block (a := ⟨w.heap.size + 1, 0, none⟩) (hba.block _ (World.block_lt_of_cell? (a := ⟨w.heap.size + 1, 0, none⟩) w5 c5))).trans c5)
    have hb6 : Below w.heap.size w ((w5.alloc (.cells #[] 52)).setCell ⟨w.heap.size + 1, 0, none⟩ (.int .i64 2)) := (H5.out.1.trans (hba.mono H5.out.1.size)).trans ((Keeps.of_grown (X := fun b => b = w.heap.size + 1) (setCell_grown0 _ _ _ _) rfl).below (fun i hi h => by omega) (by simp; have := H5.out.1.size; omega))
    simp [Leaves, settle, results, Tryd.results7, go_sem, c6]
    exact ⟨hb6, .inr ⟨hno, rfl⟩⟩
end Go.Proofs.YtnhdefaagicejaaDoor
