/- The walks of disk.New, Arm, Off, Steps; and the laws' own 'full' and 'lasts'. -/
import Derived.Test.YtpeehagaiofobaaDoorDisk4
namespace Go.Proofs.YtpeehagaiofobaaDoor
open Go.RowKit

theorem infoR : (Tryd.prog.info? 40).map (fun i => (i.zero, i.size, i.bytes)) = some (some (.slice none 0 0), 1, 24) := by kernel_rfl
theorem op_makeR {w : World} {ops : Array Oper} {rest : List Oper} {o : Oper} {a : Act} {Q : Exit → Act → World → Prop} (hgd : Region.wanted o (yielded ops a.tmps) = true) (x y : Operand) (ho : o.op = .makeSlice 31 x y) (n : Nat) (hx : a.eval x = .int .i64 (n : Int)) (hy : a.eval y = .int .i64 (n : Int)) (hn : n ≤ 1000000000)
    (h : ∀ w', w'.ownsRow w.heap.size 40 1 (.slice (some ⟨w.heap.size, 0, none⟩) n n) n (List.replicate n (.slice none 0 0)) → w.grownBy w' none → w'.heap.size = w.heap.size + 1 → wpList Tryd.prog ops Q rest (a.put o.dst (.slice (some ⟨w.heap.size, 0, none⟩) n n)) w') : wpList Tryd.prog ops Q (o :: rest) a w := by
  obtain ⟨i0, hi, hz0, hz1, hz2⟩ := info_parts infoR
  refine wpList_go hgd fun K hK => ?_
  have hr := run_make (P := Tryd.prog) w 31 40 i0 (.slice none 0 0) Tryd.underlying31 hi hz0 .i64 .i64 n n (by omega) (by omega) (by rw [hz2]; omega) (by omega)
  have e : (madeCells (Value.slice none 0 0).cells (n * 1)) = (List.replicate n (Value.slice none 0 0)).toArray := by
    apply Array.ext'
    rw [Nat.mul_one, show (Value.slice none 0 0).cells = #[Value.slice none 0 0] from rfl, toList_madeCells_one]
  simp only [Int.toNat_natCast, hz1, e] at hr
  unfold Oper.wp execOp
  simp only [ho, hx, hy, hr, Sem.run_bind, Sem.run_pure, Result.andThen_ok]
  refine hK _ _ (h _ ?_ (World.grownBy_alloc w _ none) (by simp))
  exact World.ownsRow_lit w (List.replicate n (Value.slice none 0 0)).toArray n (Nat.le_refl _) (by unfold maxLen; omega) (by simp)

/-- A new disk. -/
def Fresh (w : World) (n : Nat) (e : Ending) (w' : World) : Prop :=
  ∃ d M I, e = .returned (.tuple #[.pointer (some ⟨d, 0, none⟩), .int .i64 0]) ∧ DiskAt w.heap.size w' M I d ⟨List.replicate n none, [], -1, false, 0⟩ ∧ Below w.heap.size w w'

set_option maxRecDepth 100000 in
set_option maxHeartbeats 1000000 in
theorem new_any (n : Nat) (h0 : 0 < n) (h1 : n ≤ 65536) (w : World) :
    Calls Tryd.prog 4 #[.int .i64 (n : Int)] w (Fresh w n) := by
  have hmm := @run_makeMap Tryd.prog
  have h0' : ¬ (n : Int) < 1 := by omega
  have h1' : ¬ (65536 : Int) < (n : Int) := by omega
  go_enter Tryd.func4, Tryd.ntmps4
  go_wp2_with (refine op_makeR rfl _ _ rfl n rfl rfl (by omega) ?_; rintro w1 q1 q2 q3; have Q3 := Lib.hid q3; clear q3)
  go_returns
  have q3 := Q3.out
  have hb1 := grown_below q2
  have hsz1 := hb1.size
  have hw2 : Below w1.heap.size w1 ((w1.alloc (.map #[] 0)).alloc (.cells #[.slice (some ⟨w.heap.size, 0, none⟩) n n, .map (some w1.heap.size), .slice none 0 0, .int .i64 (-1), .bool false, .int .i64 0] 52)) := ((Below.refl _ _).alloc (Nat.le_refl _) _).alloc (by simp) _
  refine ⟨w1.heap.size + 1, fun b => b = w1.heap.size + 1 ∨ b = w.heap.size ∨ b = w1.heap.size ∨ blk none = some b, fun _ => False, rfl, ⟨w.heap.size, n, w1.heap.size, none, 0, List.replicate n (.slice none 0 0), fun _ => none, [], ?_, ?_, by omega, by omega, by omega, by simp [blk], fun h => h, ⟨by simp, by simp, by simp, by simp⟩, fun _ => Iff.rfl⟩, hb1.trans (hw2.mono hsz1)⟩
  · simpa using heap_alloc_new (w1.alloc (.map #[] 0)) (.cells #[.slice (some ⟨w.heap.size, 0, none⟩) n n, .map (some w1.heap.size), .slice none 0 0, .int .i64 (-1), .bool false, .int .i64 0] 52)
  · exact {
      lasts := by simpa using owns_below q1 hw2
      lasts2 := All2.replicate (R := LastV _ _) (a := .slice none 0 0) (b := none) rfl n
      map := (MapAt.made w1).below ((Below.refl _ _).alloc (Nat.le_refl _) _)
      mapB := hsz1
      now := fun z => rfl
      waits := by simpa using World.ownsRow_nil _ _ _ 2
      waits2 := All2.nil
      imm := fun b h => h.elim
      lm := by omega
      wl := by simp [blk]
      wm := by simp [blk]
      il := fun h => h
      iM := fun h => h
      iw := by simp [blk] }

set_option maxHeartbeats 400000 in
theorem arm_any {B : Nat} {M I : Nat → Prop} {d : Nat} {s : DS} (w : World) (h : DiskAt B w M I d s) (n : Nat) (hn : n ≤ 1000000000) :
    Calls Tryd.prog 8 #[.pointer (some ⟨d, 0, none⟩), .int .i64 (n : Int)] w (fun e w' => (∃ v, e = .returned v) ∧ DiskAt B w' M I d { s with left := (n : Int) } ∧ w.grownBy w' (some d)) := by
  obtain ⟨lb, lcap, mb, wo, wcap, _, _, _, c3, _, _⟩ := h.cells
  have f3 := h.fz 3
  have hok := h.sok
  have H := Lib.hid (And.intro h hok)
  clear h hok
  go_enter Tryd.func8, Tryd.ntmps8
  go_wp2_with fail
  go_returns
  obtain ⟨o1, o2, o3, o4⟩ := H.out.2
  have := H.out.1.setHead 3 (.int .i64 (n : Int)) { s with left := (n : Int) } rfl rfl ⟨o1, o2, by simp only; omega, by simp only; omega⟩ (fun a b c => by simp)
  exact ⟨⟨_, rfl⟩, this⟩

theorem Upd.below {B : Nat} {w w' : World} {M I : Nat → Prop} {d : Nat} {s s' : DS} (h : DiskAt B w M I d s) (u : Upd B w M I d s' w') (hB : B ≤ w.heap.size) : Below B w w' := by
  obtain ⟨_, _, _, hk, _, _⟩ := u
  exact hk.below (fun i hi hm => by have := (h.lt i hm).1; omega) hB
/-- A disk of the call's own, behind some calls. -/
def Own (w0 w : World) (d : Nat) (s : DS) : Prop := ∃ M I, DiskAt w0.heap.size w M I d s ∧ Below w0.heap.size w0 w
theorem Own.step {w0 w w' : World} {M I : Nat → Prop} {d : Nat} {s s' : DS} (h : DiskAt w0.heap.size w M I d s) (hb : Below w0.heap.size w0 w) (u : Upd w0.heap.size w M I d s' w') : Own w0 w' d s' := by
  have hbu := Upd.below h u hb.size
  obtain ⟨M', I', hd, _⟩ := u
  exact ⟨M', I', hd, hb.trans hbu⟩
/-- A write of a sector that was laid just now. -/
theorem write_full {w0 wp w : World} {d : Nat} {s : DS} (h : Own w0 wp d s) (hst : s.steps ≤ 1000000000) (hWl : s.W.length ≤ 1000000000) (n : Int) (g : Nat) (b : List UInt8) (hb : b.length = 512) (hbp : Below wp.heap.size wp w) (hg : wp.heap.size ≤ g) (hat : At w (some ⟨g, 0, none⟩) (bytesV b)) :
    Calls Tryd.prog 36 #[.pointer (some ⟨d, 0, none⟩), .int .i64 n, .slice (some ⟨g, 0, none⟩) 512 512] w (fun e w' => e = .returned (.int .i64 ((s.write n b).1 : Int)) ∧ Own w0 w' d (s.write n b).2) := by
  obtain ⟨M, I, hd, hbel⟩ := h
  have hd' := hd.below hbp
  have hb' : Below w0.heap.size w0 w := hbel.trans (hbp.mono hbel.size)
  refine (write_any w hd' hst hWl n _ 512 b hb hat (fun g' hg' => by cases hg'; intro hm; have hlt := (hd.lt _ hm).2; simp only at hlt; omega) hb'.size).mono ?_
  rintro e w' ⟨rfl, hu⟩
  exact ⟨rfl, Own.step hd' hb' hu⟩
theorem barrier_own {w0 w : World} {d : Nat} {s : DS} (h : Own w0 w d s) (hst : s.steps ≤ 1000000000) (hWl : s.W.length ≤ 1000000000) :
    Calls Tryd.prog 18 #[.pointer (some ⟨d, 0, none⟩)] w (fun e w' => e = .returned (.int .i64 (s.barrier.1 : Int)) ∧ Own w0 w' d s.barrier.2) := by
  obtain ⟨M, I, hd, hbel⟩ := h
  refine (barrier_any w hd hst hWl hbel.size).mono ?_
  rintro e w' ⟨rfl, hu⟩
  exact ⟨rfl, Own.step hd hbel hu⟩
theorem crash_own {w0 wp w : World} {d : Nat} {s : DS} (h : Own w0 wp d s) (hWl : s.W.length ≤ 1000000000) (hbp : Below wp.heap.size wp w) (po : Option Addr) (pcap : Nat) (P : List Int) (hP : P.length ≤ 9223372036854775807) (hpat : At w po (P.map (Value.int .i64))) (hpo : ∀ b, blk po = some b → P ≠ [] → b < w0.heap.size ∨ wp.heap.size ≤ b) :
    Calls Tryd.prog 12 #[.pointer (some ⟨d, 0, none⟩), .slice po P.length pcap] w (fun e w' => (∃ v, e = .returned v) ∧ Own w0 w' d (s.crash P)) := by
  obtain ⟨M, I, hd, hbel⟩ := h
  have hd' := hd.below hbp
  have hb' : Below w0.heap.size w0 w := hbel.trans (hbp.mono hbel.size)
  refine (crash_any w hd' hWl hb'.size po pcap P hP hpat (fun b hb hn hm => by have := hd.lt _ hm; have := hpo b hb hn; omega)).mono ?_
  rintro e w' ⟨hv, hu⟩
  exact ⟨hv, Own.step hd' hb' hu⟩
theorem read_own {w0 w : World} {d : Nat} {s : DS} (h : Own w0 w d s) (n : Int) :
    Calls Tryd.prog 43 #[.pointer (some ⟨d, 0, none⟩), .int .i64 n] w (Read w (s.readE n)) := by
  obtain ⟨M, I, hd, _⟩ := h
  exact read_any w hd n
theorem Own.below {w0 w w' : World} {d : Nat} {s : DS} (h : Own w0 w d s) (hb : Below w.heap.size w w') : Own w0 w' d s := by
  obtain ⟨M, I, hd, hbel⟩ := h
  exact ⟨M, I, hd.below hb, hbel.trans (hb.mono hbel.size)⟩

end Go.Proofs.YtpeehagaiofobaaDoor
