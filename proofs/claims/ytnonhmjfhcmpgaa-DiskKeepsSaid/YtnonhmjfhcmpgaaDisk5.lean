/- The walks of disk.New, Arm, Off, Steps; and the laws' own 'full' and 'lasts'. -/
import Derived.Test.YtnonhmjfhcmpgaaDisk4
namespace Go.Proofs.Ytnonhmjfhcmpgaa
open Go.RowKit

theorem infoR : (Try.prog.info? 22).map (fun i => (i.zero, i.size, i.bytes)) = some (some (.slice none 0 0), 1, 24) := by kernel_rfl
theorem op_makeR {w : World} {ops : Array Oper} {rest : List Oper} {o : Oper} {a : Act} {Q : Exit → Act → World → Prop} (hgd : Region.wanted o (yielded ops a.tmps) = true) (x y : Operand) (ho : o.op = .makeSlice 49 x y) (n : Nat) (hx : a.eval x = .int .i64 (n : Int)) (hy : a.eval y = .int .i64 (n : Int)) (hn : n ≤ 1000000000)
    (h : ∀ w', w'.ownsRow w.heap.size 22 1 (.slice (some ⟨w.heap.size, 0, none⟩) n n) n (List.replicate n (.slice none 0 0)) → w.grownBy w' none → w'.heap.size = w.heap.size + 1 → wpList Try.prog ops Q rest (a.put o.dst (.slice (some ⟨w.heap.size, 0, none⟩) n n)) w') : wpList Try.prog ops Q (o :: rest) a w := by
  obtain ⟨i0, hi, hz0, hz1, hz2⟩ := info_parts infoR
  refine wpList_go hgd fun K hK => ?_
  have hr := run_make (P := Try.prog) w 49 22 i0 (.slice none 0 0) Try.underlying49 hi hz0 .i64 .i64 n n (by omega) (by omega) (by rw [hz2]; omega) (by omega)
  have e : (madeCells (Value.slice none 0 0).cells (n * 1)) = (List.replicate n (Value.slice none 0 0)).toArray := by
    apply Array.ext'
    rw [Nat.mul_one, show (Value.slice none 0 0).cells = #[Value.slice none 0 0] from rfl, toList_madeCells_one]
  simp only [Int.toNat_natCast, hz1, e] at hr
  unfold Oper.wp execOp
  simp only [ho, hx, hy, hr, Sem.run_bind, Sem.run_pure, Result.andThen_ok]
  refine hK _ _ (h _ ?_ (World.grownBy_alloc w _ none) (by simp))
  exact World.ownsRow_lit w (List.replicate n (Value.slice none 0 0)).toArray n (Nat.le_refl _) (by unfold maxLen; omega) (by simp)

/-- A new disk. -/
def Fresh (w : World) (n : Nat) (e : Ending) (w' : World) : Prop :=
  ∃ d M I, e = .returned (.tuple #[.pointer (some ⟨d, 0, none⟩), .int .i64 0]) ∧ DiskAt w.heap.size w' M I d ⟨List.replicate n none, [], -1, false, 0⟩ ∧ Below w.heap.size w w'

set_option maxRecDepth 100000 in
set_option maxHeartbeats 1000000 in
theorem new_any (n : Nat) (h0 : 0 < n) (h1 : n ≤ 65536) (w : World) :
    Calls Try.prog 6 #[.int .i64 (n : Int)] w (Fresh w n) := by
  have hmm := @run_makeMap Try.prog
  have h0' : ¬ (n : Int) < 1 := by omega
  have h1' : ¬ (65536 : Int) < (n : Int) := by omega
  go_enter Try.func6, Try.ntmps6
  go_wp2_with (refine op_makeR rfl _ _ rfl n rfl rfl (by omega) ?_; rintro w1 q1 q2 q3; have Q3 := Lib.hid q3; clear q3)
  go_returns
  have q3 := Q3.out
  have hb1 := grown_below q2
  have hsz1 := hb1.size
  have hw2 : Below w1.heap.size w1 ((w1.alloc (.map #[] 0)).alloc (.cells #[.slice (some ⟨w.heap.size, 0, none⟩) n n, .map (some w1.heap.size), .slice none 0 0, .int .i64 (-1), .bool false, .int .i64 0] 53)) := ((Below.refl _ _).alloc (Nat.le_refl _) _).alloc (by simp) _
  refine ⟨w1.heap.size + 1, fun b => b = w1.heap.size + 1 ∨ b = w.heap.size ∨ b = w1.heap.size ∨ blk none = some b, fun _ => False, rfl, ⟨w.heap.size, n, w1.heap.size, none, 0, List.replicate n (.slice none 0 0), fun _ => none, [], ?_, ?_, by omega, by omega, by omega, by simp [blk], fun h => h, ⟨by simp, by simp, by simp, by simp⟩, fun _ => Iff.rfl⟩, hb1.trans (hw2.mono hsz1)⟩
  · simpa using heap_alloc_new (w1.alloc (.map #[] 0)) (.cells #[.slice (some ⟨w.heap.size, 0, none⟩) n n, .map (some w1.heap.size), .slice none 0 0, .int .i64 (-1), .bool false, .int .i64 0] 53)
  · exact {
      lasts := by simpa using owns_below q1 hw2
      lasts2 := All2.replicate (R := LastV _ _) (a := .slice none 0 0) (b := none) rfl n
      map := (MapAt.made w1).below ((Below.refl _ _).alloc (Nat.le_refl _) _)
      mapB := hsz1
      now := fun z => rfl
      waits := by simpa using World.ownsRow_nil _ _ _ 2
      waits2 := All2.nil
      imm := fun b h => h.elim
      lm := by omega
      wl := by simp [blk]
      wm := by simp [blk]
      il := fun h => h
      iM := fun h => h
      iw := by simp [blk] }

set_option maxHeartbeats 400000 in
theorem off_any {B : Nat} {M I : Nat → Prop} {d : Nat} {s : DS} (w : World) (h : DiskAt B w M I d s) :
    Calls Try.prog 14 #[.pointer (some ⟨d, 0, none⟩)] w (fun e w' => e = .returned (.bool s.off) ∧ w = w') := by
  obtain ⟨lb, lcap, mb, wo, wcap, _, _, _, _, c4, _⟩ := h.cells
  generalize s.off = off at *
  clear h
  go_enter Try.func14, Try.ntmps14
  go_wp2_with fail
  go_returns
  exact ⟨rfl, rfl⟩
set_option maxHeartbeats 400000 in
theorem steps_any {B : Nat} {M I : Nat → Prop} {d : Nat} {s : DS} (w : World) (h : DiskAt B w M I d s) :
    Calls Try.prog 15 #[.pointer (some ⟨d, 0, none⟩)] w (fun e w' => e = .returned (.int .i64 (s.steps : Int)) ∧ w = w') := by
  obtain ⟨lb, lcap, mb, wo, wcap, _, _, _, _, _, c5⟩ := h.cells
  clear h
  go_enter Try.func15, Try.ntmps15
  go_wp2_with fail
  go_returns
  exact ⟨rfl, rfl⟩
set_option maxHeartbeats 400000 in
theorem arm_any {B : Nat} {M I : Nat → Prop} {d : Nat} {s : DS} (w : World) (h : DiskAt B w M I d s) (n : Nat) (hn : n ≤ 1000000000) :
    Calls Try.prog 13 #[.pointer (some ⟨d, 0, none⟩), .int .i64 (n : Int)] w (fun e w' => (∃ v, e = .returned v) ∧ DiskAt B w' M I d { s with left := (n : Int) } ∧ w.grownBy w' (some d)) := by
  obtain ⟨lb, lcap, mb, wo, wcap, _, _, _, c3, _, _⟩ := h.cells
  have f3 := h.fz 3
  have hok := h.sok
  have H := Lib.hid (And.intro h hok)
  clear h hok
  go_enter Try.func13, Try.ntmps13
  go_wp2_with fail
  go_returns
  obtain ⟨o1, o2, o3, o4⟩ := H.out.2
  have := H.out.1.setHead 3 (.int .i64 (n : Int)) { s with left := (n : Int) } rfl rfl ⟨o1, o2, by simp only; omega, by simp only; omega⟩ (fun a b c => by simp)
  exact ⟨⟨_, rfl⟩, this⟩

def full (x : UInt8) : List UInt8 := List.replicate 512 x
theorem full_length (x : UInt8) : (full x).length = 512 := List.length_replicate
set_option maxRecDepth 100000 in
set_option maxHeartbeats 1000000 in
theorem full_any (x : UInt8) (w : World) :
    Calls Try.prog 9 #[.int .u8 (x.toNat : Int)] w (fun e w' => ∃ g, e = .returned (.slice (some ⟨g, 0, none⟩) 512 512) ∧ w.heap.size ≤ g ∧ At w' (some ⟨g, 0, none⟩) (bytesV (full x)) ∧ w'.ownsRow w.heap.size 5 1 (.slice (some ⟨g, 0, none⟩) 512 512) 512 (bytesV (full x)) ∧ Below w.heap.size w w') := by
  have HF := Lib.hid (show ∀ k, k < 512 → (List.replicate k x ++ List.replicate (512 - k) 0).set k x = List.replicate (k + 1) x ++ List.replicate (512 - (k + 1)) 0 by
    intro k hk
    rw [List.set_append, if_neg (by simp), List.length_replicate, Nat.sub_self, show 512 - k = (512 - (k + 1)) + 1 by omega, List.replicate_succ, List.set_cons_zero, List.replicate_succ', List.append_assoc]
    rfl)
  have hx := x.toNat_lt
  go_enter Try.func9, Try.ntmps9
  go_wp2_with (refine op_make rfl _ _ rfl 512 rfl rfl (by decide) ?_; rintro w1 q1 q2)
  have H1 := Lib.hid (And.intro q1 (grown_below q2))
  clear q1 q2
  generalize hg : w.heap.size = g at *
  have HG := Lib.hid hg
  clear hg
  go_loopw [4] (fun j wr => ∃ k : Nat, k ≤ 512 ∧ j = .int .i64 (k : Int) ∧ wr.ownsRow g 5 1 (.slice (some ⟨g, 0, none⟩) 512 512) 512 (bytesV (List.replicate k x ++ List.replicate (512 - k) 0)) ∧ Below g w wr) (fun j _ => 512 - (intOf j).toNat)
  case atStart => exact ⟨0, by omega, rfl, by simpa using H1.out.1, H1.out.2⟩
  case round =>
    obtain ⟨k, hk, rfl, hown, hbel⟩ := hrel
    have H := Lib.hid (And.intro hown hbel)
    clear hown hbel
    by_cases hlt : k < 512
    · have hcell : ∃ u : Nat, wr.cell? ⟨g, k, none⟩ = some (.int .u8 (u : Int)) := by
        refine ⟨_, (H.out.1.cellAt k (by omega)).trans (bytesV_get _ k (by simp; omega))⟩
      obtain ⟨u, hcell⟩ := hcell
      have hfr : wr.frozen? ⟨g, k, none⟩ = false := H.out.1.frozenAt k
      have HS := Lib.hid (HF.out k hlt)
      go_wp2_with fail
      go_roundw
      case rel =>
        refine ⟨k + 1, by omega, by simp, ?_, H.out.2.setCell (Nat.le_refl _) _⟩
        rw [← HS.out, bytesV_set]
        exact (H.out.1.stored k _).1
      case measure => simp [intOf]; omega
    · obtain rfl : k = 512 := by omega
      go_wp2_with fail
      go_ret
      have h1 := H.out.1
      rw [show 512 - 512 = 0 from rfl, List.replicate_zero, List.append_nil] at h1
      exact ⟨g, rfl, Nat.le_of_eq HG.out, At.own h1, by rw [HG.out]; exact h1, by rw [HG.out]; exact H.out.2⟩

theorem Upd.below {B : Nat} {w w' : World} {M I : Nat → Prop} {d : Nat} {s s' : DS} (h : DiskAt B w M I d s) (u : Upd B w M I d s' w') (hB : B ≤ w.heap.size) : Below B w w' := by
  obtain ⟨_, _, _, hk, _, _⟩ := u
  exact hk.below (fun i hi hm => by have := (h.lt i hm).1; omega) hB
/-- A disk of the call's own, behind some calls. -/
def Own (w0 w : World) (d : Nat) (s : DS) : Prop := ∃ M I, DiskAt w0.heap.size w M I d s ∧ Below w0.heap.size w0 w
theorem Own.step {w0 w w' : World} {M I : Nat → Prop} {d : Nat} {s s' : DS} (h : DiskAt w0.heap.size w M I d s) (hb : Below w0.heap.size w0 w) (u : Upd w0.heap.size w M I d s' w') : Own w0 w' d s' := by
  have hbu := Upd.below h u hb.size
  obtain ⟨M', I', hd, _⟩ := u
  exact ⟨M', I', hd, hb.trans hbu⟩
/-- A write of a sector that was laid just now. -/
theorem write_full {w0 wp w : World} {d : Nat} {s : DS} (h : Own w0 wp d s) (hst : s.steps ≤ 1000000000) (hWl : s.W.length ≤ 1000000000) (n : Int) (g : Nat) (b : List UInt8) (hb : b.length = 512) (hbp : Below wp.heap.size wp w) (hg : wp.heap.size ≤ g) (hat : At w (some ⟨g, 0, none⟩) (bytesV b)) :
    Calls Try.prog 8 #[.pointer (some ⟨d, 0, none⟩), .int .i64 n, .slice (some ⟨g, 0, none⟩) 512 512] w (fun e w' => e = .returned (.int .i64 ((s.write n b).1 : Int)) ∧ Own w0 w' d (s.write n b).2) := by
  obtain ⟨M, I, hd, hbel⟩ := h
  have hd' := hd.below hbp
  have hb' : Below w0.heap.size w0 w := hbel.trans (hbp.mono hbel.size)
  refine (write_any w hd' hst hWl n _ 512 b hb hat (fun g' hg' => by cases hg'; intro hm; have hlt := (hd.lt _ hm).2; simp only at hlt; omega) hb'.size).mono ?_
  rintro e w' ⟨rfl, hu⟩
  exact ⟨rfl, Own.step hd' hb' hu⟩
theorem barrier_own {w0 w : World} {d : Nat} {s : DS} (h : Own w0 w d s) (hst : s.steps ≤ 1000000000) (hWl : s.W.length ≤ 1000000000) :
    Calls Try.prog 10 #[.pointer (some ⟨d, 0, none⟩)] w (fun e w' => e = .returned (.int .i64 (s.barrier.1 : Int)) ∧ Own w0 w' d s.barrier.2) := by
  obtain ⟨M, I, hd, hbel⟩ := h
  refine (barrier_any w hd hst hWl hbel.size).mono ?_
  rintro e w' ⟨rfl, hu⟩
  exact ⟨rfl, Own.step hd hbel hu⟩
theorem crash_own {w0 wp w : World} {d : Nat} {s : DS} (h : Own w0 wp d s) (hWl : s.W.length ≤ 1000000000) (hbp : Below wp.heap.size wp w) (po : Option Addr) (pcap : Nat) (P : List Int) (hP : P.length ≤ 9223372036854775807) (hpat : At w po (P.map (Value.int .i64))) (hpo : ∀ b, blk po = some b → P ≠ [] → b < w0.heap.size ∨ wp.heap.size ≤ b) :
    Calls Try.prog 11 #[.pointer (some ⟨d, 0, none⟩), .slice po P.length pcap] w (fun e w' => (∃ v, e = .returned v) ∧ Own w0 w' d (s.crash P)) := by
  obtain ⟨M, I, hd, hbel⟩ := h
  have hd' := hd.below hbp
  have hb' : Below w0.heap.size w0 w := hbel.trans (hbp.mono hbel.size)
  refine (crash_any w hd' hWl hb'.size po pcap P hP hpat (fun b hb hn hm => by have := hd.lt _ hm; have := hpo b hb hn; omega)).mono ?_
  rintro e w' ⟨hv, hu⟩
  exact ⟨hv, Own.step hd' hb' hu⟩
theorem read_own {w0 w : World} {d : Nat} {s : DS} (h : Own w0 w d s) (n : Int) :
    Calls Try.prog 12 #[.pointer (some ⟨d, 0, none⟩), .int .i64 n] w (Read w (s.readE n)) := by
  obtain ⟨M, I, hd, _⟩ := h
  exact read_any w hd n
theorem Own.below {w0 w w' : World} {d : Nat} {s : DS} (h : Own w0 w d s) (hb : Below w.heap.size w w') : Own w0 w' d s := by
  obtain ⟨M, I, hd, hbel⟩ := h
  exact ⟨M, I, hd.below hb, hbel.trans (hb.mono hbel.size)⟩

theorem At.ex0 {w : World} {ao : Option Addr} {l : List UInt8} (h : At w ao (bytesV l)) (k : Nat) (hk : k < l.length) : ∃ b o, ao = some ⟨b, o, none⟩ ∧ w.cell? ⟨b, o + k, none⟩ = some (.int .u8 ((l[k]).toNat : Int)) := by
  rcases h with e | ⟨b, o, rfl, hc⟩
  · have := congrArg List.length e; rw [bytesV_length, List.length_nil] at this; omega
  · exact ⟨b, o, rfl, hc k _ (bytesV_get l k hk)⟩
/-- The states that 'lasts' goes through. -/
def la1 : DS := ⟨[none], [], -1, false, 0⟩
theorem la_w1 : la1.write 0 (full 1) = (0, ⟨[none], [(0, full 1)], -1, false, 1⟩) := by simp [la1, DS.write, DS.spend, inR]
theorem la_b1 : (⟨[none], [(0, full 1)], -1, false, 1⟩ : DS).barrier = (0, ⟨[some (full 1)], [], -1, false, 2⟩) := by simp [DS.barrier, DS.spend, DS.settled, settleL]
theorem la_w2 : (⟨[some (full 1)], [], -1, false, 2⟩ : DS).write 0 (full 2) = (0, ⟨[some (full 1)], [(0, full 2)], -1, false, 3⟩) := by simp [DS.write, DS.spend, inR]
theorem la_w3 : (⟨[some (full 1)], [(0, full 2)], -1, false, 3⟩ : DS).write 0 (full 3) = (0, ⟨[some (full 1)], [(0, full 2), (0, full 3)], -1, false, 4⟩) := by simp [DS.write, DS.spend, inR]
theorem la_c : (⟨[some (full 1)], [(0, full 2), (0, full 3)], -1, false, 4⟩ : DS).crash [1] = ⟨[some (full 2)], [], -1, false, 4⟩ := by simp [DS.crash, settleL, kpick, List.range_succ]
theorem la_r : (⟨[some (full 2)], [], -1, false, 4⟩ : DS).readE 0 = (0, full 2) := by simp [DS.readE, DS.read, inR, lastW]

set_option maxRecDepth 100000 in
set_option maxHeartbeats 1000000 in
theorem lasts_any (w : World) : Calls Try.prog 7 #[] w (fun e w' => e = .returned (.bool true) ∧ Below w.heap.size w w') := by
  go_enter Try.func7, Try.ntmps7
  go_wp2_with fail
  refine (new_any 1 (by decide) (by decide) w).mono ?_
  rintro e w1 ⟨d, M, I, rfl, hd, hb1⟩
  have H1 := Lib.hid (show Own w w1 d la1 from ⟨M, I, hd, hb1⟩)
  clear hd hb1
  go_wp2_with fail
  refine (full_any 1 w1).mono ?_
  rintro e w2 ⟨g2, rfl, hg2, hat2, _, hb2⟩
  have A2 := Lib.hid (And.intro hg2 (And.intro hat2 hb2))
  clear hg2 hat2 hb2
  go_wp2_with fail
  refine (write_full H1.out (by decide) (by decide) 0 g2 (full 1) (full_length 1) A2.out.2.2 A2.out.1 A2.out.2.1).mono ?_
  rintro e w3 ⟨rfl, h3⟩
  rw [la_w1] at h3 ⊢
  have H3 := Lib.hid h3
  clear h3
  go_wp2_with fail
  refine (barrier_own H3.out (by decide) (by decide)).mono ?_
  rintro e w4 ⟨rfl, h4⟩
  rw [la_b1] at h4 ⊢
  have H4 := Lib.hid h4
  clear h4
  go_wp2_with fail
  refine (full_any 2 w4).mono ?_
  rintro e w5 ⟨g5, rfl, hg5, hat5, _, hb5⟩
  have A5 := Lib.hid (And.intro hg5 (And.intro hat5 hb5))
  clear hg5 hat5 hb5
  go_wp2_with fail
  refine (write_full H4.out (by decide) (by decide) 0 g5 (full 2) (full_length 2) A5.out.2.2 A5.out.1 A5.out.2.1).mono ?_
  rintro e w6 ⟨rfl, h6⟩
  rw [la_w2] at h6 ⊢
  have H6 := Lib.hid h6
  clear h6
  go_wp2_with fail
  refine (full_any 3 w6).mono ?_
  rintro e w7 ⟨g7, rfl, hg7, hat7, _, hb7⟩
  have A7 := Lib.hid (And.intro hg7 (And.intro hat7 hb7))
  clear hg7 hat7 hb7
  go_wp2_with fail
  refine (write_full H6.out (by decide) (by decide) 0 g7 (full 3) (full_length 3) A7.out.2.2 A7.out.1 A7.out.2.1).mono ?_
  rintro e w8 ⟨rfl, h8⟩
  rw [la_w3] at h8 ⊢
  have H8 := Lib.hid h8
  clear h8
  go_wp2_with fail
  have hbA : Below w8.heap.size w8 (w8.alloc (.cells #[.int .i64 1] 3)) := (Below.refl _ _).alloc (Nat.le_refl _) _
  refine (crash_own H8.out (by decide) hbA (some ⟨w8.heap.size, 0, none⟩) 1 [1] (by decide) (At.new w8 #[.int .i64 1] _) (fun b hb _ => by cases hb; exact .inr (Nat.le_refl _))).mono ?_
  rintro e w9 ⟨⟨v, rfl⟩, h9⟩
  rw [la_c] at h9
  have H9 := Lib.hid h9
  clear h9 hbA
  go_wp2_with fail
  refine (read_own H9.out 0).mono ?_
  rintro e w10 ⟨ao, cap, rfl, hown, hb10⟩
  rw [la_r] at hown ⊢
  rw [full_length] at hown ⊢
  have hat := At.own hown
  obtain ⟨b, o, rfl, hcell⟩ := At.ex0 hat 0 (by rw [full_length]; decide)
  have HF := Lib.hid (And.intro hown (And.intro hb10 H9.out))
  rw [Nat.add_zero, show ((full 2)[0]'(by rw [full_length]; decide)).toNat = 2 by simp [full]] at hcell
  clear hown hb10 hat
  go_wp2_with fail
  go_ret
  obtain ⟨M, I, _, hbel⟩ := HF.out.2.2
  exact ⟨rfl, hbel.trans (HF.out.2.1.mono hbel.size)⟩

end Go.Proofs.Ytnonhmjfhcmpgaa
