/- The walk of a log's Format. -/
import Derived.Test.YtpeehagaiofobaaDoorWal7
namespace Go.Proofs.YtpeehagaiofobaaDoor
open Go.RowKit

/-- The load of a place that lies in a block. -/
theorem seq_ldq {o : Oper} {x : Operand} {a : Act} {w : World} (ho : o.op = .load 55 x) {g d f cnt : Nat} (hx : a.eval x = .pointer (some ⟨g, 0, none⟩)) (hc : w.cell? ⟨g, 0, none⟩ = some (.pointer (some ⟨d, 0, none⟩)) ∧ w.cell? ⟨g, 1, none⟩ = some (.int .i64 (f : Int)) ∧ w.cell? ⟨g, 2, none⟩ = some (.int .i64 (cnt : Int))) :
    ∀ w', Below w.heap.size w w' → (execOp a.eval o).run Tryd.prog w' = .ok (.value (placeV d f cnt)) w' := by
  intro w' hb
  have hlt := World.block_lt_of_cell? (a := ⟨g, 0, none⟩) w hc.1
  have c0 : w'.cell? ⟨g, 0, none⟩ = _ := (World.cell?_of_block (hb.block g hlt)).trans hc.1
  have c1 : w'.cell? ⟨g, 1, none⟩ = _ := (World.cell?_of_block (hb.block g hlt)).trans hc.2.1
  have c2 : w'.cell? ⟨g, 2, none⟩ = _ := (World.cell?_of_block (hb.block g hlt)).trans hc.2.2
  have hu := Tryd.underlying55
  unfold execOp placeV
  simp only [ho, hx]
  go_simp

/-- Noughts written, one sector behind the other. -/
def zerosW (f k : Nat) : List (Nat × List UInt8) := (List.range k).map fun j => (f + 1 + j, zeros)
theorem zerosW_succ (f k : Nat) : zerosW f (k + 1) = zerosW f k ++ [(f + 1 + k, zeros)] := by simp [zerosW, List.range_succ]
theorem zerosW_length (f k : Nat) : (zerosW f k).length = k := by simp [zerosW]
def fmtS (s : DS) (f k : Nat) : DS := { s with W := s.W ++ zerosW f k, steps := s.steps + k }
theorem fmtS_step (s : DS) (f k : Nat) (hoff : s.off = false) (hl : s.left = -1) (hk : f + 1 + k < s.L.length) : (fmtS s f k).write ((f + (k + 1) : Nat) : Int) zeros = (0, fmtS s f (k + 1)) := by
  rw [show f + (k + 1) = f + 1 + k by omega, write_on (fmtS s f k) _ _ hoff hk, if_neg (by simp [fmtS, hl])]
  simp [fmtS, zerosW_succ, hl, dec, Nat.add_assoc]
theorem fmtS_writes (s : DS) (f : Nat) (hoff : s.off = false) (hl : s.left = -1) : ∀ k, f + 1 + k ≤ s.L.length → s.writes (zerosW f k) = (0, fmtS s f k)
  | 0, _ => by simp [zerosW, DS.writes, fmtS]
  | k + 1, hk => by
    rw [zerosW_succ, writes_snoc, fmtS_writes s f hoff hl k (by omega), if_pos rfl]
    have := fmtS_step s f k hoff hl (by omega)
    rw [show f + (k + 1) = f + 1 + k by omega] at this
    exact this
theorem barrier_ok (s : DS) (hoff : s.off = false) (hl : s.left = -1) : ∃ s', s.barrier = (0, s') ∧ s'.off = false ∧ s'.left = -1 ∧ s'.L.length = s.L.length ∧ s'.W = [] ∧ s'.steps = s.steps + 1 := by
  have h := barrier_on s hoff
  rw [if_neg (by rw [hl]; decide)] at h
  exact ⟨_, h, hoff, by simp only [hl]; rfl, by simp only [settleL_length], rfl, rfl⟩
theorem write_ok (s : DS) (n : Nat) (b : List UInt8) (hoff : s.off = false) (hl : s.left = -1) (hn : n < s.L.length) : ∃ s', s.write (n : Int) b = (0, s') ∧ s'.off = false ∧ s'.left = -1 ∧ s'.L.length = s.L.length ∧ s'.W.length = s.W.length + 1 ∧ s'.steps = s.steps + 1 := by
  have h := write_on s n b hoff hn
  rw [if_neg (by rw [hl]; decide)] at h
  exact ⟨_, h, hoff, by simp only [hl]; rfl, rfl, by simp, rfl⟩
theorem format_eq (s : DS) (f cnt : Nat) (hoff : s.off = false) (hl : s.left = -1) (hc : 3 ≤ cnt) (hk : f + cnt ≤ s.L.length) : ∃ s2 s3 s4, (fmtS s f (cnt - 1)).barrier = (0, s2) ∧ s2.write (f : Int) (secH 1) = (0, s3) ∧ s3.barrier = (0, s4) ∧ formatP f cnt s = (0, s4) ∧
    s2.steps ≤ s.steps + cnt ∧ s2.W.length ≤ 0 ∧ s3.steps ≤ s.steps + cnt + 1 ∧ s3.W.length ≤ 1 := by
  obtain ⟨s2, h1, o2, l2, n2, w2, t2⟩ := barrier_ok (fmtS s f (cnt - 1)) hoff hl
  have n2' : s2.L.length = s.L.length := n2
  obtain ⟨s3, h2, o3, l3, n3, w3, t3⟩ := write_ok s2 f (secH 1) o2 l2 (by omega)
  obtain ⟨s4, h3, o4, l4, n4, w4, t4⟩ := barrier_ok s3 o3 l3
  have hw := fmtS_writes s f hoff hl (cnt - 1) (by omega)
  have ht : (fmtS s f (cnt - 1)).steps = s.steps + (cnt - 1) := rfl
  refine ⟨s2, s3, s4, h1, h2, h3, ?_, by omega, by rw [w2]; simp, by omega, by rw [w3, w2]; simp⟩
  unfold formatP
  rw [show ((List.range (cnt - 1)).map fun k => (f + 1 + k, zeros)) = zerosW f (cnt - 1) from rfl, hw]
  simp only [ne_eq, not_true_eq_false, if_false, h1, h2, h3]

theorem formatBad_any {B : Nat} {M I : Nat → Prop} {d : Nat} {s : DS} (w : World) (h : DiskAt B w M I d s) (hn : s.L.length ≤ 1000000000) (f c : Int) (hf0 : -9223372036854775808 ≤ f) (hf1 : f ≤ 9223372036854775807) (hc0 : -9223372036854775808 ≤ c) (hc1 : c ≤ 9223372036854775807) (hr : rightB s.L.length f c = false) :
    Calls Tryd.prog 6 #[.pointer (some ⟨d, 0, none⟩), .int .i64 f, .int .i64 c] w (fun e w' => e = .returned (.int .i64 1) ∧ Below w.heap.size w w') := by
  have H := Lib.hid (And.intro h hr)
  clear h hr
  go_enter Tryd.func6, Tryd.ntmps6
  go_wp2_with fail
  have hb0 : Below w.heap.size w (w.alloc (.cells #[.pointer (some ⟨d, 0, none⟩), .int .i64 f, .int .i64 c] 55)) := (Below.refl _ w).alloc (Nat.le_refl _) _
  refine (right_any _ (H.out.1.below hb0) hn f c hf0 hf1 hc0 hc1).mono ?_
  rintro e w1 ⟨rfl, hb1⟩
  rw [H.out.2]
  have HB := Lib.hid (hb0.trans (hb1.mono hb0.size))
  clear hb0 hb1
  go_wp2_with fail
  go_returns
  exact ⟨rfl, HB.out⟩
theorem formatNil_any (w : World) (f c : Int) :
    Calls Tryd.prog 6 #[.pointer none, .int .i64 f, .int .i64 c] w (fun e w' => e = .returned (.int .i64 1) ∧ Below w.heap.size w w') := by
  go_enter Tryd.func6, Tryd.ntmps6
  go_wp2_with fail
  have hb0 : Below w.heap.size w (w.alloc (.cells #[.pointer none, .int .i64 f, .int .i64 c] 55)) := (Below.refl _ w).alloc (Nat.le_refl _) _
  refine (rightnil_any f c _).mono ?_
  rintro e w1 ⟨rfl, hb1⟩
  have HB := Lib.hid (hb0.trans (hb1.mono hb0.size))
  clear hb0 hb1
  go_wp2_with fail
  go_returns
  exact ⟨rfl, HB.out⟩

set_option maxRecDepth 100000 in
set_option maxHeartbeats 2000000 in
theorem format_any {B : Nat} {M I : Nat → Prop} {d : Nat} {s : DS} (w : World) (h : DiskAt B w M I d s) (hoff : s.off = false) (hleft : s.left = -1) (hst : s.steps ≤ 900000000) (hWl : s.W.length ≤ 900000000) (f cnt : Nat) (hc : 3 ≤ cnt) (hk : f + cnt ≤ s.L.length) (hL : s.L.length ≤ 1000000) (ht : Tab w) (hB0 : 0 < B) (hB : B ≤ w.heap.size) :
    Calls Tryd.prog 6 #[.pointer (some ⟨d, 0, none⟩), .int .i64 (f : Int), .int .i64 (cnt : Int)] w (fun e w' => e = .returned (.int .i64 0) ∧ Upd B w M I d (formatP f cnt s).2 w') := by
  obtain ⟨s2, s3, s4, e2, e3, e4, e5, b2, b3, b4, b5⟩ := format_eq s f cnt hoff hleft hc hk
  have HE := Lib.hid (And.intro e2 (And.intro e3 (And.intro e4 e5)))
  have H := Lib.hid (And.intro h (And.intro hoff (And.intro hleft ht)))
  have hright : rightB s.L.length (f : Int) (cnt : Int) = true := decide_eq_true ⟨by omega, by omega, by omega, by omega⟩
  have HRI := Lib.hid hright
  have HML := Lib.hid h.lt
  clear h hoff hleft ht e2 e3 e4 e5 hright
  go_enter Tryd.func6, Tryd.ntmps6
  go_wp2_with fail
  have hr := heap_alloc_new w (.cells #[.pointer (some ⟨d, 0, none⟩), .int .i64 (f : Int), .int .i64 (cnt : Int)] 55)
  generalize hW : w.alloc (.cells #[.pointer (some ⟨d, 0, none⟩), .int .i64 (f : Int), .int .i64 (cnt : Int)] 55) = W at *
  have hbW : Below w.heap.size w W := by rw [← hW]; exact (Below.refl _ w).alloc (Nat.le_refl _) _
  have hszW : w.heap.size < W.heap.size := (Array.getElem?_eq_some_iff.1 hr).1
  have HW := Lib.hid (And.intro hbW hr)
  clear hr hW hbW
  refine (right_any W (H.out.1.below HW.out.1) (by omega) (f : Int) (cnt : Int) (by omega) (by omega) (by omega) (by omega)).mono ?_
  rintro x w1 ⟨rfl, hb1⟩
  rw [HRI.out]
  have hb01 : Below w.heap.size w w1 := HW.out.1.trans (hb1.mono (by omega))
  have hrow1 : w1.heap[w.heap.size]? = some (.cells #[.pointer (some ⟨d, 0, none⟩), .int .i64 (f : Int), .int .i64 (cnt : Int)] 55 (0, 0)) := (hb1.block _ hszW).trans HW.out.2
  have hsz1 := hb1.size
  have H1 := Lib.hid (And.intro hb01 hrow1)
  clear hb1 hb01 hrow1
  go_wp2_with fail
  go_loopw [8] (fun v wr => ∃ k : Nat, k ≤ cnt - 1 ∧ v = .int .i64 ((k + 1 : Nat) : Int) ∧ Upd B w M I d (fmtS s f k) wr ∧ wr.heap[w.heap.size]? = some (.cells #[.pointer (some ⟨d, 0, none⟩), .int .i64 (f : Int), .int .i64 (cnt : Int)] 55 (0, 0)) ∧ w.heap.size < wr.heap.size ∧ (∃ M' I', DiskAt B wr M' I' d (fmtS s f k) ∧ ¬ M' w.heap.size ∧ ¬ I' w.heap.size ∧ Keeps M w wr ∧ (∀ b, M' b → M b ∨ w.heap.size ≤ b) ∧ (∀ b, I' b → I b ∨ w.heap.size ≤ b))) (fun v _ => cnt + 1 - (intOf v).toNat)
  case atStart =>
    have h1 := H.out.1.below H1.out.1
    have e0 : fmtS s f 0 = s := by simp [fmtS, zerosW]
    have hu : Upd B w M I d (fmtS s f 0) w1 := by rw [e0]; exact ⟨M, I, h1, Keeps.of_below H1.out.1, fun _ h => .inl h, fun _ h => .inl h⟩
    exact ⟨0, by omega, rfl, hu, H1.out.2, by omega, M, I, by rw [e0]; exact h1, fun h => by have := (HML.out _ h).2; omega, fun h => by have := (H.out.1.ltI _ h).2; omega, Keeps.of_below H1.out.1, fun _ h => .inl h, fun _ h => .inl h⟩
  case round =>
    obtain ⟨k, hk1, rfl, hu, hrow, hszr, M', I', hd, hMg, hIg, hK, hm, hi⟩ := hrel
    have HO := Lib.hid (And.intro hu (And.intro hrow (And.intro hd (And.intro hMg (And.intro hIg (And.intro hK (And.intro hm hi)))))))
    have q0 := cell_of_row wr w.heap.size 0 _ _ (0, 0) hrow
    have q1 := cell_of_row wr w.heap.size 1 _ _ (0, 0) hrow
    have q2 := cell_of_row wr w.heap.size 2 _ _ (0, 0) hrow
    simp only [List.getElem?_toArray, List.getElem?_cons_succ, List.getElem?_cons_zero] at q0 q1 q2
    have HQ := Lib.hid (And.intro q0 (And.intro q1 q2))
    clear hu hrow hd hMg hIg hK hm hi
    have hstk : (fmtS s f k).steps ≤ 1000000000 := by simp only [fmtS]; omega
    have hWk : (fmtS s f k).W.length ≤ 1000000000 := by simp only [fmtS, List.length_append, zerosW_length]; omega
    have HSW := Lib.hid (And.intro hstk hWk)
    clear hstk hWk
    by_cases hlt : k < cnt - 1
    · have hcond : decide ((k : Int) + 1 < (cnt : Int)) = true := decide_eq_true (by omega)
      have HST := Lib.hid (fmtS_step s f k H.out.2.1 H.out.2.2.1 (by omega))
      go_wp2_with fail
      refine (wwriteZ_any wr HO.out.2.2.1 HSW.out.1 HSW.out.2 f cnt (k + 1) _ (by omega) (by omega) (by omega) none 0 0 [] rfl (by simp) (At.nil _ _) (by omega)).mono ?_
      rintro x w2 ⟨rfl, hu2, _⟩
      rw [show padZ ([] : List UInt8) = zeros from rfl, HST.out] at hu2 ⊢
      obtain ⟨M2, I2, h2, K2, m2, i2⟩ := hu2
      have hK2 : Keeps M w w2 := HO.out.2.2.2.2.2.1.trans K2 fun i hi h => (HO.out.2.2.2.2.2.2.1 i h).resolve_right (by omega)
      have hrow2 := (K2.block _ hszr HO.out.2.2.2.1).trans HO.out.2.1
      have H2 := Lib.hid (And.intro h2 (And.intro hK2 (And.intro m2 (And.intro i2 hrow2))))
      have hsz2 := K2.size
      clear h2 hK2 m2 i2 hrow2 K2 q0 q1 q2
      go_wp2_with fail
      go_roundw
      case rel =>
        have hm2 : ∀ b, M2 b → M b ∨ w.heap.size ≤ b := fun b hb => by
          rcases H2.out.2.2.1 b hb with h | h
          · exact HO.out.2.2.2.2.2.2.1 b h
          · exact .inr (by omega)
        have hi2 : ∀ b, I2 b → I b ∨ w.heap.size ≤ b := fun b hb => by
          rcases H2.out.2.2.2.1 b hb with h | h
          · exact HO.out.2.2.2.2.2.2.2 b h
          · exact .inr (by omega)
        refine ⟨k + 1, by omega, by simp, ⟨M2, I2, H2.out.1, H2.out.2.1, hm2, hi2⟩, H2.out.2.2.2.2, by omega, M2, I2, H2.out.1, fun h => ?_, fun h => ?_, H2.out.2.1, hm2, hi2⟩
        · rcases H2.out.2.2.1 _ h with h | h
          · exact HO.out.2.2.2.1 h
          · omega
        · rcases H2.out.2.2.2.1 _ h with h | h
          · exact HO.out.2.2.2.2.1 h
          · omega
      case measure => simp [intOf]; omega
    · obtain rfl : k = cnt - 1 := by omega
      have hcond : decide (((cnt - 1 : Nat) : Int) + 1 < (cnt : Int)) = false := decide_eq_false (by omega)
      clear q0 q1 q2
      go_wp2_with fail
      refine (barrier_any wr HO.out.2.2.1 HSW.out.1 HSW.out.2 (by omega)).mono ?_
      rintro x w2 ⟨rfl, hu2⟩
      rw [HE.out.1] at hu2 ⊢
      obtain ⟨M2, I2, h2, K2, m2, i2⟩ := hu2
      have hK2 : Keeps M w w2 := HO.out.2.2.2.2.2.1.trans K2 fun i hi h => (HO.out.2.2.2.2.2.2.1 i h).resolve_right (by omega)
      have hrow2 := (K2.block _ hszr HO.out.2.2.2.1).trans HO.out.2.1
      have hm2 : ∀ b, M2 b → M b ∨ w.heap.size ≤ b := fun b hb => by
        rcases m2 b hb with h | h
        · exact HO.out.2.2.2.2.2.2.1 b h
        · exact .inr (by omega)
      have hi2 : ∀ b, I2 b → I b ∨ w.heap.size ≤ b := fun b hb => by
        rcases i2 b hb with h | h
        · exact HO.out.2.2.2.2.2.2.2 b h
        · exact .inr (by omega)
      have H2 := Lib.hid (And.intro h2 (And.intro hK2 (And.intro hm2 (And.intro hi2 hrow2))))
      have hsz2 := K2.size
      clear h2 hK2 m2 i2 hm2 hi2 K2
      have q0 := cell_of_row w2 w.heap.size 0 _ _ (0, 0) hrow2
      have q1 := cell_of_row w2 w.heap.size 1 _ _ (0, 0) hrow2
      have q2 := cell_of_row w2 w.heap.size 2 _ _ (0, 0) hrow2
      simp only [List.getElem?_toArray, List.getElem?_cons_succ, List.getElem?_cons_zero] at q0 q1 q2
      have HQ2 := Lib.hid (And.intro q0 (And.intro q1 q2))
      have HT2 := Lib.hid (Tab.keepsW (B := B) H.out.2.2.2 H2.out.2.1 fun h => by have := (HML.out 0 h).1; omega)
      clear hrow2 q0 q1 q2
      go_wp2_with fail
      refine seql_start [2, 3] (by kernel_rfl) ?_
      refine seql_take 0 rfl (by kernel_rfl) (fun _ _ _ h => h) (by rfl) (seq_ldq rfl rfl ((show w2.drew.cell? ⟨w.heap.size, 0, none⟩ = some (.pointer (some ⟨d, 0, none⟩)) ∧ w2.drew.cell? ⟨w.heap.size, 1, none⟩ = some (.int .i64 (f : Int)) ∧ w2.drew.cell? ⟨w.heap.size, 2, none⟩ = some (.int .i64 (cnt : Int)) from HQ2.out))) ?_
      try simp only [List.getElem_toArray, List.getElem_cons_succ, List.getElem_cons_zero, Act.put, List.setIfInBounds_toArray, List.set_cons_zero, List.set_cons_succ]
      refine seql_run 1 rfl (by kernel_rfl) (by rfl) (fun KK hKK => ?_)
      go_wp2_with fail
      refine (headZ_any 1 _ rfl (by omega) w2.drew (HT2.out.below (Below.refl _ w2).drew)).mono ?_
      rintro x w3 ⟨ho, hcap, rfl, hown3, hb3⟩
      have hhl := headL_length 1 (by omega)
      have hb23 : Below w2.heap.size w2 w3 := below_drew hb3
      have hsz3 := hb23.size
      have H3 := Lib.hid (And.intro (At.own hown3) (And.intro hb3 hb23))
      clear hown3 hb3 hb23
      go_wp2_with fail
      refine ⟨H3.out.2.1, ?_⟩
      refine seql_last 2 rfl (by kernel_rfl) (by kernel_rfl) (by rfl) (fun KK hKK => ?_)
      go_wp2_with fail
      refine (wwriteZ_any w3 (H2.out.1.below H3.out.2.2) (by omega) (by omega) f cnt 0 _ rfl (by omega) (by omega) ho _ hcap (headL 1) rfl (by omega) H3.out.1 (by omega)).mono ?_
      rintro x w4 ⟨rfl, hu4, _⟩
      rw [show padZ (headL 1) = secH 1 from rfl, Nat.add_zero, HE.out.2.1] at hu4 ⊢
      have hu04 : Upd B w M I d s3 w4 := Upd.comp (H2.out.2.1.trans' (Keeps.of_below H3.out.2.2)) H2.out.2.2.1 H2.out.2.2.2.1 (by
        obtain ⟨M4, I4, h4, K4, m4, i4⟩ := hu4
        exact ⟨M4, I4, h4, K4, m4, i4⟩)
      obtain ⟨M4, I4, h4, K4, m4, i4⟩ := hu04
      have H4 := Lib.hid (And.intro h4 (And.intro K4 (And.intro m4 i4)))
      have hsz4 := K4.size
      clear hu4 h4 K4 m4 i4 hhl
      go_wp2_with fail
      refine seql_more 3 rfl (by kernel_rfl) (by kernel_rfl) (by rfl) (fun KK hKK => ?_)
      go_wp2_with fail
      refine seql_done (by kernel_rfl) ?_
      go_wp2_with fail
      refine (barrier_any w4 H4.out.1 (by omega) (by omega) (by omega)).mono ?_
      rintro x w5 ⟨rfl, hu5⟩
      rw [HE.out.2.2.1] at hu5 ⊢
      have hu05 := Upd.comp H4.out.2.1 H4.out.2.2.1 H4.out.2.2.2 hu5
      have H5 := Lib.hid hu05
      clear hu5 hu05
      go_wp2_with fail
      go_returns
      rw [HE.out.2.2.2]
      exact ⟨rfl, H5.out⟩

end Go.Proofs.YtpeehagaiofobaaDoor
