/- The walk of all: the code's bounds, its texts, its steps, the starts, what waits. -/
import Derived.Test.YtnhdefaagicejaaDoorCodeR
import Derived.Test.YtnhdefaagicejaaDoorCodeU
import Derived.Test.YtnhdefaagicejaaDoorLeast
namespace Go.Proofs.YtnhdefaagicejaaDoor
set_option linter.unusedSimpArgs false
set_option linter.unusedVariables false
open Go.RowKit

theorem infoBool : (Tryd.prog.info? 4).map (fun i => (i.zero, i.size, i.bytes)) = some (some (.bool false), 1, 1) := by kernel_rfl
theorem row_of_own {w : World} {B g n : Nat} {e : TypeId} {xs : List Value} (hx : xs.length = n) (h : w.ownsRow B e 1 (.slice (some ⟨g, 0, none⟩) n n) n xs) : w.heap[g]? = some (.cells xs.toArray e (0, 0)) := by
  rcases h.2 with ⟨hh, _⟩ | ⟨g', cap, cur, hv, _, hg, hnc, _, hcs, htk⟩
  · cases hh
  · have := Value.slice.inj hv
    obtain ⟨h1, _, rfl⟩ := this
    cases h1
    rw [hg]
    congr 2
    apply Array.ext'
    rw [Nat.mul_one] at hcs htk
    rw [← htk, List.take_of_length_le (by rw [Array.length_toList]; omega)]
/-- 'make([]int, n)'. -/
theorem op_makeI {w : World} {ops : Array Oper} {rest : List Oper} {o : Oper} {a : Act} {Q : Exit → Act → World → Prop} (hgd : Region.wanted o (yielded ops a.tmps) = true) (x y : Operand) (ho : o.op = .makeSlice 22 x y) (n : Nat) (hx : a.eval x = .int .i64 (n : Int)) (hy : a.eval y = .int .i64 (n : Int)) (hn : n ≤ 1000000000)
    (h : ∀ w', w'.heap[w.heap.size]? = some (.cells (intsV (List.replicate n 0)).toArray 3 (0, 0)) → w.grownBy w' none → wpList Tryd.prog ops Q rest (a.put o.dst (.slice (some ⟨w.heap.size, 0, none⟩) n n)) w') : wpList Tryd.prog ops Q (o :: rest) a w :=
  wpList_go hgd fun _ hK => by
    obtain ⟨i0, hi, hz0, hz1, hz2⟩ := info_parts infoInt
    obtain ⟨w', hr, h2, h3⟩ := run_make_full (P := Tryd.prog) w w.heap.size 22 3 i0 (.int .i64 0) 1 Tryd.underlying22 hi hz0 hz1 .i64 .i64 n (by rw [hz2]; omega) (by unfold maxLen; omega) (Nat.le_refl _)
    have e : (madeCells (Value.int .i64 0).cells (n * 1)).toList = intsV (List.replicate n 0) := by
      rw [Nat.mul_one, show (Value.int .i64 0).cells = #[Value.int .i64 0] from rfl, toList_madeCells_one]
      simp [intsV]
    rw [e] at h2
    unfold Oper.wp execOp
    simp only [ho, hx, hy, hr, Sem.run_bind, Sem.run_pure, Result.andThen_ok]
    exact hK _ _ (h w' (row_of_own (by simp [intsV]) h2) h3)
/-- 'make([]bool, n)'. -/
theorem op_makeB {w : World} {ops : Array Oper} {rest : List Oper} {o : Oper} {a : Act} {Q : Exit → Act → World → Prop} (hgd : Region.wanted o (yielded ops a.tmps) = true) (x y : Operand) (ho : o.op = .makeSlice 81 x y) (n : Nat) (hx : a.eval x = .int .i64 (n : Int)) (hy : a.eval y = .int .i64 (n : Int)) (hn : n ≤ 1000000000)
    (h : ∀ w', w'.heap[w.heap.size]? = some (.cells ((List.replicate n false).map Value.bool).toArray 4 (0, 0)) → w.grownBy w' none → wpList Tryd.prog ops Q rest (a.put o.dst (.slice (some ⟨w.heap.size, 0, none⟩) n n)) w') : wpList Tryd.prog ops Q (o :: rest) a w :=
  wpList_go hgd fun _ hK => by
    obtain ⟨i0, hi, hz0, hz1, hz2⟩ := info_parts infoBool
    obtain ⟨w', hr, h2, h3⟩ := run_make_full (P := Tryd.prog) w w.heap.size 81 4 i0 (.bool false) 1 Tryd.underlying81 hi hz0 hz1 .i64 .i64 n (by rw [hz2]; omega) (by unfold maxLen; omega) (Nat.le_refl _)
    have e : (madeCells (Value.bool false).cells (n * 1)).toList = (List.replicate n false).map Value.bool := by
      rw [Nat.mul_one, show (Value.bool false).cells = #[Value.bool false] from rfl, toList_madeCells_one]
      simp
    rw [e] at h2
    unfold Oper.wp execOp
    simp only [ho, hx, hy, hr, Sem.run_bind, Sem.run_pure, Result.andThen_ok]
    exact hK _ _ (h w' (row_of_own (by simp) h2) h3)
theorem seq_ldB {o : Oper} {x : Operand} {a : Act} {w : World} (ho : o.op = .load 4 x) {ad : Addr} {v : Value} (hx : a.eval x = .pointer (some ad)) (hc : w.cell? ad = some v) :
    ∀ w', Below w.heap.size w w' → (execOp a.eval o).run Tryd.prog w' = .ok (.value v) w' := by
  intro w' hb
  have hc' := (World.cell?_of_block (hb.block ad.block (World.block_lt_of_cell? (a := ad) w hc))).trans hc
  have hu := Tryd.underlying4
  unfold execOp
  simp only [ho, hx]
  go_simp
/-- The table of steps: how many numbers each has. -/
def ShTab (w : World) : Prop := ∀ k : Nat, k < 29 → w.cell? ⟨0, k * 2 + 1, none⟩ = some (.int .i64 (usesP (k : Int) : Nat))
/-- The row of a block's cells. -/
theorem At.blkrow {w : World} {g : Nat} {xs : List Value} {t : TypeId} {fr : Nat × Nat} (h : w.heap[g]? = some (.cells xs.toArray t fr)) : At w (some ⟨g, 0, none⟩) xs := .inr ⟨g, 0, rfl, fun j v hj => by
  rw [Nat.zero_add, cell_of_row _ _ j _ _ fr h]
  simpa using hj⟩
theorem frees_r64 {c : CodeP} {L : List Int} (h : Frees c L) (hr : ∀ x ∈ c.ins, R64i x.b) : ∀ z ∈ L, R64i z := by
  intro z hz
  obtain ⟨k, hk, rfl⟩ := List.getElem_of_mem hz
  have hk' : k < c.funs.length := by rw [← h.1]; exact hk
  have hl : L[k]? = some L[k] := List.getElem?_eq_getElem hk
  by_cases hx : ∃ x ∈ c.ins, x.op = 12 ∧ x.a = (k : Int) ∧ 1 ≤ k
  · obtain ⟨x, hx, h1, h2, h3⟩ := hx
    have := (h.2 k hk').1 x hx h1 h2 h3
    rw [hl] at this
    rw [Option.some.inj this]
    exact hr x hx
  · have := (h.2 k hk').2 (fun x hm h1 h2 => by
      rcases Nat.eq_zero_or_pos k with h | h
      · exact h
      · exact absurd ⟨x, hm, h1, h2, h⟩ hx)
    rw [hl] at this
    rw [Option.some.inj this]
    exact ⟨by omega, by omega⟩
theorem tail_X (s : CS) (wo : Option Addr) (cap k : Nat) (b : Nat) : s.X (tailOf wo cap k) b ↔ s.X wo b := by
  unfold CS.X
  rw [blk_tail]
/-- The first of the steps that wait is taken out. -/
theorem ChkAt.tailed {B : Nat} {A : Nat → Prop} {w : World} {c : CodeP} {L : List Int} {s : CS} {wo : Option Addr} {S : Int → Option FrP} {z : Int} {W : List Int} (h : ChkAt B A w c L s wo S (z :: W)) {wcap : Nat}
    (hrow : w.heap[s.cb]? = some (.cells #[.slice s.io c.ins.length s.icap, .slice s.so c.strs.length s.scap, .slice s.fo c.funs.length s.fcap, .int .i64 c.glob, .slice s.lo L.length s.lcap, .map (some s.mb), .slice wo (z :: W).length wcap] 56 (0, 0))) (hq : QueueAt w B wo wcap (z :: W)) :
    ChkAt B A (w.setCell ⟨s.cb, 6, none⟩ (.slice (tailOf wo wcap 1) W.length (wcap - 1))) c L s (tailOf wo wcap 1) S W := by
  generalize hF : w.setCell ⟨s.cb, 6, none⟩ (.slice (tailOf wo wcap 1) W.length (wcap - 1)) = F
  have hk : Keeps (fun b => b = s.cb) w F := by rw [← hF]; exact Keeps.of_grown (setCell_grown0 _ _ _ _) rfl
  have hs := hk.size
  have hcb := h.cb
  refine ⟨⟨wcap - 1, ?_, hq.tail.keeps hk (fun b hb he => h.wc.1 (by rw [blk_tail] at hb; rw [hb, he]))⟩, h.code.keeps hk (fun b hb he => by omega), h.frees.keeps hk (fun b hb hne he => (h.lf b hb (fun e => hne (by rw [e]; rfl))).1 (.inl he)), (h.seen.keeps hk (fun he => h.ne he.symm) (fun b hb he => hb.1 (.inl he))).mono (fun b hb => ⟨fun hx => hb.1 ((tail_X _ _ _ _ _).1 hx), by have := hb.2.1; omega, hb.2.2⟩), h.cb, ⟨h.mb.1, by have := h.mb.2; omega⟩, h.ne, by rw [blk_tail]; exact h.wc, fun b hb hne => ⟨fun hx => (h.lf b hb hne).1 ((tail_X _ _ _ _ _).1 hx), by have := (h.lf b hb hne).2.1; omega, (h.lf b hb hne).2.2⟩⟩
  rw [← hF, setCell_row0 6 _ hrow]
  rfl
/-- 's[1:]' of ints. -/
theorem op_tailI {w : World} {ops : Array Oper} {rest : List Oper} {o : Oper} {a : Act} {Q : Exit → Act → World → Prop} (hgd : Region.wanted o (yielded ops a.tmps) = true) (x lo : Operand) (ho : o.op = .slice 22 x (some lo) none none)
    (ao : Option Addr) (n cap k m : Nat) (hx : a.eval x = .slice ao n cap) (hl : a.eval lo = .int .i64 (k : Int)) (hk : k ≤ n) (hm : n - k = m)
    (h : wpList Tryd.prog ops Q rest (a.put o.dst (.slice (tailOf ao cap k) m (cap - k))) w) : wpList Tryd.prog ops Q (o :: rest) a w := by
  subst hm
  refine wpList_go hgd fun K hK => ?_
  have hr := yields_slice_lo (P := Tryd.prog) (w := w) ho (by kernel_rfl) (by kernel_rfl) hx hl hk w (Below.refl _ _)
  unfold Oper.wp
  rw [hr]
  exact hK _ _ h
/-- The steps that wait, how many are left. -/
def Waits (B : Nat) (w0 : World) (c : CodeP) (L : List Int) (s : CS) (k n : Nat) (w' : World) : Prop :=
  ∃ S W wo, ChkAt B (fun _ => True) w' c L s wo S W ∧ Work flC c L k n S W none ∧ Below B w0 w'
/-- What a call to all leaves. -/
def Alls (B : Nat) (w : World) (c : CodeP) (e : Ending) (w' : World) : Prop := Below B w w' ∧ (Ord flC c ∧ e = .returned (.tuple #[]) ∨ ¬ Ord flC c ∧ e = .panicked [disP])
set_option maxRecDepth 100000 in
set_option maxHeartbeats 20000000 in
theorem all_any {B : Nat} {w : World} {c : CodeP} {cb mb : Nat} {io so fo : Option Addr} {icap scap fcap : Nat} (hrow : w.heap[cb]? = some (.cells #[.slice io c.ins.length icap, .slice so c.strs.length scap, .slice fo c.funs.length fcap, .int .i64 c.glob, .slice none 0 0, .map (some mb), .slice none 0 0] 56 (0, 0)))
    (hmem : CodeMem w (fun b => b < B) c io so fo) (hmap : MapAt w mb (fun _ => none)) (hcb : B ≤ cb) (hmb : B ≤ mb) (hne : cb ≠ mb) (hB0 : 0 < B) (ht : ShTab w) (hil : c.ins.length ≤ 1000000000) (hsl : c.strs.length ≤ 1000000000) (hfl : c.funs.length ≤ 1000000000) (hg : R64i c.glob) :
    Calls Tryd.prog 17 #[.pointer (some ⟨cb, 0, none⟩)] w (Alls B w c) := by
  have c0 : w.cell? ⟨cb, 0, none⟩ = some (.slice io c.ins.length icap) := cell_of_row _ _ 0 _ _ (0, 0) hrow
  have c1 : w.cell? ⟨cb, 1, none⟩ = some (.slice so c.strs.length scap) := cell_of_row _ _ 1 _ _ (0, 0) hrow
  have c2 : w.cell? ⟨cb, 2, none⟩ = some (.slice fo c.funs.length fcap) := cell_of_row _ _ 2 _ _ (0, 0) hrow
  have c3 : w.cell? ⟨cb, 3, none⟩ = some (.int .i64 c.glob) := cell_of_row _ _ 3 _ _ (0, 0) hrow
  have H := Lib.hid (And.intro hrow (And.intro hmem (And.intro hmap (And.intro ht hg))))
  clear hrow hmem hmap ht hg
  cases hq1 : betw (c.funs.length : Int) 1 4096 with
  | false =>
    have HQ := Lib.hid hq1
    clear hq1
    go_enter Tryd.func17, Tryd.ntmps17
    go_wp2_with fail
    refine (within_any (c.funs.length : Int) 1 4096 w).mono ?_
    rintro e w1 ⟨rfl, rfl⟩
    rw [HQ.out]
    go_wp2_with fail
    refine (need_any false w).mono ?_
    rintro e w1 ⟨hn, rfl⟩
    obtain ⟨_, rfl⟩ : True ∧ e = .panicked [disP] := by
      rcases hn with ⟨h, _⟩ | ⟨_, h⟩
      · cases h
      · exact ⟨trivial, h⟩
    clear hn
    go_wp2_with fail
    refine ⟨rfl, Below.refl _ _, .inr ⟨?_, rfl⟩⟩
    rintro ⟨hp, _⟩
    exact absurd HQ.out (by rw [show betw (c.funs.length : Int) 1 4096 = true from decide_eq_true ⟨by have := hp.f1; omega, by have := hp.f2; omega⟩]; decide)
  | true =>
  cases hq2 : betw (c.ins.length : Int) 1 65536 with
  | false =>
    have HQ := Lib.hid (And.intro hq1 hq2)
    clear hq1 hq2
    go_enter Tryd.func17, Tryd.ntmps17
    go_wp2_with fail
    refine (within_any (c.funs.length : Int) 1 4096 w).mono ?_
    rintro e w1 ⟨rfl, rfl⟩
    rw [HQ.out.1]
    go_wp2_with fail
    refine (within_any (c.ins.length : Int) 1 65536 w).mono ?_
    rintro e w1 ⟨rfl, rfl⟩
    rw [HQ.out.2]
    go_wp2_with fail
    refine (need_any false w).mono ?_
    rintro e w1 ⟨hn, rfl⟩
    obtain ⟨_, rfl⟩ : True ∧ e = .panicked [disP] := by
      rcases hn with ⟨h, _⟩ | ⟨_, h⟩
      · cases h
      · exact ⟨trivial, h⟩
    clear hn
    go_wp2_with fail
    refine ⟨rfl, Below.refl _ _, .inr ⟨?_, rfl⟩⟩
    rintro ⟨hp, _⟩
    exact absurd HQ.out.2 (by rw [show betw (c.ins.length : Int) 1 65536 = true from decide_eq_true ⟨by have := hp.i1; omega, by have := hp.i2; omega⟩]; decide)
  | true =>
  by_cases hq3 : c.strs.length ≤ 4096
  · cases hq4 : betw c.glob 0 4096 with
    | false =>
      have HQ := Lib.hid (And.intro hq1 (And.intro hq2 (And.intro hq3 hq4)))
      have hd3 : decide ((c.strs.length : Int) ≤ 4096) = true := decide_eq_true (by omega)
      have hd3' : decide (c.strs.length ≤ 4096) = true := decide_eq_true hq3
      clear hq1 hq2 hq4
      go_enter Tryd.func17, Tryd.ntmps17
      go_wp2_with fail
      refine (within_any (c.funs.length : Int) 1 4096 w).mono ?_
      rintro e w1 ⟨rfl, rfl⟩
      rw [HQ.out.1]
      go_wp2_with fail
      refine (within_any (c.ins.length : Int) 1 65536 w).mono ?_
      rintro e w1 ⟨rfl, rfl⟩
      rw [HQ.out.2.1]
      go_wp2_with fail
      refine (within_any c.glob 0 4096 w).mono ?_
      rintro e w1 ⟨rfl, rfl⟩
      rw [HQ.out.2.2.2]
      go_wp2_with fail
      refine (need_any false w).mono ?_
      rintro e w1 ⟨hn, rfl⟩
      obtain ⟨_, rfl⟩ : True ∧ e = .panicked [disP] := by
        rcases hn with ⟨h, _⟩ | ⟨_, h⟩
        · cases h
        · exact ⟨trivial, h⟩
      clear hn
      go_wp2_with fail
      refine ⟨rfl, Below.refl _ _, .inr ⟨?_, rfl⟩⟩
      rintro ⟨hp, _⟩
      exact absurd HQ.out.2.2.2 (by rw [show betw c.glob 0 4096 = true from decide_eq_true ⟨hp.g1, hp.g2⟩]; decide)
    | true =>
    have HQ := Lib.hid (And.intro hq1 (And.intro hq2 (And.intro hq3 hq4)))
    have hd3 : decide ((c.strs.length : Int) ≤ 4096) = true := decide_eq_true (by omega)
    have hd3' : decide (c.strs.length ≤ 4096) = true := decide_eq_true hq3
    clear hq1 hq2 hq4
    go_enter Tryd.func17, Tryd.ntmps17
    go_wp2_with fail
    refine (within_any (c.funs.length : Int) 1 4096 w).mono ?_
    rintro e w1 ⟨rfl, rfl⟩
    rw [HQ.out.1]
    go_wp2_with fail
    refine (within_any (c.ins.length : Int) 1 65536 w).mono ?_
    rintro e w1 ⟨rfl, rfl⟩
    rw [HQ.out.2.1]
    go_wp2_with fail
    refine (within_any c.glob 0 4096 w).mono ?_
    rintro e w1 ⟨rfl, rfl⟩
    rw [HQ.out.2.2.2]
    go_wp2_with fail
    refine (need_any true w).mono ?_
    rintro e w1 ⟨hn, rfl⟩
    obtain ⟨_, rfl⟩ : True ∧ e = .returned (.tuple #[]) := by
      rcases hn with ⟨_, h⟩ | ⟨h, _⟩
      · exact ⟨trivial, h⟩
      · cases h
    clear hn
    go_wp2_with fail
    go_loopw [51] (fun v51 wr => ∃ i : Nat, i ≤ c.strs.length ∧ v51 = .int .i64 (i : Int) ∧ wr = w ∧ ∀ k (hk : k < i) (hk' : k < c.strs.length), (c.strs[k]).length ≤ 4096) (fun v51 _ => c.strs.length - (intOf v51).toNat)
    case atStart => exact ⟨0, by omega, rfl, rfl, fun k hk => by omega⟩
    case round =>
      obtain ⟨i, hi, rfl, rfl, hall⟩ := hrel
      have HA := Lib.hid hall
      clear hall
      by_cases hlt : i < c.strs.length
      · have hd1 : decide ((i : Int) < (c.strs.length : Int)) = true := decide_eq_true (by omega)
        obtain ⟨sb, sf, rfl, hsc⟩ := H.out.2.1.strs.exv i (by simpa [strCells] using hlt)
        have hse : (strCells c.strs)[i]'(by simpa [strCells] using hlt) = .string ⟨(c.strs[i]).toArray⟩ := by simp [strCells]
        rw [hse] at hsc
        have hsl := H.out.2.1.strR _ (List.getElem_mem hlt)
        obtain ⟨st, hst⟩ : ∃ st, c.strs[i] = st := ⟨_, rfl⟩
        rw [hst] at hsc hsl
        have hsz : (ByteArray.mk st.toArray).size = st.length := by rw [ByteArray.size]; simp
        have HST := Lib.hid hst
        clear hse hst
        by_cases h4 : st.length ≤ 4096
        · have hd4 : decide ((st.length : Int) ≤ 4096) = true := decide_eq_true (by omega)
          have hd4' : decide (st.length ≤ 4096) = true := decide_eq_true h4
          go_wp2_with fail
          refine (need_any true wr).mono ?_
          rintro e w1 ⟨hn, rfl⟩
          obtain ⟨_, rfl⟩ : True ∧ e = .returned (.tuple #[]) := by
            rcases hn with ⟨_, h⟩ | ⟨h, _⟩
            · exact ⟨trivial, h⟩
            · cases h
          clear hn
          go_wp2_with fail
          go_roundw
          case rel =>
            refine ⟨i + 1, by omega, by simp, trivial, fun k hk hk' => ?_⟩
            rcases Nat.lt_or_ge k i with h | h
            · exact HA.out k h hk'
            · obtain rfl : k = i := by omega
              rw [HST.out]
              exact h4
          case measure => simp [intOf]; omega
        · have hd4 : decide ((st.length : Int) ≤ 4096) = false := decide_eq_false (by omega)
          have hd4' : decide (st.length ≤ 4096) = false := decide_eq_false h4
          go_wp2_with fail
          refine (need_any false wr).mono ?_
          rintro e w1 ⟨hn, rfl⟩
          obtain ⟨_, rfl⟩ : True ∧ e = .panicked [disP] := by
            rcases hn with ⟨h, _⟩ | ⟨_, h⟩
            · cases h
            · exact ⟨trivial, h⟩
          clear hn
          go_wp2_with fail
          refine ⟨rfl, Below.refl _ _, .inr ⟨?_, rfl⟩⟩
          rintro ⟨hp, _⟩
          have := hp.str _ (List.getElem_mem hlt)
          rw [HST.out] at this
          omega
      · obtain rfl : i = c.strs.length := by omega
        have hd1 : decide ((c.strs.length : Int) < (c.strs.length : Int)) = false := decide_eq_false (by omega)
        go_upto_region 6 with (fail)
        have hcbl := (Array.getElem?_eq_some_iff.1 H.out.1).1
        have hmbl := H.out.2.2.1.lt
        have c2 : wr.cell? ⟨cb, 2, none⟩ = some (.slice fo c.funs.length fcap) := cell_of_row _ _ 2 _ _ (0, 0) H.out.1
        go_upto_region 7 with (first | (refine op_makeI rfl _ _ rfl c.funs.length rfl rfl (by omega) ?_; rintro w5 m1 m2; have hrow5 : w5.heap[cb]? = _ := (m2.block cb hcbl (fun h => by cases h)).trans H.out.1; have c45 : w5.cell? ⟨cb, 4, none⟩ = some (.slice none 0 0) := cell_of_row _ _ 4 _ _ (0, 0) hrow5; have f45 := frozen_of_row _ cb 4 _ _ hrow5; have M5 := Lib.hid (And.intro m1 (And.intro m2 hrow5)); clear m1 m2 hrow5))
        clear c45 f45 c2
        obtain ⟨W6, hW6⟩ : ∃ W6, w5.setCell ⟨cb, 4, none⟩ (.slice (some ⟨wr.heap.size, 0, none⟩) c.funs.length c.funs.length) = W6 := ⟨_, rfl⟩
        rw [hW6]
        have hk56 : Keeps (fun b => b = cb) w5 W6 := by rw [← hW6]; exact Keeps.of_grown (setCell_grown0 _ _ _ _) rfl
        have hkw6 : Keeps (fun b => b = cb) wr W6 := (Keeps.of_grown' M5.out.2.1 (fun g h => by cases h)).trans' hk56
        have hsw5 : wr.heap.size < w5.heap.size := (Array.getElem?_eq_some_iff.1 M5.out.1).1
        have hrow6 : W6.heap[cb]? = some (.cells #[.slice io c.ins.length icap, .slice so c.strs.length scap, .slice fo c.funs.length fcap, .int .i64 c.glob, .slice (some ⟨wr.heap.size, 0, none⟩) c.funs.length c.funs.length, .map (some mb), .slice none 0 0] 56 (0, 0)) := by
          rw [← hW6, setCell_row0 4 _ M5.out.2.2]
          rfl
        have hl6 : W6.heap[wr.heap.size]? = some (.cells (intsV (List.replicate c.funs.length 0)).toArray 3 (0, 0)) := (hk56.block wr.heap.size hsw5 (fun h => by omega)).trans M5.out.1
        have c26 : W6.cell? ⟨cb, 2, none⟩ = some (.slice fo c.funs.length fcap) := cell_of_row _ _ 2 _ _ (0, 0) hrow6
        have hs6 : wr.heap.size < W6.heap.size := (Array.getElem?_eq_some_iff.1 hl6).1
        have H6 := Lib.hid (And.intro hkw6 (And.intro hrow6 hl6))
        clear hW6 hk56 hkw6 hrow6 hl6 hsw5 M5
        go_upto_region 8 with (first | (refine op_makeB rfl _ _ rfl c.funs.length rfl rfl (by omega) ?_; rintro w7 m3 m4; have M7 := Lib.hid (And.intro m3 m4); clear m3 m4))
        clear c26
        have hs7 : W6.heap.size < w7.heap.size := (Array.getElem?_eq_some_iff.1 M7.out.1).1
        have hk67 : Keeps (fun _ => False) W6 w7 := Keeps.of_grown' M7.out.2 (fun g h => by cases h)
        have hrow7 : w7.heap[cb]? = _ := (hk67.block cb (by omega) (fun h => h)).trans H6.out.2.1
        have hl7 : w7.heap[wr.heap.size]? = _ := (hk67.block wr.heap.size (by omega) (fun h => h)).trans H6.out.2.2
        have c07 : w7.cell? ⟨cb, 0, none⟩ = some (.slice io c.ins.length icap) := cell_of_row _ _ 0 _ _ (0, 0) hrow7
        have H7 := Lib.hid (And.intro (H6.out.1.trans' (hk67.mono (fun _ _ h => h.elim))) (And.intro hrow7 (And.intro hl7 M7.out.1)))
        obtain ⟨lb, hlb⟩ : ∃ lb, wr.heap.size = lb := ⟨_, rfl⟩
        obtain ⟨tb, htb⟩ : ∃ tb, W6.heap.size = tb := ⟨_, rfl⟩
        rw [hlb, htb] at H7
        have HLB := Lib.hid (And.intro hlb htb)
        rw [hlb] at H6 ⊢
        rw [htb]
        clear hk67 hrow7 hl7 M7 H6 hlb htb
        go_upto_block 2 with (fail)
        clear c07
        go_wp2_with fail
        obtain ⟨w0, hw0⟩ : ∃ w0, w0 = wr := ⟨_, rfl⟩
        subst hw0
        go_loopw [83] (fun v83 wq => ∃ (i : Nat) (L : List Int) (T : List Bool), i ≤ c.ins.length ∧ v83 = .int .i64 (i : Int) ∧ FreesTo c i L T ∧ wq.heap[lb]? = some (.cells (intsV L).toArray 3 (0, 0)) ∧ wq.heap[tb]? = some (.cells (T.map Value.bool).toArray 4 (0, 0)) ∧ Keeps (fun b => b = lb ∨ b = tb) w7 wq ∧ ∀ j x, j < i → c.ins[j]? = some x → 0 ≤ x.op ∧ x.op ≤ 28 ∧ (usesP x.op = 0 → x.a = 0) ∧ (usesP x.op ≤ 1 → x.b = 0)) (fun v83 _ => c.ins.length - (intOf v83).toNat)
        case atStart => exact ⟨0, _, _, by omega, rfl, FreesTo.zero c, H7.out.2.2.1, H7.out.2.2.2, Keeps.refl _ _, fun j x h => by omega⟩
        case round =>
          obtain ⟨i, L, T, hi, rfl, hfr, hlw, htw, hk7, hops⟩ := hrel
          have hkw : Keeps (fun b => b = cb ∨ b = lb ∨ b = tb) w0 wr := (H7.out.1.mono (fun _ _ h => .inl h)).trans' (hk7.mono (fun _ _ h => .inr h))
          have hlbw : w0.heap.size = lb := HLB.out.1
          have htbw : w0.heap.size < tb := by have := HLB.out.2; omega
          have hsw := hkw.size
          have hrow8 : wr.heap[cb]? = _ := (hk7.block cb (by omega) (fun h => by omega)).trans H7.out.2.1
          have HB := Lib.hid (show Below B w0 wr from hkw.below (fun i hi h => by omega) (by omega))
          have HR := Lib.hid (And.intro hfr (And.intro hlw (And.intro htw (And.intro hk7 (And.intro hops (And.intro hkw hrow8))))))
          have HLW := Lib.hid hlbw
          clear hfr hlw htw hk7 hops hrow8 hlbw
          by_cases hlt : i < c.ins.length
          · skip
            -- CUT A
            have hd1 : decide ((i : Int) < (c.ins.length : Int)) = true := decide_eq_true (by omega)
            have hmw := H.out.2.1.keeps hkw (fun b hb h => by have := HLW.out; omega)
            obtain ⟨ib, fo', rfl, i0, i1, i2⟩ := hmw.insAt i hlt
            have hxr := hmw.insR _ (List.getElem_mem hlt)
            obtain ⟨x, hx⟩ : ∃ x, c.ins[i] = x := ⟨_, rfl⟩
            rw [hx] at i0 i1 i2 hxr
            have hxs : c.ins[i]? = some x := by rw [List.getElem?_eq_getElem hlt, hx]
            obtain ⟨op, a, b⟩ := x
            simp only at i0 i1 i2 hxr
            have HX := Lib.hid (And.intro hxs hxr)
            clear hmw hkw hxr hx hxs
            obtain ⟨W1, hW1⟩ : ∃ W1, wr.alloc (.cells #[.int .i64 op, .int .i64 a, .int .i64 b] 50) = W1 := ⟨_, rfl⟩
            have hb1 : Below wr.heap.size wr W1 := by rw [← hW1]; exact (Below.refl _ wr).alloc (Nat.le_refl _) _
            have hr1 : W1.heap[wr.heap.size]? = some (.cells #[.int .i64 op, .int .i64 a, .int .i64 b] 50 (0, 0)) := by rw [← hW1]; exact heap_alloc_new wr _
            have hs1 : wr.heap.size < W1.heap.size := by rw [← hW1]; simp
            have k0 : W1.cell? ⟨wr.heap.size, 0, none⟩ = some (.int .i64 op) := cell_of_row _ _ 0 _ _ (0, 0) hr1
            have H1 := Lib.hid (And.intro hb1 hr1)
            have HB1 := Lib.hid (HB.out.trans (hb1.mono (by omega)))
            clear hb1 hr1
            cases hqo : betw op 0 28 with
            | false =>
              have HQO := Lib.hid hqo
              clear hqo
              go_wp2_with fail
              clear hW1
              refine (within_any op 0 28 W1).mono ?_
              rintro e w2 ⟨rfl, rfl⟩
              rw [HQO.out]
              go_wp2_with fail
              refine (need_any false W1).mono ?_
              rintro e w1 ⟨hn, rfl⟩
              obtain ⟨_, rfl⟩ : True ∧ e = .panicked [disP] := by
                rcases hn with ⟨h, _⟩ | ⟨_, h⟩
                · cases h
                · exact ⟨trivial, h⟩
              clear hn
              go_wp2_with fail
              refine ⟨rfl, HB1.out, .inr ⟨?_, rfl⟩⟩
              rintro ⟨hp, _⟩
              have := hp.op _ (List.mem_of_getElem? HX.out.1)
              exact absurd HQO.out (by rw [show betw op 0 28 = true from decide_eq_true ⟨this.1, this.2.1⟩]; decide)
            | true =>
              have hop := of_decide_eq_true hqo
              have HQO := Lib.hid hqo
              clear hqo
              obtain ⟨k, rfl⟩ : ∃ k : Nat, op = (k : Int) := ⟨op.toNat, by omega⟩
              have hk29 : k < 29 := by omega
              have hu := (keeps_cell HR.out.2.2.2.2.2.1 (by intro h; simp at h; have := HLW.out; omega) (H.out.2.2.2.1 k hk29))
              obtain ⟨u, hu'⟩ : ∃ u, usesP (k : Int) = u := ⟨_, rfl⟩
              rw [hu'] at hu
              have hu1 : W1.cell? ⟨0, k * 2 + 1, none⟩ = some (.int .i64 (u : Nat)) := keeps_cell (Keeps.of_below (X := fun _ => False) H1.out.1) (fun h => h) hu
              have hu3 : u ≤ 2 := by rw [← hu']; unfold usesP; split <;> (try split) <;> omega
              have HU := Lib.hid hu'
              clear hu hu' hop
              go_wp2_with fail
              clear hW1
              refine (within_any (k : Int) 0 28 W1).mono ?_
              rintro e w2 ⟨rfl, rfl⟩
              rw [HQO.out]
              go_wp2_with fail
              refine (need_any true W1).mono ?_
              rintro e w1 ⟨hn, rfl⟩
              obtain ⟨_, rfl⟩ : True ∧ e = .returned (.tuple #[]) := by
                rcases hn with ⟨_, h⟩ | ⟨h, _⟩
                · exact ⟨trivial, h⟩
                · cases h
              clear hn
              go_upto_region 12 with (fail)
              go_upto_region 13 with (fail)
              clear hu1
              have k1 : W1.cell? ⟨wr.heap.size, 1, none⟩ = some (.int .i64 a) := cell_of_row _ _ 1 _ _ (0, 0) H1.out.2
              have k2 : W1.cell? ⟨wr.heap.size, 2, none⟩ = some (.int .i64 b) := cell_of_row _ _ 2 _ _ (0, 0) H1.out.2
              have hkeep : Keeps (fun b => b = lb ∨ b = tb) w7 W1 := HR.out.2.2.2.1.trans' (Keeps.of_below H1.out.1)
              have hlbl := (Array.getElem?_eq_some_iff.1 HR.out.2.1).1
              have htbl := (Array.getElem?_eq_some_iff.1 HR.out.2.2.1).1
              have hlW : W1.heap[lb]? = _ := (H1.out.1.block lb hlbl).trans HR.out.2.1
              have htW : W1.heap[tb]? = _ := (H1.out.1.block tb htbl).trans HR.out.2.2.1
              have hrW : W1.heap[cb]? = _ := (H1.out.1.block cb (by omega)).trans HR.out.2.2.2.2.2.2
              have H5 := Lib.hid (And.intro hkeep (And.intro hlW (And.intro htW hrW)))
              have hopsn : ((u = 0 → a = 0) ∧ (u ≤ 1 → b = 0)) → ∀ j x, j < i + 1 → c.ins[j]? = some x → 0 ≤ x.op ∧ x.op ≤ 28 ∧ (usesP x.op = 0 → x.a = 0) ∧ (usesP x.op ≤ 1 → x.b = 0) := by
                intro hab j x hj hx
                rcases Nat.lt_or_ge j i with h | h
                · exact HR.out.2.2.2.2.1 j x h hx
                · obtain rfl : j = i := by omega
                  rw [HX.out.1] at hx
                  cases hx
                  exact ⟨by simp only; omega, by simp only; omega, by simp only; rw [HU.out]; exact hab.1, by simp only; rw [HU.out]; exact hab.2⟩
              have hbad : ¬ ((u = 0 → a = 0) ∧ (u ≤ 1 → b = 0)) → ¬ Ord flC c := by
                rintro hab ⟨hp, _⟩
                have := hp.op _ (List.mem_of_getElem? HX.out.1)
                simp only [HU.out] at this
                exact hab this.2.2
              have HOPS := Lib.hid hopsn
              have HBAD := Lib.hid hbad
              have h12 : k = 12 → u = 2 := by
                rintro rfl
                rw [← HU.out]
                rfl
              clear hkeep hlW htW hrW hopsn hbad
              have hcs : (u = 0 ∧ a = 0 ∧ b = 0) ∨ (u = 1 ∧ b = 0) ∨ u = 2 ∨ (u = 0 ∧ a ≠ 0) ∨ (u = 0 ∧ a = 0 ∧ b ≠ 0) ∨ (u = 1 ∧ b ≠ 0) := by omega
              rcases hcs with ⟨rfl, rfl, rfl⟩ | ⟨rfl, rfl⟩ | rfl | ⟨rfl, hna⟩ | ⟨rfl, rfl, hnb⟩ | ⟨rfl, hnb⟩
              · skip
                go_wp2_with fail
                refine (need_any true W1).mono ?_
                rintro e w1 ⟨hn, rfl⟩
                obtain ⟨_, rfl⟩ : True ∧ e = .returned (.tuple #[]) := by
                  rcases hn with ⟨_, h⟩ | ⟨h, _⟩
                  · exact ⟨trivial, h⟩
                  · cases h
                clear hn
                go_wp2_with fail
                have K0 := Lib.hid (show W1.drew.cell? ⟨wr.heap.size, 0, none⟩ = _ from k0)
                clear k0 k1 k2
                have hd5 : ((k : Int) == 12) = false := by simp; omega
                have hd6 : decide ((k : Int) = 12) = false := decide_eq_false (by omega)
                refine seq_start (by kernel_rfl) ?_
                refine seq_take 0 (v := ?_) rfl (by kernel_rfl) (fun _ _ _ h => h) (by rfl) (fun w' hw' => ?_) ?_
                rotate_left
                · go_simp; try with_reducible rfl
                try simp only [List.getElem_toArray, List.getElem_cons_succ, List.getElem_cons_zero, Act.put, List.setIfInBounds_toArray, List.set_cons_zero, List.set_cons_succ]
                refine seq_take 1 rfl (by kernel_rfl) (fun _ _ _ h => h) (by rfl) (seq_ldi rfl rfl (K0.out)) ?_
                try simp only [List.getElem_toArray, List.getElem_cons_succ, List.getElem_cons_zero, Act.put, List.setIfInBounds_toArray, List.set_cons_zero, List.set_cons_succ]
                refine seq_take 2 (v := ?_) rfl (by kernel_rfl) (fun _ _ _ h => h) (by rfl) (fun w' hw' => ?_) ?_
                rotate_left
                · go_simp; try with_reducible rfl
                try simp only [List.getElem_toArray, List.getElem_cons_succ, List.getElem_cons_zero, Act.put, List.setIfInBounds_toArray, List.set_cons_zero, List.set_cons_succ]
                refine seq_take 3 (v := ?_) rfl (by kernel_rfl) (fun _ _ _ h => h) (by rfl) (fun w' hw' => ?_) ?_
                rotate_left
                · go_simp; try with_reducible rfl
                try simp only [List.getElem_toArray, List.getElem_cons_succ, List.getElem_cons_zero, Act.put, List.setIfInBounds_toArray, List.set_cons_zero, List.set_cons_succ]
                refine seq_skip 4 rfl (by kernel_rfl) (fun _ _ _ h => h) (by rfl) ?_
                try simp only [List.getElem_toArray, List.getElem_cons_succ, List.getElem_cons_zero, Act.put, List.setIfInBounds_toArray, List.set_cons_zero, List.set_cons_succ]
                refine seq_skip 5 rfl (by kernel_rfl) (fun _ _ _ h => h) (by rfl) ?_
                try simp only [List.getElem_toArray, List.getElem_cons_succ, List.getElem_cons_zero, Act.put, List.setIfInBounds_toArray, List.set_cons_zero, List.set_cons_succ]
                refine seq_skip 6 rfl (by kernel_rfl) (fun _ _ _ h => h) (by rfl) ?_
                try simp only [List.getElem_toArray, List.getElem_cons_succ, List.getElem_cons_zero, Act.put, List.setIfInBounds_toArray, List.set_cons_zero, List.set_cons_succ]
                refine seq_skip 7 rfl (by kernel_rfl) (fun _ _ _ h => h) (by rfl) ?_
                try simp only [List.getElem_toArray, List.getElem_cons_succ, List.getElem_cons_zero, Act.put, List.setIfInBounds_toArray, List.set_cons_zero, List.set_cons_succ]
                refine seq_skip 8 rfl (by kernel_rfl) (fun _ _ _ h => h) (by rfl) ?_
                try simp only [List.getElem_toArray, List.getElem_cons_succ, List.getElem_cons_zero, Act.put, List.setIfInBounds_toArray, List.set_cons_zero, List.set_cons_succ]
                refine seq_skip 9 rfl (by kernel_rfl) (fun _ _ _ h => h) (by rfl) ?_
                try simp only [List.getElem_toArray, List.getElem_cons_succ, List.getElem_cons_zero, Act.put, List.setIfInBounds_toArray, List.set_cons_zero, List.set_cons_succ]
                refine seq_skip 10 rfl (by kernel_rfl) (fun _ _ _ h => h) (by rfl) ?_
                try simp only [List.getElem_toArray, List.getElem_cons_succ, List.getElem_cons_zero, Act.put, List.setIfInBounds_toArray, List.set_cons_zero, List.set_cons_succ]
                refine seq_skip 11 rfl (by kernel_rfl) (fun _ _ _ h => h) (by rfl) ?_
                try simp only [List.getElem_toArray, List.getElem_cons_succ, List.getElem_cons_zero, Act.put, List.setIfInBounds_toArray, List.set_cons_zero, List.set_cons_succ]
                refine seq_skip 12 rfl (by kernel_rfl) (fun _ _ _ h => h) (by rfl) ?_
                try simp only [List.getElem_toArray, List.getElem_cons_succ, List.getElem_cons_zero, Act.put, List.setIfInBounds_toArray, List.set_cons_zero, List.set_cons_succ]
                refine seq_skip 13 rfl (by kernel_rfl) (fun _ _ _ h => h) (by rfl) ?_
                try simp only [List.getElem_toArray, List.getElem_cons_succ, List.getElem_cons_zero, Act.put, List.setIfInBounds_toArray, List.set_cons_zero, List.set_cons_succ]
                refine seq_take 14 (v := ?_) rfl (by kernel_rfl) (fun _ _ _ h => h) (by rfl) (fun w' hw' => ?_) ?_
                rotate_left
                · go_simp; try with_reducible rfl
                try simp only [List.getElem_toArray, List.getElem_cons_succ, List.getElem_cons_zero, Act.put, List.setIfInBounds_toArray, List.set_cons_zero, List.set_cons_succ]
                refine seq_done (by kernel_rfl) ?_
                go_wp2_with fail
                go_roundw
                case rel =>
                  refine ⟨i + 1, L, T, by omega, by simp, HR.out.1.skip HX.out.1 (fun h => by simp only at h; omega), H5.out.2.1, H5.out.2.2.1, H5.out.1.trans' (Keeps.drew _ _), HOPS.out ?_⟩
                  constructor <;> intro h <;> omega
                case measure => simp [intOf]; omega
              · skip
                go_wp2_with fail
                refine (need_any true W1).mono ?_
                rintro e w1 ⟨hn, rfl⟩
                obtain ⟨_, rfl⟩ : True ∧ e = .returned (.tuple #[]) := by
                  rcases hn with ⟨_, h⟩ | ⟨h, _⟩
                  · exact ⟨trivial, h⟩
                  · cases h
                clear hn
                go_wp2_with fail
                have K0 := Lib.hid (show W1.drew.cell? ⟨wr.heap.size, 0, none⟩ = _ from k0)
                clear k0 k1 k2
                have hd5 : ((k : Int) == 12) = false := by simp; omega
                have hd6 : decide ((k : Int) = 12) = false := decide_eq_false (by omega)
                refine seq_start (by kernel_rfl) ?_
                refine seq_take 0 (v := ?_) rfl (by kernel_rfl) (fun _ _ _ h => h) (by rfl) (fun w' hw' => ?_) ?_
                rotate_left
                · go_simp; try with_reducible rfl
                try simp only [List.getElem_toArray, List.getElem_cons_succ, List.getElem_cons_zero, Act.put, List.setIfInBounds_toArray, List.set_cons_zero, List.set_cons_succ]
                refine seq_take 1 rfl (by kernel_rfl) (fun _ _ _ h => h) (by rfl) (seq_ldi rfl rfl (K0.out)) ?_
                try simp only [List.getElem_toArray, List.getElem_cons_succ, List.getElem_cons_zero, Act.put, List.setIfInBounds_toArray, List.set_cons_zero, List.set_cons_succ]
                refine seq_take 2 (v := ?_) rfl (by kernel_rfl) (fun _ _ _ h => h) (by rfl) (fun w' hw' => ?_) ?_
                rotate_left
                · go_simp; try with_reducible rfl
                try simp only [List.getElem_toArray, List.getElem_cons_succ, List.getElem_cons_zero, Act.put, List.setIfInBounds_toArray, List.set_cons_zero, List.set_cons_succ]
                refine seq_take 3 (v := ?_) rfl (by kernel_rfl) (fun _ _ _ h => h) (by rfl) (fun w' hw' => ?_) ?_
                rotate_left
                · go_simp; try with_reducible rfl
                try simp only [List.getElem_toArray, List.getElem_cons_succ, List.getElem_cons_zero, Act.put, List.setIfInBounds_toArray, List.set_cons_zero, List.set_cons_succ]
                refine seq_skip 4 rfl (by kernel_rfl) (fun _ _ _ h => h) (by rfl) ?_
                try simp only [List.getElem_toArray, List.getElem_cons_succ, List.getElem_cons_zero, Act.put, List.setIfInBounds_toArray, List.set_cons_zero, List.set_cons_succ]
                refine seq_skip 5 rfl (by kernel_rfl) (fun _ _ _ h => h) (by rfl) ?_
                try simp only [List.getElem_toArray, List.getElem_cons_succ, List.getElem_cons_zero, Act.put, List.setIfInBounds_toArray, List.set_cons_zero, List.set_cons_succ]
                refine seq_skip 6 rfl (by kernel_rfl) (fun _ _ _ h => h) (by rfl) ?_
                try simp only [List.getElem_toArray, List.getElem_cons_succ, List.getElem_cons_zero, Act.put, List.setIfInBounds_toArray, List.set_cons_zero, List.set_cons_succ]
                refine seq_skip 7 rfl (by kernel_rfl) (fun _ _ _ h => h) (by rfl) ?_
                try simp only [List.getElem_toArray, List.getElem_cons_succ, List.getElem_cons_zero, Act.put, List.setIfInBounds_toArray, List.set_cons_zero, List.set_cons_succ]
                refine seq_skip 8 rfl (by kernel_rfl) (fun _ _ _ h => h) (by rfl) ?_
                try simp only [List.getElem_toArray, List.getElem_cons_succ, List.getElem_cons_zero, Act.put, List.setIfInBounds_toArray, List.set_cons_zero, List.set_cons_succ]
                refine seq_skip 9 rfl (by kernel_rfl) (fun _ _ _ h => h) (by rfl) ?_
                try simp only [List.getElem_toArray, List.getElem_cons_succ, List.getElem_cons_zero, Act.put, List.setIfInBounds_toArray, List.set_cons_zero, List.set_cons_succ]
                refine seq_skip 10 rfl (by kernel_rfl) (fun _ _ _ h => h) (by rfl) ?_
                try simp only [List.getElem_toArray, List.getElem_cons_succ, List.getElem_cons_zero, Act.put, List.setIfInBounds_toArray, List.set_cons_zero, List.set_cons_succ]
                refine seq_skip 11 rfl (by kernel_rfl) (fun _ _ _ h => h) (by rfl) ?_
                try simp only [List.getElem_toArray, List.getElem_cons_succ, List.getElem_cons_zero, Act.put, List.setIfInBounds_toArray, List.set_cons_zero, List.set_cons_succ]
                refine seq_skip 12 rfl (by kernel_rfl) (fun _ _ _ h => h) (by rfl) ?_
                try simp only [List.getElem_toArray, List.getElem_cons_succ, List.getElem_cons_zero, Act.put, List.setIfInBounds_toArray, List.set_cons_zero, List.set_cons_succ]
                refine seq_skip 13 rfl (by kernel_rfl) (fun _ _ _ h => h) (by rfl) ?_
                try simp only [List.getElem_toArray, List.getElem_cons_succ, List.getElem_cons_zero, Act.put, List.setIfInBounds_toArray, List.set_cons_zero, List.set_cons_succ]
                refine seq_take 14 (v := ?_) rfl (by kernel_rfl) (fun _ _ _ h => h) (by rfl) (fun w' hw' => ?_) ?_
                rotate_left
                · go_simp; try with_reducible rfl
                try simp only [List.getElem_toArray, List.getElem_cons_succ, List.getElem_cons_zero, Act.put, List.setIfInBounds_toArray, List.set_cons_zero, List.set_cons_succ]
                refine seq_done (by kernel_rfl) ?_
                go_wp2_with fail
                go_roundw
                case rel =>
                  refine ⟨i + 1, L, T, by omega, by simp, HR.out.1.skip HX.out.1 (fun h => by simp only at h; omega), H5.out.2.1, H5.out.2.2.1, H5.out.1.trans' (Keeps.drew _ _), HOPS.out ?_⟩
                  constructor <;> intro h <;> omega
                case measure => simp [intOf]; omega
              · skip
                go_wp2_with fail
                refine (need_any true W1).mono ?_
                rintro e w1 ⟨hn, rfl⟩
                obtain ⟨_, rfl⟩ : True ∧ e = .returned (.tuple #[]) := by
                  rcases hn with ⟨_, h⟩ | ⟨h, _⟩
                  · exact ⟨trivial, h⟩
                  · cases h
                clear hn
                by_cases hk12 : k = 12
                · skip
                  go_wp2_with fail
                  have hd5 : ((k : Int) == 12) = true := by simp; omega
                  have hd6 : decide ((k : Int) = 12) = true := decide_eq_true (by omega)
                  have K := Lib.hid (And.intro (show W1.drew.cell? ⟨wr.heap.size, 0, none⟩ = _ from k0) (And.intro (show W1.drew.cell? ⟨wr.heap.size, 1, none⟩ = _ from k1) (And.intro (show W1.drew.cell? ⟨wr.heap.size, 2, none⟩ = _ from k2) (show W1.drew.cell? ⟨cb, 2, none⟩ = some (.slice fo c.funs.length fcap) from cell_of_row _ _ 2 _ _ (0, 0) H5.out.2.2.2))))
                  clear k0 k1 k2
                  obtain ⟨q, hq⟩ : ∃ q, betw a 1 ((c.funs.length : Int) - 1) = q := ⟨_, rfl⟩
                  have HQQ := Lib.hid hq
                  clear hq
                  refine seq_start (by kernel_rfl) ?_
                  refine seq_take 0 (v := ?_) rfl (by kernel_rfl) (fun _ _ _ h => h) (by rfl) (fun w' hw' => ?_) ?_
                  rotate_left
                  · go_simp; try with_reducible rfl
                  try simp only [List.getElem_toArray, List.getElem_cons_succ, List.getElem_cons_zero, Act.put, List.setIfInBounds_toArray, List.set_cons_zero, List.set_cons_succ]
                  refine seq_take 1 rfl (by kernel_rfl) (fun _ _ _ h => h) (by rfl) (seq_ldi rfl rfl (K.out.1)) ?_
                  try simp only [List.getElem_toArray, List.getElem_cons_succ, List.getElem_cons_zero, Act.put, List.setIfInBounds_toArray, List.set_cons_zero, List.set_cons_succ]
                  refine seq_take 2 (v := ?_) rfl (by kernel_rfl) (fun _ _ _ h => h) (by rfl) (fun w' hw' => ?_) ?_
                  rotate_left
                  · go_simp; try with_reducible rfl
                  try simp only [List.getElem_toArray, List.getElem_cons_succ, List.getElem_cons_zero, Act.put, List.setIfInBounds_toArray, List.set_cons_zero, List.set_cons_succ]
                  refine seq_take 3 (v := ?_) rfl (by kernel_rfl) (fun _ _ _ h => h) (by rfl) (fun w' hw' => ?_) ?_
                  rotate_left
                  · go_simp; try with_reducible rfl
                  try simp only [List.getElem_toArray, List.getElem_cons_succ, List.getElem_cons_zero, Act.put, List.setIfInBounds_toArray, List.set_cons_zero, List.set_cons_succ]
                  refine seq_take 4 (v := ?_) rfl (by kernel_rfl) (fun _ _ _ h => h) (by rfl) (fun w' hw' => ?_) ?_
                  rotate_left
                  · go_simp; try with_reducible rfl
                  try simp only [List.getElem_toArray, List.getElem_cons_succ, List.getElem_cons_zero, Act.put, List.setIfInBounds_toArray, List.set_cons_zero, List.set_cons_succ]
                  refine seq_take 5 rfl (by kernel_rfl) (fun _ _ _ h => h) (by rfl) (seq_ldi rfl rfl (K.out.2.1)) ?_
                  try simp only [List.getElem_toArray, List.getElem_cons_succ, List.getElem_cons_zero, Act.put, List.setIfInBounds_toArray, List.set_cons_zero, List.set_cons_succ]
                  refine seq_take 6 (v := ?_) rfl (by kernel_rfl) (fun _ _ _ h => h) (by rfl) (fun w' hw' => ?_) ?_
                  rotate_left
                  · go_simp; try with_reducible rfl
                  try simp only [List.getElem_toArray, List.getElem_cons_succ, List.getElem_cons_zero, Act.put, List.setIfInBounds_toArray, List.set_cons_zero, List.set_cons_succ]
                  refine seq_take 7 (v := ?_) rfl (by kernel_rfl) (fun _ _ _ h => h) (by rfl) (fun w' hw' => ?_) ?_
                  rotate_left
                  · go_simp; try with_reducible rfl
                  try simp only [List.getElem_toArray, List.getElem_cons_succ, List.getElem_cons_zero, Act.put, List.setIfInBounds_toArray, List.set_cons_zero, List.set_cons_succ]
                  refine seq_take 8 (v := ?_) rfl (by kernel_rfl) (fun _ _ _ h => h) (by rfl) (fun w' hw' => ?_) ?_
                  rotate_left
                  · go_simp; try with_reducible rfl
                  try simp only [List.getElem_toArray, List.getElem_cons_succ, List.getElem_cons_zero, Act.put, List.setIfInBounds_toArray, List.set_cons_zero, List.set_cons_succ]
                  refine seq_take 9 (v := ?_) rfl (by kernel_rfl) (fun _ _ _ h => h) (by rfl) (fun w' hw' => ?_) ?_
                  rotate_left
                  · go_simp; try with_reducible rfl
                  try simp only [List.getElem_toArray, List.getElem_cons_succ, List.getElem_cons_zero, Act.put, List.setIfInBounds_toArray, List.set_cons_zero, List.set_cons_succ]
                  refine seq_take 10 rfl (by kernel_rfl) (fun _ _ _ h => h) (by rfl) (seq_ldII rfl rfl (K.out.2.2.2)) ?_
                  try simp only [List.getElem_toArray, List.getElem_cons_succ, List.getElem_cons_zero, Act.put, List.setIfInBounds_toArray, List.set_cons_zero, List.set_cons_succ]
                  refine seq_take 11 (v := ?_) rfl (by kernel_rfl) (fun _ _ _ h => h) (by rfl) (fun w' hw' => ?_) ?_
                  rotate_left
                  · go_simp; try with_reducible rfl
                  try simp only [List.getElem_toArray, List.getElem_cons_succ, List.getElem_cons_zero, Act.put, List.setIfInBounds_toArray, List.set_cons_zero, List.set_cons_succ]
                  refine seq_take 12 (v := ?_) rfl (by kernel_rfl) (fun _ _ _ h => h) (by rfl) (fun w' hw' => ?_) ?_
                  rotate_left
                  · go_simp; try with_reducible rfl
                  try simp only [List.getElem_toArray, List.getElem_cons_succ, List.getElem_cons_zero, Act.put, List.setIfInBounds_toArray, List.set_cons_zero, List.set_cons_succ]
                  refine seq_run 13 rfl (by kernel_rfl) (by rfl) (fun KK hKK => ?_)
                  go_wp2_with fail
                  refine (within_any a 1 ((c.funs.length : Int) - 1) W1.drew).mono ?_
                  rintro e w2 ⟨rfl, rfl⟩
                  rw [HQQ.out]
                  cases q with
                  | false =>
                    go_wp2_with fail
                    refine ⟨Below.refl _ _, ?_⟩
                    refine seq_take 14 (v := ?_) rfl (by kernel_rfl) (fun _ _ _ h => h) (by rfl) (fun w' hw' => ?_) ?_
                    rotate_left
                    · go_simp; try with_reducible rfl
                    try simp only [List.getElem_toArray, List.getElem_cons_succ, List.getElem_cons_zero, Act.put, List.setIfInBounds_toArray, List.set_cons_zero, List.set_cons_succ]
                    refine seq_done (by kernel_rfl) ?_
                    go_wp2_with fail
                    go_roundw
                    case rel =>
                      refine ⟨i + 1, L, T, by omega, by simp, HR.out.1.skip HX.out.1 (fun h hh => ?_), H5.out.2.1, H5.out.2.2.1, H5.out.1.trans' (Keeps.drew _ _), HOPS.out ⟨fun h => by omega, fun h => by omega⟩⟩
                      have := HQQ.out
                      rw [show betw a 1 ((c.funs.length : Int) - 1) = true from decide_eq_true ⟨hh.1, by have := hh.2; simp only at this; omega⟩] at this
                      cases this
                    case measure => simp [intOf]; omega
                  | true =>
                    have hab := of_decide_eq_true HQQ.out
                    obtain ⟨j, rfl⟩ : ∃ j : Nat, a = (j : Int) := ⟨a.toNat, by omega⟩
                    have hj1 : 1 ≤ j := by omega
                    have hj2 : j < c.funs.length := by omega
                    clear hab
                    go_wp2_with fail
                    refine ⟨Below.refl _ _, ?_⟩
                    refine seq_take 14 (v := ?_) rfl (by kernel_rfl) (fun _ _ _ h => h) (by rfl) (fun w' hw' => ?_) ?_
                    rotate_left
                    · go_simp; try with_reducible rfl
                    try simp only [List.getElem_toArray, List.getElem_cons_succ, List.getElem_cons_zero, Act.put, List.setIfInBounds_toArray, List.set_cons_zero, List.set_cons_succ]
                    refine seq_done (by kernel_rfl) ?_
                    go_wp2_with fail
                    obtain ⟨t, ht⟩ : ∃ t, T[j]? = some t := ⟨T[j]'(by rw [HR.out.1.tlen]; exact hj2), List.getElem?_eq_getElem _⟩
                    obtain ⟨z, hz⟩ : ∃ z, L[j]? = some z := ⟨L[j]'(by rw [HR.out.1.len]; exact hj2), List.getElem?_eq_getElem _⟩
                    have HT := Lib.hid (And.intro ht hz)
                    have cT : W1.drew.drew.cell? ⟨tb, j, none⟩ = some (.bool t) := (cell_of_row W1 _ j _ _ (0, 0) H5.out.2.2.1).trans (by simp [ht])
                    have cL : W1.drew.drew.cell? ⟨lb, j, none⟩ = some (.int .i64 z) := (cell_of_row W1 _ j _ _ (0, 0) H5.out.2.1).trans (by simp [intsV, hz])
                    have c44 : W1.drew.drew.cell? ⟨cb, 4, none⟩ = some (.slice (some ⟨lb, 0, none⟩) c.funs.length c.funs.length) := cell_of_row W1 _ 4 _ _ (0, 0) H5.out.2.2.2
                    have KT := Lib.hid (And.intro cT (And.intro cL (And.intro c44 (And.intro (show W1.drew.drew.cell? ⟨wr.heap.size, 1, none⟩ = _ from K.out.2.1) (show W1.drew.drew.cell? ⟨wr.heap.size, 2, none⟩ = _ from K.out.2.2.1)))))
                    clear cT cL c44 ht hz
                    cases t with
                    | false =>
                      refine seq_start (by kernel_rfl) ?_
                      refine seq_take 0 (v := ?_) rfl (by kernel_rfl) (fun _ _ _ h => h) (by rfl) (fun w' hw' => ?_) ?_
                      rotate_left
                      · go_simp; try with_reducible rfl
                      try simp only [List.getElem_toArray, List.getElem_cons_succ, List.getElem_cons_zero, Act.put, List.setIfInBounds_toArray, List.set_cons_zero, List.set_cons_succ]
                      refine seq_take 1 (v := ?_) rfl (by kernel_rfl) (fun _ _ _ h => h) (by rfl) (fun w' hw' => ?_) ?_
                      rotate_left
                      · go_simp; try with_reducible rfl
                      try simp only [List.getElem_toArray, List.getElem_cons_succ, List.getElem_cons_zero, Act.put, List.setIfInBounds_toArray, List.set_cons_zero, List.set_cons_succ]
                      refine seq_take 2 rfl (by kernel_rfl) (fun _ _ _ h => h) (by rfl) (seq_ldi rfl rfl (KT.out.2.2.2.1)) ?_
                      try simp only [List.getElem_toArray, List.getElem_cons_succ, List.getElem_cons_zero, Act.put, List.setIfInBounds_toArray, List.set_cons_zero, List.set_cons_succ]
                      refine seq_take 3 (v := ?_) rfl (by kernel_rfl) (fun _ _ _ h => h) (by rfl) (fun w' hw' => ?_) ?_
                      rotate_left
                      · go_simp; try with_reducible rfl
                      try simp only [List.getElem_toArray, List.getElem_cons_succ, List.getElem_cons_zero, Act.put, List.setIfInBounds_toArray, List.set_cons_zero, List.set_cons_succ]
                      refine seq_take 4 rfl (by kernel_rfl) (fun _ _ _ h => h) (by rfl) (seq_ldB rfl rfl (KT.out.1)) ?_
                      try simp only [List.getElem_toArray, List.getElem_cons_succ, List.getElem_cons_zero, Act.put, List.setIfInBounds_toArray, List.set_cons_zero, List.set_cons_succ]
                      refine seq_take 5 (v := ?_) rfl (by kernel_rfl) (fun _ _ _ h => h) (by rfl) (fun w' hw' => ?_) ?_
                      rotate_left
                      · go_simp; try with_reducible rfl
                      try simp only [List.getElem_toArray, List.getElem_cons_succ, List.getElem_cons_zero, Act.put, List.setIfInBounds_toArray, List.set_cons_zero, List.set_cons_succ]
                      refine seq_take 6 (v := ?_) rfl (by kernel_rfl) (fun _ _ _ h => h) (by rfl) (fun w' hw' => ?_) ?_
                      rotate_left
                      · go_simp; try with_reducible rfl
                      try simp only [List.getElem_toArray, List.getElem_cons_succ, List.getElem_cons_zero, Act.put, List.setIfInBounds_toArray, List.set_cons_zero, List.set_cons_succ]
                      refine seq_skip 7 rfl (by kernel_rfl) (fun _ _ _ h => h) (by rfl) ?_
                      try simp only [List.getElem_toArray, List.getElem_cons_succ, List.getElem_cons_zero, Act.put, List.setIfInBounds_toArray, List.set_cons_zero, List.set_cons_succ]
                      refine seq_skip 8 rfl (by kernel_rfl) (fun _ _ _ h => h) (by rfl) ?_
                      try simp only [List.getElem_toArray, List.getElem_cons_succ, List.getElem_cons_zero, Act.put, List.setIfInBounds_toArray, List.set_cons_zero, List.set_cons_succ]
                      refine seq_skip 9 rfl (by kernel_rfl) (fun _ _ _ h => h) (by rfl) ?_
                      try simp only [List.getElem_toArray, List.getElem_cons_succ, List.getElem_cons_zero, Act.put, List.setIfInBounds_toArray, List.set_cons_zero, List.set_cons_succ]
                      refine seq_skip 10 rfl (by kernel_rfl) (fun _ _ _ h => h) (by rfl) ?_
                      try simp only [List.getElem_toArray, List.getElem_cons_succ, List.getElem_cons_zero, Act.put, List.setIfInBounds_toArray, List.set_cons_zero, List.set_cons_succ]
                      refine seq_skip 11 rfl (by kernel_rfl) (fun _ _ _ h => h) (by rfl) ?_
                      try simp only [List.getElem_toArray, List.getElem_cons_succ, List.getElem_cons_zero, Act.put, List.setIfInBounds_toArray, List.set_cons_zero, List.set_cons_succ]
                      refine seq_skip 12 rfl (by kernel_rfl) (fun _ _ _ h => h) (by rfl) ?_
                      try simp only [List.getElem_toArray, List.getElem_cons_succ, List.getElem_cons_zero, Act.put, List.setIfInBounds_toArray, List.set_cons_zero, List.set_cons_succ]
                      refine seq_skip 13 rfl (by kernel_rfl) (fun _ _ _ h => h) (by rfl) ?_
                      try simp only [List.getElem_toArray, List.getElem_cons_succ, List.getElem_cons_zero, Act.put, List.setIfInBounds_toArray, List.set_cons_zero, List.set_cons_succ]
                      refine seq_skip 14 rfl (by kernel_rfl) (fun _ _ _ h => h) (by rfl) ?_
                      try simp only [List.getElem_toArray, List.getElem_cons_succ, List.getElem_cons_zero, Act.put, List.setIfInBounds_toArray, List.set_cons_zero, List.set_cons_succ]
                      refine seq_skip 15 rfl (by kernel_rfl) (fun _ _ _ h => h) (by rfl) ?_
                      try simp only [List.getElem_toArray, List.getElem_cons_succ, List.getElem_cons_zero, Act.put, List.setIfInBounds_toArray, List.set_cons_zero, List.set_cons_succ]
                      refine seq_skip 16 rfl (by kernel_rfl) (fun _ _ _ h => h) (by rfl) ?_
                      try simp only [List.getElem_toArray, List.getElem_cons_succ, List.getElem_cons_zero, Act.put, List.setIfInBounds_toArray, List.set_cons_zero, List.set_cons_succ]
                      refine seq_skip 17 rfl (by kernel_rfl) (fun _ _ _ h => h) (by rfl) ?_
                      try simp only [List.getElem_toArray, List.getElem_cons_succ, List.getElem_cons_zero, Act.put, List.setIfInBounds_toArray, List.set_cons_zero, List.set_cons_succ]
                      refine seq_take 18 (v := ?_) rfl (by kernel_rfl) (fun _ _ _ h => h) (by rfl) (fun w' hw' => ?_) ?_
                      rotate_left
                      · go_simp; try with_reducible rfl
                      try simp only [List.getElem_toArray, List.getElem_cons_succ, List.getElem_cons_zero, Act.put, List.setIfInBounds_toArray, List.set_cons_zero, List.set_cons_succ]
                      refine seq_run 19 rfl (by kernel_rfl) (by rfl) (fun KK hKK => ?_)
                      go_wp2_with fail
                      refine (need_any true W1.drew.drew).mono ?_
                      rintro e w1 ⟨hn, rfl⟩
                      obtain ⟨_, rfl⟩ : True ∧ e = .returned (.tuple #[]) := by
                        rcases hn with ⟨_, h⟩ | ⟨h, _⟩
                        · exact ⟨trivial, h⟩
                        · cases h
                      clear hn
                      go_wp2_with fail
                      refine ⟨Below.refl _ _, ?_⟩
                      refine seq_done (by kernel_rfl) ?_
                      go_wp2_with fail
                      obtain ⟨W3, hW3⟩ : ∃ W3, W1.drew.drew.drew = W3 := ⟨_, rfl⟩
                      have hb3 : Below W1.heap.size W1 W3 := by rw [← hW3]; exact (((Below.refl _ W1).drew).drew).drew
                      have M := Lib.hid (And.intro ((World.cell?_of_block (a := ⟨wr.heap.size, 1, none⟩) (hb3.block _ hs1)).trans K.out.2.1) (And.intro ((World.cell?_of_block (a := ⟨wr.heap.size, 2, none⟩) (hb3.block _ hs1)).trans K.out.2.2.1) (And.intro ((hb3.block tb (by omega)).trans H5.out.2.2.1) (And.intro ((hb3.block lb (by omega)).trans H5.out.2.1) (And.intro ((hb3.block cb (by omega)).trans H5.out.2.2.2) (H5.out.1.trans' (Keeps.of_below hb3)))))))
                      have hs3 : W1.heap.size ≤ W3.heap.size := hb3.size
                      have HB3 := Lib.hid (HB1.out.trans (hb3.mono (by omega)))
                      have c43 : W3.cell? ⟨cb, 4, none⟩ = some (.slice (some ⟨lb, 0, none⟩) c.funs.length c.funs.length) := cell_of_row _ _ 4 _ _ (0, 0) M.out.2.2.2.2.1
                      have cT3 : W3.cell? ⟨tb, j, none⟩ = some (.bool false) := (cell_of_row _ _ j _ _ (0, 0) M.out.2.2.1).trans (by simp [HT.out.1])
                      have fT3 := frozen_of_row W3 tb j _ _ M.out.2.2.1
                      have C3 := Lib.hid (And.intro c43 (And.intro cT3 fT3))
                      refine seqx_start (fun b => b = lb ∨ b = tb) (by kernel_rfl) ?_
                      rw [hW3]
                      clear hW3 hb3 c43 cT3 fT3
                      refine seqx_take 0 (v := ?_) rfl (by kernel_rfl) (fun _ _ _ h => h) (by rfl) (fun w' hw' => ?_) ?_
                      rotate_left
                      · go_simp; try with_reducible rfl
                      try simp only [List.getElem_toArray, List.getElem_cons_succ, List.getElem_cons_zero, Act.put, List.setIfInBounds_toArray, List.set_cons_zero, List.set_cons_succ]
                      refine seqx_take 1 (v := ?_) rfl (by kernel_rfl) (fun _ _ _ h => h) (by rfl) (fun w' hw' => ?_) ?_
                      rotate_left
                      · go_simp; try with_reducible rfl
                      try simp only [List.getElem_toArray, List.getElem_cons_succ, List.getElem_cons_zero, Act.put, List.setIfInBounds_toArray, List.set_cons_zero, List.set_cons_succ]
                      refine seqx_take 2 rfl (by kernel_rfl) (fun _ _ _ h => h) (by rfl) (fun w' hw' => (seq_ldi rfl rfl (keeps_cell hw' (by (intro h; first | exact h | (simp at h; omega) | omega)) (M.out.1))) w' (Below.refl _ _)) ?_
                      try simp only [List.getElem_toArray, List.getElem_cons_succ, List.getElem_cons_zero, Act.put, List.setIfInBounds_toArray, List.set_cons_zero, List.set_cons_succ]
                      refine seqx_take 3 (v := ?_) rfl (by kernel_rfl) (fun _ _ _ h => h) (by rfl) (fun w' hw' => ?_) ?_
                      rotate_left
                      · go_simp; try with_reducible rfl
                      try simp only [List.getElem_toArray, List.getElem_cons_succ, List.getElem_cons_zero, Act.put, List.setIfInBounds_toArray, List.set_cons_zero, List.set_cons_succ]
                      refine seqx_take 4 (v := ?_) rfl (by kernel_rfl) (fun _ _ _ h => h) (by rfl) (fun w' hw' => ?_) ?_
                      rotate_left
                      · go_simp; try with_reducible rfl
                      try simp only [List.getElem_toArray, List.getElem_cons_succ, List.getElem_cons_zero, Act.put, List.setIfInBounds_toArray, List.set_cons_zero, List.set_cons_succ]
                      refine seqx_take 5 (v := ?_) rfl (by kernel_rfl) (fun _ _ _ h => h) (by rfl) (fun w' hw' => ?_) ?_
                      rotate_left
                      · go_simp; try with_reducible rfl
                      try simp only [List.getElem_toArray, List.getElem_cons_succ, List.getElem_cons_zero, Act.put, List.setIfInBounds_toArray, List.set_cons_zero, List.set_cons_succ]
                      refine seqx_take 6 rfl (by kernel_rfl) (fun _ _ _ h => h) (by rfl) (fun w' hw' => (seq_ldII rfl rfl (keeps_cell hw' (by (intro h; have h : cb = lb ∨ cb = tb := h; have := HLW.out; omega)) (C3.out.1))) w' (Below.refl _ _)) ?_
                      try simp only [List.getElem_toArray, List.getElem_cons_succ, List.getElem_cons_zero, Act.put, List.setIfInBounds_toArray, List.set_cons_zero, List.set_cons_succ]
                      refine seqx_take 7 (v := ?_) rfl (by kernel_rfl) (fun _ _ _ h => h) (by rfl) (fun w' hw' => ?_) ?_
                      rotate_left
                      · go_simp; try with_reducible rfl
                      try simp only [List.getElem_toArray, List.getElem_cons_succ, List.getElem_cons_zero, Act.put, List.setIfInBounds_toArray, List.set_cons_zero, List.set_cons_succ]
                      refine seqx_take 8 rfl (by kernel_rfl) (fun _ _ _ h => h) (by rfl) (fun w' hw' => (seq_ldi rfl rfl (keeps_cell hw' (by (intro h; first | exact h | (simp at h; omega) | omega)) (M.out.1))) w' (Below.refl _ _)) ?_
                      try simp only [List.getElem_toArray, List.getElem_cons_succ, List.getElem_cons_zero, Act.put, List.setIfInBounds_toArray, List.set_cons_zero, List.set_cons_succ]
                      refine seqx_take 9 (v := ?_) rfl (by kernel_rfl) (fun _ _ _ h => h) (by rfl) (fun w' hw' => ?_) ?_
                      rotate_left
                      · go_simp; try with_reducible rfl
                      try simp only [List.getElem_toArray, List.getElem_cons_succ, List.getElem_cons_zero, Act.put, List.setIfInBounds_toArray, List.set_cons_zero, List.set_cons_succ]
                      refine seqx_take 10 rfl (by kernel_rfl) (fun _ _ _ h => h) (by rfl) (fun w' hw' => (seq_ldi rfl rfl (keeps_cell hw' (by (intro h; first | exact h | (simp at h; omega) | omega)) (M.out.2.1))) w' (Below.refl _ _)) ?_
                      try simp only [List.getElem_toArray, List.getElem_cons_succ, List.getElem_cons_zero, Act.put, List.setIfInBounds_toArray, List.set_cons_zero, List.set_cons_succ]
                      refine seqx_take 11 (v := ?_) rfl (by kernel_rfl) (fun _ _ _ h => h) (by rfl) (fun w' hw' => ?_) ?_
                      rotate_left
                      · go_simp; try with_reducible rfl
                      try simp only [List.getElem_toArray, List.getElem_cons_succ, List.getElem_cons_zero, Act.put, List.setIfInBounds_toArray, List.set_cons_zero, List.set_cons_succ]
                      have cT3 := C3.out.2.1
                      have fT3 := C3.out.2.2
                      refine seqx_run 12 rfl (by kernel_rfl) (by rfl) (fun KK hKK => ?_)
                      go_wp2_with fail
                      refine ⟨Keeps.of_grown (setCell_grown0 _ _ _ _) (.inr rfl), ?_⟩
                      clear cT3 fT3
                      obtain ⟨W4, hW4⟩ : ∃ W4, W3.setCell ⟨tb, j, none⟩ (.bool true) = W4 := ⟨_, rfl⟩
                      rw [hW4]
                      have hk34 : Keeps (fun b => b = tb) W3 W4 := by rw [← hW4]; exact Keeps.of_grown (setCell_grown0 _ _ _ _) rfl
                      have hl4 : W4.heap[lb]? = _ := (hk34.block lb (by omega) (fun h => by have := HLW.out; omega)).trans M.out.2.2.2.1
                      have ht4 : W4.heap[tb]? = some (.cells ((T.set j true).map Value.bool).toArray 4 (0, 0)) := by
                        rw [← hW4, setCell_row0 j _ M.out.2.2.1]
                        simp [List.map_set]
                      have cL4 : W4.cell? ⟨lb, j, none⟩ = some (.int .i64 z) := (cell_of_row _ _ j _ _ (0, 0) hl4).trans (by simp [intsV, HT.out.2])
                      have fL4 := frozen_of_row W4 lb j _ _ hl4
                      have N := Lib.hid (And.intro hk34 (And.intro hl4 ht4))
                      clear hW4 hk34 hl4 ht4
                      refine seqx_take 13 (v := ?_) rfl (by kernel_rfl) (fun _ _ _ h => h) (by rfl) (fun w' hw' => ?_) ?_
                      rotate_left
                      · go_simp; try with_reducible rfl
                      try simp only [List.getElem_toArray, List.getElem_cons_succ, List.getElem_cons_zero, Act.put, List.setIfInBounds_toArray, List.set_cons_zero, List.set_cons_succ]
                      refine seqx_run 14 rfl (by kernel_rfl) (by rfl) (fun KK hKK => ?_)
                      go_wp2_with fail
                      refine ⟨Keeps.of_grown (setCell_grown0 _ _ _ _) (.inl rfl), ?_⟩
                      clear cL4 fL4
                      refine seqx_done (by kernel_rfl) ?_
                      go_wp2_with fail
                      go_roundw
                      case rel =>
                        have hk45 : Keeps (fun b => b = lb) W4 (W4.setCell ⟨lb, j, none⟩ (.int .i64 b)) := Keeps.of_grown (setCell_grown0 _ _ _ _) rfl
                        have hs4 := N.out.1.size
                        refine ⟨i + 1, L.set j b, T.set j true, by omega, by simp, HR.out.1.put HX.out.1 (by simp only; omega) hj2 hj1 rfl (.inl HT.out.1), ?_, (hk45.block tb (by omega) (fun h => by have := HLW.out; omega)).trans N.out.2.2, (M.out.2.2.2.2.2.trans' (N.out.1.mono (fun _ _ h => .inr h))).trans' (hk45.mono (fun _ _ h => .inl h)), HOPS.out ⟨fun h => by omega, fun h => by omega⟩⟩
                        rw [setCell_row0 j _ N.out.2.1]
                        simp [intsV, List.map_set]
                      case measure => simp [intOf]; omega
                    | true =>
                      by_cases hzb : z = b
                      · skip
                        have hd7 : (z == b) = true := by simp [hzb]
                        have hd8 : decide (z = b) = true := decide_eq_true hzb
                        refine seq_start (by kernel_rfl) ?_
                        refine seq_take 0 (v := ?_) rfl (by kernel_rfl) (fun _ _ _ h => h) (by rfl) (fun w' hw' => ?_) ?_
                        rotate_left
                        · go_simp; try with_reducible rfl
                        try simp only [List.getElem_toArray, List.getElem_cons_succ, List.getElem_cons_zero, Act.put, List.setIfInBounds_toArray, List.set_cons_zero, List.set_cons_succ]
                        refine seq_take 1 (v := ?_) rfl (by kernel_rfl) (fun _ _ _ h => h) (by rfl) (fun w' hw' => ?_) ?_
                        rotate_left
                        · go_simp; try with_reducible rfl
                        try simp only [List.getElem_toArray, List.getElem_cons_succ, List.getElem_cons_zero, Act.put, List.setIfInBounds_toArray, List.set_cons_zero, List.set_cons_succ]
                        refine seq_take 2 rfl (by kernel_rfl) (fun _ _ _ h => h) (by rfl) (seq_ldi rfl rfl (KT.out.2.2.2.1)) ?_
                        try simp only [List.getElem_toArray, List.getElem_cons_succ, List.getElem_cons_zero, Act.put, List.setIfInBounds_toArray, List.set_cons_zero, List.set_cons_succ]
                        refine seq_take 3 (v := ?_) rfl (by kernel_rfl) (fun _ _ _ h => h) (by rfl) (fun w' hw' => ?_) ?_
                        rotate_left
                        · go_simp; try with_reducible rfl
                        try simp only [List.getElem_toArray, List.getElem_cons_succ, List.getElem_cons_zero, Act.put, List.setIfInBounds_toArray, List.set_cons_zero, List.set_cons_succ]
                        refine seq_take 4 rfl (by kernel_rfl) (fun _ _ _ h => h) (by rfl) (seq_ldB rfl rfl (KT.out.1)) ?_
                        try simp only [List.getElem_toArray, List.getElem_cons_succ, List.getElem_cons_zero, Act.put, List.setIfInBounds_toArray, List.set_cons_zero, List.set_cons_succ]
                        refine seq_take 5 (v := ?_) rfl (by kernel_rfl) (fun _ _ _ h => h) (by rfl) (fun w' hw' => ?_) ?_
                        rotate_left
                        · go_simp; try with_reducible rfl
                        try simp only [List.getElem_toArray, List.getElem_cons_succ, List.getElem_cons_zero, Act.put, List.setIfInBounds_toArray, List.set_cons_zero, List.set_cons_succ]
                        refine seq_take 6 (v := ?_) rfl (by kernel_rfl) (fun _ _ _ h => h) (by rfl) (fun w' hw' => ?_) ?_
                        rotate_left
                        · go_simp; try with_reducible rfl
                        try simp only [List.getElem_toArray, List.getElem_cons_succ, List.getElem_cons_zero, Act.put, List.setIfInBounds_toArray, List.set_cons_zero, List.set_cons_succ]
                        refine seq_take 7 (v := ?_) rfl (by kernel_rfl) (fun _ _ _ h => h) (by rfl) (fun w' hw' => ?_) ?_
                        rotate_left
                        · go_simp; try with_reducible rfl
                        try simp only [List.getElem_toArray, List.getElem_cons_succ, List.getElem_cons_zero, Act.put, List.setIfInBounds_toArray, List.set_cons_zero, List.set_cons_succ]
                        refine seq_take 8 (v := ?_) rfl (by kernel_rfl) (fun _ _ _ h => h) (by rfl) (fun w' hw' => ?_) ?_
                        rotate_left
                        · go_simp; try with_reducible rfl
                        try simp only [List.getElem_toArray, List.getElem_cons_succ, List.getElem_cons_zero, Act.put, List.setIfInBounds_toArray, List.set_cons_zero, List.set_cons_succ]
                        refine seq_take 9 (v := ?_) rfl (by kernel_rfl) (fun _ _ _ h => h) (by rfl) (fun w' hw' => ?_) ?_
                        rotate_left
                        · go_simp; try with_reducible rfl
                        try simp only [List.getElem_toArray, List.getElem_cons_succ, List.getElem_cons_zero, Act.put, List.setIfInBounds_toArray, List.set_cons_zero, List.set_cons_succ]
                        refine seq_take 10 rfl (by kernel_rfl) (fun _ _ _ h => h) (by rfl) (seq_ldII rfl rfl (KT.out.2.2.1)) ?_
                        try simp only [List.getElem_toArray, List.getElem_cons_succ, List.getElem_cons_zero, Act.put, List.setIfInBounds_toArray, List.set_cons_zero, List.set_cons_succ]
                        refine seq_take 11 (v := ?_) rfl (by kernel_rfl) (fun _ _ _ h => h) (by rfl) (fun w' hw' => ?_) ?_
                        rotate_left
                        · go_simp; try with_reducible rfl
                        try simp only [List.getElem_toArray, List.getElem_cons_succ, List.getElem_cons_zero, Act.put, List.setIfInBounds_toArray, List.set_cons_zero, List.set_cons_succ]
                        refine seq_take 12 rfl (by kernel_rfl) (fun _ _ _ h => h) (by rfl) (seq_ldi rfl rfl (KT.out.2.2.2.1)) ?_
                        try simp only [List.getElem_toArray, List.getElem_cons_succ, List.getElem_cons_zero, Act.put, List.setIfInBounds_toArray, List.set_cons_zero, List.set_cons_succ]
                        refine seq_take 13 (v := ?_) rfl (by kernel_rfl) (fun _ _ _ h => h) (by rfl) (fun w' hw' => ?_) ?_
                        rotate_left
                        · go_simp; try with_reducible rfl
                        try simp only [List.getElem_toArray, List.getElem_cons_succ, List.getElem_cons_zero, Act.put, List.setIfInBounds_toArray, List.set_cons_zero, List.set_cons_succ]
                        refine seq_take 14 rfl (by kernel_rfl) (fun _ _ _ h => h) (by rfl) (seq_ldi rfl rfl (KT.out.2.1)) ?_
                        try simp only [List.getElem_toArray, List.getElem_cons_succ, List.getElem_cons_zero, Act.put, List.setIfInBounds_toArray, List.set_cons_zero, List.set_cons_succ]
                        refine seq_take 15 (v := ?_) rfl (by kernel_rfl) (fun _ _ _ h => h) (by rfl) (fun w' hw' => ?_) ?_
                        rotate_left
                        · go_simp; try with_reducible rfl
                        try simp only [List.getElem_toArray, List.getElem_cons_succ, List.getElem_cons_zero, Act.put, List.setIfInBounds_toArray, List.set_cons_zero, List.set_cons_succ]
                        refine seq_take 16 rfl (by kernel_rfl) (fun _ _ _ h => h) (by rfl) (seq_ldi rfl rfl (KT.out.2.2.2.2)) ?_
                        try simp only [List.getElem_toArray, List.getElem_cons_succ, List.getElem_cons_zero, Act.put, List.setIfInBounds_toArray, List.set_cons_zero, List.set_cons_succ]
                        refine seq_take 17 (v := ?_) rfl (by kernel_rfl) (fun _ _ _ h => h) (by rfl) (fun w' hw' => ?_) ?_
                        rotate_left
                        · go_simp; try with_reducible rfl
                        try simp only [List.getElem_toArray, List.getElem_cons_succ, List.getElem_cons_zero, Act.put, List.setIfInBounds_toArray, List.set_cons_zero, List.set_cons_succ]
                        refine seq_take 18 (v := ?_) rfl (by kernel_rfl) (fun _ _ _ h => h) (by rfl) (fun w' hw' => ?_) ?_
                        rotate_left
                        · go_simp; try with_reducible rfl
                        try simp only [List.getElem_toArray, List.getElem_cons_succ, List.getElem_cons_zero, Act.put, List.setIfInBounds_toArray, List.set_cons_zero, List.set_cons_succ]
                        refine seq_run 19 rfl (by kernel_rfl) (by rfl) (fun KK hKK => ?_)
                        go_wp2_with fail
                        refine (need_any true W1.drew.drew).mono ?_
                        rintro e w1 ⟨hn, rfl⟩
                        obtain ⟨_, rfl⟩ : True ∧ e = .returned (.tuple #[]) := by
                          rcases hn with ⟨_, h⟩ | ⟨h, _⟩
                          · exact ⟨trivial, h⟩
                          · cases h
                        clear hn
                        go_wp2_with fail
                        refine ⟨Below.refl _ _, ?_⟩
                        refine seq_done (by kernel_rfl) ?_
                        go_wp2_with fail
                        obtain ⟨W3, hW3⟩ : ∃ W3, W1.drew.drew.drew = W3 := ⟨_, rfl⟩
                        have hb3 : Below W1.heap.size W1 W3 := by rw [← hW3]; exact (((Below.refl _ W1).drew).drew).drew
                        have M := Lib.hid (And.intro ((World.cell?_of_block (a := ⟨wr.heap.size, 1, none⟩) (hb3.block _ hs1)).trans K.out.2.1) (And.intro ((World.cell?_of_block (a := ⟨wr.heap.size, 2, none⟩) (hb3.block _ hs1)).trans K.out.2.2.1) (And.intro ((hb3.block tb (by omega)).trans H5.out.2.2.1) (And.intro ((hb3.block lb (by omega)).trans H5.out.2.1) (And.intro ((hb3.block cb (by omega)).trans H5.out.2.2.2) (H5.out.1.trans' (Keeps.of_below hb3)))))))
                        have hs3 : W1.heap.size ≤ W3.heap.size := hb3.size
                        have HB3 := Lib.hid (HB1.out.trans (hb3.mono (by omega)))
                        have c43 : W3.cell? ⟨cb, 4, none⟩ = some (.slice (some ⟨lb, 0, none⟩) c.funs.length c.funs.length) := cell_of_row _ _ 4 _ _ (0, 0) M.out.2.2.2.2.1
                        have cT3 : W3.cell? ⟨tb, j, none⟩ = some (.bool true) := (cell_of_row _ _ j _ _ (0, 0) M.out.2.2.1).trans (by simp [HT.out.1])
                        have fT3 := frozen_of_row W3 tb j _ _ M.out.2.2.1
                        have C3 := Lib.hid (And.intro c43 (And.intro cT3 fT3))
                        refine seqx_start (fun b => b = lb ∨ b = tb) (by kernel_rfl) ?_
                        rw [hW3]
                        clear hW3 hb3 c43 cT3 fT3
                        refine seqx_take 0 (v := ?_) rfl (by kernel_rfl) (fun _ _ _ h => h) (by rfl) (fun w' hw' => ?_) ?_
                        rotate_left
                        · go_simp; try with_reducible rfl
                        try simp only [List.getElem_toArray, List.getElem_cons_succ, List.getElem_cons_zero, Act.put, List.setIfInBounds_toArray, List.set_cons_zero, List.set_cons_succ]
                        refine seqx_take 1 (v := ?_) rfl (by kernel_rfl) (fun _ _ _ h => h) (by rfl) (fun w' hw' => ?_) ?_
                        rotate_left
                        · go_simp; try with_reducible rfl
                        try simp only [List.getElem_toArray, List.getElem_cons_succ, List.getElem_cons_zero, Act.put, List.setIfInBounds_toArray, List.set_cons_zero, List.set_cons_succ]
                        refine seqx_take 2 rfl (by kernel_rfl) (fun _ _ _ h => h) (by rfl) (fun w' hw' => (seq_ldi rfl rfl (keeps_cell hw' (by (intro h; first | exact h | (simp at h; omega) | omega)) (M.out.1))) w' (Below.refl _ _)) ?_
                        try simp only [List.getElem_toArray, List.getElem_cons_succ, List.getElem_cons_zero, Act.put, List.setIfInBounds_toArray, List.set_cons_zero, List.set_cons_succ]
                        refine seqx_take 3 (v := ?_) rfl (by kernel_rfl) (fun _ _ _ h => h) (by rfl) (fun w' hw' => ?_) ?_
                        rotate_left
                        · go_simp; try with_reducible rfl
                        try simp only [List.getElem_toArray, List.getElem_cons_succ, List.getElem_cons_zero, Act.put, List.setIfInBounds_toArray, List.set_cons_zero, List.set_cons_succ]
                        refine seqx_take 4 (v := ?_) rfl (by kernel_rfl) (fun _ _ _ h => h) (by rfl) (fun w' hw' => ?_) ?_
                        rotate_left
                        · go_simp; try with_reducible rfl
                        try simp only [List.getElem_toArray, List.getElem_cons_succ, List.getElem_cons_zero, Act.put, List.setIfInBounds_toArray, List.set_cons_zero, List.set_cons_succ]
                        refine seqx_take 5 (v := ?_) rfl (by kernel_rfl) (fun _ _ _ h => h) (by rfl) (fun w' hw' => ?_) ?_
                        rotate_left
                        · go_simp; try with_reducible rfl
                        try simp only [List.getElem_toArray, List.getElem_cons_succ, List.getElem_cons_zero, Act.put, List.setIfInBounds_toArray, List.set_cons_zero, List.set_cons_succ]
                        refine seqx_take 6 rfl (by kernel_rfl) (fun _ _ _ h => h) (by rfl) (fun w' hw' => (seq_ldII rfl rfl (keeps_cell hw' (by (intro h; have h : cb = lb ∨ cb = tb := h; have := HLW.out; omega)) (C3.out.1))) w' (Below.refl _ _)) ?_
                        try simp only [List.getElem_toArray, List.getElem_cons_succ, List.getElem_cons_zero, Act.put, List.setIfInBounds_toArray, List.set_cons_zero, List.set_cons_succ]
                        refine seqx_take 7 (v := ?_) rfl (by kernel_rfl) (fun _ _ _ h => h) (by rfl) (fun w' hw' => ?_) ?_
                        rotate_left
                        · go_simp; try with_reducible rfl
                        try simp only [List.getElem_toArray, List.getElem_cons_succ, List.getElem_cons_zero, Act.put, List.setIfInBounds_toArray, List.set_cons_zero, List.set_cons_succ]
                        refine seqx_take 8 rfl (by kernel_rfl) (fun _ _ _ h => h) (by rfl) (fun w' hw' => (seq_ldi rfl rfl (keeps_cell hw' (by (intro h; first | exact h | (simp at h; omega) | omega)) (M.out.1))) w' (Below.refl _ _)) ?_
                        try simp only [List.getElem_toArray, List.getElem_cons_succ, List.getElem_cons_zero, Act.put, List.setIfInBounds_toArray, List.set_cons_zero, List.set_cons_succ]
                        refine seqx_take 9 (v := ?_) rfl (by kernel_rfl) (fun _ _ _ h => h) (by rfl) (fun w' hw' => ?_) ?_
                        rotate_left
                        · go_simp; try with_reducible rfl
                        try simp only [List.getElem_toArray, List.getElem_cons_succ, List.getElem_cons_zero, Act.put, List.setIfInBounds_toArray, List.set_cons_zero, List.set_cons_succ]
                        refine seqx_take 10 rfl (by kernel_rfl) (fun _ _ _ h => h) (by rfl) (fun w' hw' => (seq_ldi rfl rfl (keeps_cell hw' (by (intro h; first | exact h | (simp at h; omega) | omega)) (M.out.2.1))) w' (Below.refl _ _)) ?_
                        try simp only [List.getElem_toArray, List.getElem_cons_succ, List.getElem_cons_zero, Act.put, List.setIfInBounds_toArray, List.set_cons_zero, List.set_cons_succ]
                        refine seqx_take 11 (v := ?_) rfl (by kernel_rfl) (fun _ _ _ h => h) (by rfl) (fun w' hw' => ?_) ?_
                        rotate_left
                        · go_simp; try with_reducible rfl
                        try simp only [List.getElem_toArray, List.getElem_cons_succ, List.getElem_cons_zero, Act.put, List.setIfInBounds_toArray, List.set_cons_zero, List.set_cons_succ]
                        have cT3 := C3.out.2.1
                        have fT3 := C3.out.2.2
                        refine seqx_run 12 rfl (by kernel_rfl) (by rfl) (fun KK hKK => ?_)
                        go_wp2_with fail
                        refine ⟨Keeps.of_grown (setCell_grown0 _ _ _ _) (.inr rfl), ?_⟩
                        clear cT3 fT3
                        obtain ⟨W4, hW4⟩ : ∃ W4, W3.setCell ⟨tb, j, none⟩ (.bool true) = W4 := ⟨_, rfl⟩
                        rw [hW4]
                        have hk34 : Keeps (fun b => b = tb) W3 W4 := by rw [← hW4]; exact Keeps.of_grown (setCell_grown0 _ _ _ _) rfl
                        have hl4 : W4.heap[lb]? = _ := (hk34.block lb (by omega) (fun h => by have := HLW.out; omega)).trans M.out.2.2.2.1
                        have ht4 : W4.heap[tb]? = some (.cells ((T.set j true).map Value.bool).toArray 4 (0, 0)) := by
                          rw [← hW4, setCell_row0 j _ M.out.2.2.1]
                          simp [List.map_set]
                        have cL4 : W4.cell? ⟨lb, j, none⟩ = some (.int .i64 z) := (cell_of_row _ _ j _ _ (0, 0) hl4).trans (by simp [intsV, HT.out.2])
                        have fL4 := frozen_of_row W4 lb j _ _ hl4
                        have N := Lib.hid (And.intro hk34 (And.intro hl4 ht4))
                        clear hW4 hk34 hl4 ht4
                        refine seqx_take 13 (v := ?_) rfl (by kernel_rfl) (fun _ _ _ h => h) (by rfl) (fun w' hw' => ?_) ?_
                        rotate_left
                        · go_simp; try with_reducible rfl
                        try simp only [List.getElem_toArray, List.getElem_cons_succ, List.getElem_cons_zero, Act.put, List.setIfInBounds_toArray, List.set_cons_zero, List.set_cons_succ]
                        refine seqx_run 14 rfl (by kernel_rfl) (by rfl) (fun KK hKK => ?_)
                        go_wp2_with fail
                        refine ⟨Keeps.of_grown (setCell_grown0 _ _ _ _) (.inl rfl), ?_⟩
                        clear cL4 fL4
                        refine seqx_done (by kernel_rfl) ?_
                        go_wp2_with fail
                        go_roundw
                        case rel =>
                          have hk45 : Keeps (fun b => b = lb) W4 (W4.setCell ⟨lb, j, none⟩ (.int .i64 b)) := Keeps.of_grown (setCell_grown0 _ _ _ _) rfl
                          have hs4 := N.out.1.size
                          refine ⟨i + 1, L.set j b, T.set j true, by omega, by simp, HR.out.1.put HX.out.1 (by simp only; omega) hj2 hj1 rfl (.inr (by rw [HT.out.2, hzb])), ?_, (hk45.block tb (by omega) (fun h => by have := HLW.out; omega)).trans N.out.2.2, (M.out.2.2.2.2.2.trans' (N.out.1.mono (fun _ _ h => .inr h))).trans' (hk45.mono (fun _ _ h => .inl h)), HOPS.out ⟨fun h => by omega, fun h => by omega⟩⟩
                          rw [setCell_row0 j _ N.out.2.1]
                          simp [intsV, List.map_set]
                        case measure => simp [intOf]; omega
                      · skip
                        have hd7 : (z == b) = false := by simp [hzb]
                        have hd8 : decide (z = b) = false := decide_eq_false hzb
                        refine seq_start (by kernel_rfl) ?_
                        refine seq_take 0 (v := ?_) rfl (by kernel_rfl) (fun _ _ _ h => h) (by rfl) (fun w' hw' => ?_) ?_
                        rotate_left
                        · go_simp; try with_reducible rfl
                        try simp only [List.getElem_toArray, List.getElem_cons_succ, List.getElem_cons_zero, Act.put, List.setIfInBounds_toArray, List.set_cons_zero, List.set_cons_succ]
                        refine seq_take 1 (v := ?_) rfl (by kernel_rfl) (fun _ _ _ h => h) (by rfl) (fun w' hw' => ?_) ?_
                        rotate_left
                        · go_simp; try with_reducible rfl
                        try simp only [List.getElem_toArray, List.getElem_cons_succ, List.getElem_cons_zero, Act.put, List.setIfInBounds_toArray, List.set_cons_zero, List.set_cons_succ]
                        refine seq_take 2 rfl (by kernel_rfl) (fun _ _ _ h => h) (by rfl) (seq_ldi rfl rfl (KT.out.2.2.2.1)) ?_
                        try simp only [List.getElem_toArray, List.getElem_cons_succ, List.getElem_cons_zero, Act.put, List.setIfInBounds_toArray, List.set_cons_zero, List.set_cons_succ]
                        refine seq_take 3 (v := ?_) rfl (by kernel_rfl) (fun _ _ _ h => h) (by rfl) (fun w' hw' => ?_) ?_
                        rotate_left
                        · go_simp; try with_reducible rfl
                        try simp only [List.getElem_toArray, List.getElem_cons_succ, List.getElem_cons_zero, Act.put, List.setIfInBounds_toArray, List.set_cons_zero, List.set_cons_succ]
                        refine seq_take 4 rfl (by kernel_rfl) (fun _ _ _ h => h) (by rfl) (seq_ldB rfl rfl (KT.out.1)) ?_
                        try simp only [List.getElem_toArray, List.getElem_cons_succ, List.getElem_cons_zero, Act.put, List.setIfInBounds_toArray, List.set_cons_zero, List.set_cons_succ]
                        refine seq_take 5 (v := ?_) rfl (by kernel_rfl) (fun _ _ _ h => h) (by rfl) (fun w' hw' => ?_) ?_
                        rotate_left
                        · go_simp; try with_reducible rfl
                        try simp only [List.getElem_toArray, List.getElem_cons_succ, List.getElem_cons_zero, Act.put, List.setIfInBounds_toArray, List.set_cons_zero, List.set_cons_succ]
                        refine seq_take 6 (v := ?_) rfl (by kernel_rfl) (fun _ _ _ h => h) (by rfl) (fun w' hw' => ?_) ?_
                        rotate_left
                        · go_simp; try with_reducible rfl
                        try simp only [List.getElem_toArray, List.getElem_cons_succ, List.getElem_cons_zero, Act.put, List.setIfInBounds_toArray, List.set_cons_zero, List.set_cons_succ]
                        refine seq_take 7 (v := ?_) rfl (by kernel_rfl) (fun _ _ _ h => h) (by rfl) (fun w' hw' => ?_) ?_
                        rotate_left
                        · go_simp; try with_reducible rfl
                        try simp only [List.getElem_toArray, List.getElem_cons_succ, List.getElem_cons_zero, Act.put, List.setIfInBounds_toArray, List.set_cons_zero, List.set_cons_succ]
                        refine seq_take 8 (v := ?_) rfl (by kernel_rfl) (fun _ _ _ h => h) (by rfl) (fun w' hw' => ?_) ?_
                        rotate_left
                        · go_simp; try with_reducible rfl
                        try simp only [List.getElem_toArray, List.getElem_cons_succ, List.getElem_cons_zero, Act.put, List.setIfInBounds_toArray, List.set_cons_zero, List.set_cons_succ]
                        refine seq_take 9 (v := ?_) rfl (by kernel_rfl) (fun _ _ _ h => h) (by rfl) (fun w' hw' => ?_) ?_
                        rotate_left
                        · go_simp; try with_reducible rfl
                        try simp only [List.getElem_toArray, List.getElem_cons_succ, List.getElem_cons_zero, Act.put, List.setIfInBounds_toArray, List.set_cons_zero, List.set_cons_succ]
                        refine seq_take 10 rfl (by kernel_rfl) (fun _ _ _ h => h) (by rfl) (seq_ldII rfl rfl (KT.out.2.2.1)) ?_
                        try simp only [List.getElem_toArray, List.getElem_cons_succ, List.getElem_cons_zero, Act.put, List.setIfInBounds_toArray, List.set_cons_zero, List.set_cons_succ]
                        refine seq_take 11 (v := ?_) rfl (by kernel_rfl) (fun _ _ _ h => h) (by rfl) (fun w' hw' => ?_) ?_
                        rotate_left
                        · go_simp; try with_reducible rfl
                        try simp only [List.getElem_toArray, List.getElem_cons_succ, List.getElem_cons_zero, Act.put, List.setIfInBounds_toArray, List.set_cons_zero, List.set_cons_succ]
                        refine seq_take 12 rfl (by kernel_rfl) (fun _ _ _ h => h) (by rfl) (seq_ldi rfl rfl (KT.out.2.2.2.1)) ?_
                        try simp only [List.getElem_toArray, List.getElem_cons_succ, List.getElem_cons_zero, Act.put, List.setIfInBounds_toArray, List.set_cons_zero, List.set_cons_succ]
                        refine seq_take 13 (v := ?_) rfl (by kernel_rfl) (fun _ _ _ h => h) (by rfl) (fun w' hw' => ?_) ?_
                        rotate_left
                        · go_simp; try with_reducible rfl
                        try simp only [List.getElem_toArray, List.getElem_cons_succ, List.getElem_cons_zero, Act.put, List.setIfInBounds_toArray, List.set_cons_zero, List.set_cons_succ]
                        refine seq_take 14 rfl (by kernel_rfl) (fun _ _ _ h => h) (by rfl) (seq_ldi rfl rfl (KT.out.2.1)) ?_
                        try simp only [List.getElem_toArray, List.getElem_cons_succ, List.getElem_cons_zero, Act.put, List.setIfInBounds_toArray, List.set_cons_zero, List.set_cons_succ]
                        refine seq_take 15 (v := ?_) rfl (by kernel_rfl) (fun _ _ _ h => h) (by rfl) (fun w' hw' => ?_) ?_
                        rotate_left
                        · go_simp; try with_reducible rfl
                        try simp only [List.getElem_toArray, List.getElem_cons_succ, List.getElem_cons_zero, Act.put, List.setIfInBounds_toArray, List.set_cons_zero, List.set_cons_succ]
                        refine seq_take 16 rfl (by kernel_rfl) (fun _ _ _ h => h) (by rfl) (seq_ldi rfl rfl (KT.out.2.2.2.2)) ?_
                        try simp only [List.getElem_toArray, List.getElem_cons_succ, List.getElem_cons_zero, Act.put, List.setIfInBounds_toArray, List.set_cons_zero, List.set_cons_succ]
                        refine seq_take 17 (v := ?_) rfl (by kernel_rfl) (fun _ _ _ h => h) (by rfl) (fun w' hw' => ?_) ?_
                        rotate_left
                        · go_simp; try with_reducible rfl
                        try simp only [List.getElem_toArray, List.getElem_cons_succ, List.getElem_cons_zero, Act.put, List.setIfInBounds_toArray, List.set_cons_zero, List.set_cons_succ]
                        refine seq_take 18 (v := ?_) rfl (by kernel_rfl) (fun _ _ _ h => h) (by rfl) (fun w' hw' => ?_) ?_
                        rotate_left
                        · go_simp; try with_reducible rfl
                        try simp only [List.getElem_toArray, List.getElem_cons_succ, List.getElem_cons_zero, Act.put, List.setIfInBounds_toArray, List.set_cons_zero, List.set_cons_succ]
                        refine seq_run 19 rfl (by kernel_rfl) (by rfl) (fun KK hKK => ?_)
                        go_wp2_with fail
                        refine (need_any false W1.drew.drew).mono ?_
                        rintro e w1 ⟨hn, rfl⟩
                        obtain ⟨_, rfl⟩ : True ∧ e = .panicked [disP] := by
                          rcases hn with ⟨h, _⟩ | ⟨_, h⟩
                          · cases h
                          · exact ⟨trivial, h⟩
                        clear hn
                        go_wp2_with fail
                        exact ⟨rfl, HB1.out.drew.drew, .inr ⟨HR.out.1.fail HX.out.1 (by simp only; omega) hj2 rfl HT.out.1 (fun h => hzb (by rw [HT.out.2] at h; exact Option.some.inj h)) flC, rfl⟩⟩
                · skip
                  go_wp2_with fail
                  have K0 := Lib.hid (show W1.drew.cell? ⟨wr.heap.size, 0, none⟩ = _ from k0)
                  clear k0 k1 k2
                  have hd5 : ((k : Int) == 12) = false := by simp; omega
                  have hd6 : decide ((k : Int) = 12) = false := decide_eq_false (by omega)
                  refine seq_start (by kernel_rfl) ?_
                  refine seq_take 0 (v := ?_) rfl (by kernel_rfl) (fun _ _ _ h => h) (by rfl) (fun w' hw' => ?_) ?_
                  rotate_left
                  · go_simp; try with_reducible rfl
                  try simp only [List.getElem_toArray, List.getElem_cons_succ, List.getElem_cons_zero, Act.put, List.setIfInBounds_toArray, List.set_cons_zero, List.set_cons_succ]
                  refine seq_take 1 rfl (by kernel_rfl) (fun _ _ _ h => h) (by rfl) (seq_ldi rfl rfl (K0.out)) ?_
                  try simp only [List.getElem_toArray, List.getElem_cons_succ, List.getElem_cons_zero, Act.put, List.setIfInBounds_toArray, List.set_cons_zero, List.set_cons_succ]
                  refine seq_take 2 (v := ?_) rfl (by kernel_rfl) (fun _ _ _ h => h) (by rfl) (fun w' hw' => ?_) ?_
                  rotate_left
                  · go_simp; try with_reducible rfl
                  try simp only [List.getElem_toArray, List.getElem_cons_succ, List.getElem_cons_zero, Act.put, List.setIfInBounds_toArray, List.set_cons_zero, List.set_cons_succ]
                  refine seq_take 3 (v := ?_) rfl (by kernel_rfl) (fun _ _ _ h => h) (by rfl) (fun w' hw' => ?_) ?_
                  rotate_left
                  · go_simp; try with_reducible rfl
                  try simp only [List.getElem_toArray, List.getElem_cons_succ, List.getElem_cons_zero, Act.put, List.setIfInBounds_toArray, List.set_cons_zero, List.set_cons_succ]
                  refine seq_skip 4 rfl (by kernel_rfl) (fun _ _ _ h => h) (by rfl) ?_
                  try simp only [List.getElem_toArray, List.getElem_cons_succ, List.getElem_cons_zero, Act.put, List.setIfInBounds_toArray, List.set_cons_zero, List.set_cons_succ]
                  refine seq_skip 5 rfl (by kernel_rfl) (fun _ _ _ h => h) (by rfl) ?_
                  try simp only [List.getElem_toArray, List.getElem_cons_succ, List.getElem_cons_zero, Act.put, List.setIfInBounds_toArray, List.set_cons_zero, List.set_cons_succ]
                  refine seq_skip 6 rfl (by kernel_rfl) (fun _ _ _ h => h) (by rfl) ?_
                  try simp only [List.getElem_toArray, List.getElem_cons_succ, List.getElem_cons_zero, Act.put, List.setIfInBounds_toArray, List.set_cons_zero, List.set_cons_succ]
                  refine seq_skip 7 rfl (by kernel_rfl) (fun _ _ _ h => h) (by rfl) ?_
                  try simp only [List.getElem_toArray, List.getElem_cons_succ, List.getElem_cons_zero, Act.put, List.setIfInBounds_toArray, List.set_cons_zero, List.set_cons_succ]
                  refine seq_skip 8 rfl (by kernel_rfl) (fun _ _ _ h => h) (by rfl) ?_
                  try simp only [List.getElem_toArray, List.getElem_cons_succ, List.getElem_cons_zero, Act.put, List.setIfInBounds_toArray, List.set_cons_zero, List.set_cons_succ]
                  refine seq_skip 9 rfl (by kernel_rfl) (fun _ _ _ h => h) (by rfl) ?_
                  try simp only [List.getElem_toArray, List.getElem_cons_succ, List.getElem_cons_zero, Act.put, List.setIfInBounds_toArray, List.set_cons_zero, List.set_cons_succ]
                  refine seq_skip 10 rfl (by kernel_rfl) (fun _ _ _ h => h) (by rfl) ?_
                  try simp only [List.getElem_toArray, List.getElem_cons_succ, List.getElem_cons_zero, Act.put, List.setIfInBounds_toArray, List.set_cons_zero, List.set_cons_succ]
                  refine seq_skip 11 rfl (by kernel_rfl) (fun _ _ _ h => h) (by rfl) ?_
                  try simp only [List.getElem_toArray, List.getElem_cons_succ, List.getElem_cons_zero, Act.put, List.setIfInBounds_toArray, List.set_cons_zero, List.set_cons_succ]
                  refine seq_skip 12 rfl (by kernel_rfl) (fun _ _ _ h => h) (by rfl) ?_
                  try simp only [List.getElem_toArray, List.getElem_cons_succ, List.getElem_cons_zero, Act.put, List.setIfInBounds_toArray, List.set_cons_zero, List.set_cons_succ]
                  refine seq_skip 13 rfl (by kernel_rfl) (fun _ _ _ h => h) (by rfl) ?_
                  try simp only [List.getElem_toArray, List.getElem_cons_succ, List.getElem_cons_zero, Act.put, List.setIfInBounds_toArray, List.set_cons_zero, List.set_cons_succ]
                  refine seq_take 14 (v := ?_) rfl (by kernel_rfl) (fun _ _ _ h => h) (by rfl) (fun w' hw' => ?_) ?_
                  rotate_left
                  · go_simp; try with_reducible rfl
                  try simp only [List.getElem_toArray, List.getElem_cons_succ, List.getElem_cons_zero, Act.put, List.setIfInBounds_toArray, List.set_cons_zero, List.set_cons_succ]
                  refine seq_done (by kernel_rfl) ?_
                  go_wp2_with fail
                  go_roundw
                  case rel =>
                    refine ⟨i + 1, L, T, by omega, by simp, HR.out.1.skip HX.out.1 (fun h => by simp only at h; omega), H5.out.2.1, H5.out.2.2.1, H5.out.1.trans' (Keeps.drew _ _), HOPS.out ?_⟩
                    constructor <;> intro h <;> omega
                  case measure => simp [intOf]; omega
              · skip
                have hd7 : (a == 0) = false := by simp [hna]
                have hd8 : decide (a = 0) = false := decide_eq_false hna
                go_wp2_with fail
                refine (need_any false W1).mono ?_
                rintro e w1 ⟨hn, rfl⟩
                obtain ⟨_, rfl⟩ : True ∧ e = .panicked [disP] := by
                  rcases hn with ⟨h, _⟩ | ⟨_, h⟩
                  · cases h
                  · exact ⟨trivial, h⟩
                clear hn
                go_wp2_with fail
                exact ⟨rfl, HB1.out, .inr ⟨HBAD.out (fun h => hna (h.1 trivial)), rfl⟩⟩
              · skip
                have hd7 : (b == 0) = false := by simp [hnb]
                have hd8 : decide (b = 0) = false := decide_eq_false hnb
                go_wp2_with fail
                refine (need_any false W1).mono ?_
                rintro e w1 ⟨hn, rfl⟩
                obtain ⟨_, rfl⟩ : True ∧ e = .panicked [disP] := by
                  rcases hn with ⟨h, _⟩ | ⟨_, h⟩
                  · cases h
                  · exact ⟨trivial, h⟩
                clear hn
                go_wp2_with fail
                exact ⟨rfl, HB1.out, .inr ⟨HBAD.out (fun h => hnb (h.2 (by omega))), rfl⟩⟩
              · skip
                have hd7 : (b == 0) = false := by simp [hnb]
                have hd8 : decide (b = 0) = false := decide_eq_false hnb
                go_wp2_with fail
                refine (need_any false W1).mono ?_
                rintro e w1 ⟨hn, rfl⟩
                obtain ⟨_, rfl⟩ : True ∧ e = .panicked [disP] := by
                  rcases hn with ⟨h, _⟩ | ⟨_, h⟩
                  · cases h
                  · exact ⟨trivial, h⟩
                clear hn
                go_wp2_with fail
                exact ⟨rfl, HB1.out, .inr ⟨HBAD.out (fun h => hnb (h.2 (by omega))), rfl⟩⟩
            -- END A
          · obtain rfl : i = c.ins.length := by omega
            have hd1 : decide ((c.ins.length : Int) < (c.ins.length : Int)) = false := decide_eq_false (by omega)
            have hfr := HR.out.1.frees
            have hb1 := of_decide_eq_true HQ.out.1
            have hb2 := of_decide_eq_true HQ.out.2.1
            have hb4 := of_decide_eq_true HQ.out.2.2.2
            have hpre : Pre c := ⟨by omega, by omega, by omega, by omega, HQ.out.2.2.1, hb4.1, hb4.2, fun s hs => by
              obtain ⟨k, hk, rfl⟩ := List.getElem_of_mem hs
              exact HA.out k hk hk, fun x hx => by
              obtain ⟨k, hk, rfl⟩ := List.getElem_of_mem hx
              exact HR.out.2.2.2.2.1 k _ hk (List.getElem?_eq_getElem hk)⟩
            have hlen := HR.out.1.len
            have hmw := H.out.2.1.keeps hkw (fun b hb h => by have := HLW.out; omega)
            have hlbl := (Array.getElem?_eq_some_iff.1 HR.out.2.1).1
            obtain ⟨s, hs⟩ : ∃ s : CS, s = ⟨cb, mb, io, so, fo, some ⟨lb, 0, none⟩, icap, scap, fcap, c.funs.length⟩ := ⟨_, rfl⟩
            have hchk : ChkAt B (fun _ => True) wr c L s none (fun _ => none) [] := by
              subst hs
              have hLW := HLW.out
              refine ⟨⟨0, by simp only [hlen]; exact HR.out.2.2.2.2.2.2, QueueAt.nil _ _⟩, hmw, At.blkrow HR.out.2.1, ⟨fun _ => none, H.out.2.2.1.keeps hkw (fun h => by omega), fun _ _ => rfl, fun z f h => by cases h⟩, hcb, ⟨hmb, by show mb < _; omega⟩, hne, ⟨fun h => (by cases h), fun h => (by cases h)⟩, fun b hb _ => ?_⟩
              obtain rfl : lb = b := by simpa [blk] using hb
              refine ⟨fun h => ?_, hlbl, trivial⟩
              rcases h with h | h | h
              · simp only at h; omega
              · simp only at h; omega
              · cases h
            have HC := Lib.hid (And.intro hchk (And.intro hfr (And.intro hpre (And.intro hlen (frees_r64 hfr (fun x hx => (hmw.insR x hx).2.2))))))
            have HSE := Lib.hid hs
            have c28 : wr.cell? ⟨cb, 2, none⟩ = some (.slice fo c.funs.length fcap) := cell_of_row _ _ 2 _ _ (0, 0) HR.out.2.2.2.2.2.2
            clear hfr hb1 hb2 hb4 hpre hlen hmw hlbl hchk hkw
            go_upto_block 4 with (fail)
            clear c28
            obtain ⟨w1, hw1⟩ : ∃ w1, w1 = wr := ⟨_, rfl⟩
            subst hw1
            go_wp2_with fail
            go_loopw [168] (fun v168 wq => ∃ k : Nat, k ≤ c.funs.length ∧ v168 = .int .i64 (k : Int) ∧ Waits B w0 c L s k c.ins.length wq) (fun v168 _ => c.funs.length - (intOf v168).toNat)
            case atStart => exact ⟨0, by omega, rfl, _, _, _, HC.out.1, Work.nil _ _ _, HB.out⟩
            case round =>
              obtain ⟨k, hk, rfl, S, W, wo, hch, hwk, hbw⟩ := hrel
              have HW := Lib.hid (And.intro hch (And.intro hwk hbw))
              have hwsz := hbw.size
              have hBw : B ≤ wr.heap.size := by omega
              clear hch hwk hbw
              by_cases hlt : k < c.funs.length
              · skip
                -- CUT B
                have hd2 : decide ((k : Int) < (c.funs.length : Int)) = true := decide_eq_true (by omega)
                have hfm : At wr fo (intsV c.funs) := by have := HW.out.1.code.funs; rw [HSE.out] at this; exact this
                obtain ⟨fb, ff, rfl, f0⟩ := hfm.exv k (by simpa [intsV] using hlt)
                rw [intsV_get c.funs k hlt] at f0
                obtain ⟨z, hz⟩ : ∃ z, c.funs[k] = z := ⟨_, rfl⟩
                have hzr : R64i z := by rw [← hz]; exact HW.out.1.code.funR _ (List.getElem_mem hlt)
                have hzs : c.funs[k]? = some z := by rw [List.getElem?_eq_getElem hlt, hz]
                rw [hz] at f0
                have hcome := come_any HW.out.1 hBw HC.out.2.2.1.i2 (fun y f hy => by have := (HW.out.2.1.range y f hy).len; have := HC.out.2.2.1.i2; omega) (by have := HW.out.2.1.cnt; have := HC.out.2.2.1.i2; omega) z hzr ⟨k, min (k : Int) 1, []⟩ (by show 0 ≤ 1000000; omega) (.agg #[.int .i64 (k : Int), .int .i64 (min (k : Int) 1), .slice none 0 0]) ⟨none, 0, rfl, Nat.le_refl _, by decide, At.nil _ _, fun b hb => (by cases hb)⟩
                have hscb : s.cb = cb := by rw [HSE.out]
                rw [hscb] at hcome
                have HCM := Lib.hid (And.intro hcome (And.intro hzs hzr))
                clear hcome hfm hz hzr hzs hscb
                go_wp2_with (refine op_min2 rfl _ _ _ rfl .i64 _ _ (min (k : Int) 1) rfl rfl rfl ?_)
                refine HCM.out.1.mono ?_
                rintro e w2 ⟨hk2, hres⟩
                have hb2 : Below B w0 w2 := HW.out.2.2.trans (hk2.below (fun i hi h => by have := (HW.out.1.Xl i h).1; omega) hBw)
                rcases hres with ⟨hok, rfl, wo2, hch2, hwo2⟩ | ⟨hno, rfl⟩
                · have HCH := Lib.hid (And.intro hb2 (And.intro hok (And.intro hch2 hwo2)))
                  clear hk2 hb2 hok hch2 hwo2
                  go_wp2_with fail
                  go_roundw
                  case rel =>
                    have hin := of_decide_eq_true HCH.out.2.1
                    refine ⟨k + 1, by omega, by simp, comeS S z ⟨k, min (k : Int) 1, []⟩, comeW S W z, wo2, HCH.out.2.2.1, ((HW.out.2.1.come HCH.out.2.1 ⟨hin.1, hin.2.1, by show 0 ≤ min (k : Int) 1; omega, hin.2.2.1, hlt, fun u hu => (by cases hu), by show 0 + c.ins.length ≤ c.ins.length; omega⟩ (fun F hF => (HW.out.2.1.start HCM.out.2.1 F hF).2.2.2)).started (fun a ha => ?_)), HCH.out.1⟩
                    rw [HCM.out.2.1] at ha
                    cases ha
                    exact comeS_at HCH.out.2.1
                  case measure => simp [intOf]; omega
                · have HNO := Lib.hid (And.intro hb2 hno)
                  clear hk2 hb2 hno
                  go_wp2_with fail
                  exact ⟨rfl, HNO.out.1, .inr ⟨HW.out.2.1.come_no HNO.out.2 (HW.out.2.1.start HCM.out.2.1) HC.out.2.1, rfl⟩⟩
                -- END B
              · obtain rfl : k = c.funs.length := by omega
                have hd2 : decide ((c.funs.length : Int) < (c.funs.length : Int)) = false := decide_eq_false (by omega)
                have HWT := Lib.hid (show Waits B w0 c L s c.funs.length c.ins.length wr from ⟨S, W, wo, HW.out⟩)
                clear HW hBw hwsz
                go_upto_block 6 with (fail)
                obtain ⟨w2, hw2⟩ : ∃ w2, w2 = wr := ⟨_, rfl⟩
                subst hw2
                go_wp2_with fail
                go_loopw [] (fun wq => ∃ n, Waits B w0 c L s c.funs.length n wq) (fun wq => leastN (fun n => Waits B w0 c L s c.funs.length n wq))
                case atStart => exact ⟨_, HWT.out⟩
                case round =>
                  obtain ⟨S, W, wo, hch, hwk, hbw⟩ := leastN_spec hrel
                  obtain ⟨n, hn⟩ : ∃ n, leastN (fun n => Waits B w0 c L s c.funs.length n wr) = n := ⟨_, rfl⟩
                  rw [hn] at hwk
                  have HN := Lib.hid hn
                  obtain ⟨wcap, hrow, hq⟩ := hch.row
                  have hBw : B ≤ wr.heap.size := by have := hch.cbl; have := hch.cb; omega
                  have hscb : s.cb = cb := by rw [HSE.out]
                  have HW := Lib.hid (And.intro hch (And.intro hwk (And.intro hbw hq)))
                  clear hch hwk hbw hn hq
                  cases W with
                  | nil =>
                    have c63 : wr.cell? ⟨cb, 6, none⟩ = some (.slice wo 0 wcap) := by rw [← hscb]; exact cell_of_row _ _ 6 _ _ (0, 0) hrow
                    clear hrow hscb
                    go_wp2_with fail
                    go_end0
                    exact ⟨HW.out.2.2.1, .inl ⟨HW.out.2.1.ord HC.out.2.2.1 HC.out.2.1, rfl⟩⟩
                  | cons z W =>
                    obtain ⟨hn1, hwk1, f, hf⟩ := HW.out.2.1.pop
                    have hin := HW.out.2.1.range z f hf
                    obtain ⟨zn, rfl⟩ : ∃ zn : Nat, z = (zn : Int) := ⟨z.toNat, by have := hin.lo; omega⟩
                    have hzl : zn < c.ins.length := by have := hin.hi; omega
                    have htl := HW.out.1.tailed hrow HW.out.2.2.2
                    have hst := step_any htl HC.out.2.2.1 (by simp; omega) HC.out.2.2.2.1 HC.out.2.2.2.2 (fun y f' hy => by have := (HW.out.2.1.range y f' hy).len; have := HC.out.2.2.1.i2; omega) (by have := HW.out.2.1.cnt; rw [List.length_cons] at this; have := hin.len; have := HC.out.2.2.1.i2; omega) zn hzl f hf hin.h0 hin.h1 hin.fn (fun _ _ => trivial)
                    have hX : ∀ i, i < B → ¬ s.X (tailOf wo wcap 1) i := fun i hi h => by have := (htl.Xl i h).1; omega
                    have hkt : Keeps (fun b => b = s.cb) wr (wr.setCell ⟨s.cb, 6, none⟩ (.slice (tailOf wo wcap 1) W.length (wcap - 1))) := Keeps.of_grown (setCell_grown0 _ _ _ _) rfl
                    have hbt : Below B w0 (wr.setCell ⟨s.cb, 6, none⟩ (.slice (tailOf wo wcap 1) W.length (wcap - 1))) := HW.out.2.2.1.trans (hkt.below (fun i hi h => by have := HW.out.1.cb; omega) hBw)
                    have HWS := Lib.hid (work_step HC.out.2.1 HC.out.2.2.1 hwk1 hf (List.getElem?_eq_getElem hzl) (by rw [Nat.sub_add_cancel hn1]; exact hin))
                    rw [hscb] at hst hbt hrow
                    have HST := Lib.hid (And.intro hst (And.intro hbt hX))
                    obtain ⟨qb, qo, rfl, q0⟩ := HW.out.2.2.2.head
                    have c63 : wr.cell? ⟨cb, 6, none⟩ = some (.slice (some ⟨qb, qo, none⟩) (W.length + 1) wcap) := cell_of_row _ _ 6 _ _ (0, 0) hrow
                    have f63 := frozen_of_row _ cb 6 _ _ hrow
                    clear hn1 hwk1 hf hin htl hst hX hkt hbt hrow hscb
                    go_wp2_with (refine op_tailI rfl _ _ rfl (some ⟨qb, qo, none⟩) (W.length + 1) wcap 1 W.length rfl rfl (by omega) (by omega) ?_)
                    refine HST.out.1.mono ?_
                    rintro e w3 ⟨hk3, hres⟩
                    have hb3 : Below B w0 w3 := HST.out.2.1.trans (hk3.below HST.out.2.2 (by simp; omega))
                    clear c63 f63 q0
                    rcases hres with ⟨S', W', wo', hok, hrun, rfl, hch3, hwo3⟩ | ⟨hno, rfl⟩
                    · have HR3 := Lib.hid (show Waits B w0 c L s c.funs.length (n - 1) w3 from ⟨S', W', wo', hch3, HWS.out.1 S' W' hok hrun, hb3⟩)
                      clear hok hrun hch3 hwo3 hk3 hb3
                      go_wp2_with fail
                      go_roundw
                      case rel => exact ⟨_, HR3.out⟩
                      case measure =>
                        have h1 := leastN_le (p := fun n => Waits B w0 c L s c.funs.length n w3) HR3.out
                        have h2 := HW.out.2.1.pop.1
                        have h3 := HN.out
                        omega
                    · have HNO := Lib.hid (And.intro hb3 (HWS.out.2 hno))
                      clear hk3 hb3 hno
                      go_wp2_with fail
                      exact ⟨rfl, HNO.out.1, .inr ⟨HNO.out.2, rfl⟩⟩
  · have HQ := Lib.hid (And.intro hq1 hq2)
    have hd3 : decide ((c.strs.length : Int) ≤ 4096) = false := decide_eq_false (by omega)
    have hd3' : decide (c.strs.length ≤ 4096) = false := decide_eq_false hq3
    clear hq1 hq2
    go_enter Tryd.func17, Tryd.ntmps17
    go_wp2_with fail
    refine (within_any (c.funs.length : Int) 1 4096 w).mono ?_
    rintro e w1 ⟨rfl, rfl⟩
    rw [HQ.out.1]
    go_wp2_with fail
    refine (within_any (c.ins.length : Int) 1 65536 w).mono ?_
    rintro e w1 ⟨rfl, rfl⟩
    rw [HQ.out.2]
    go_wp2_with fail
    refine (need_any false w).mono ?_
    rintro e w1 ⟨hn, rfl⟩
    obtain ⟨_, rfl⟩ : True ∧ e = .panicked [disP] := by
      rcases hn with ⟨h, _⟩ | ⟨_, h⟩
      · cases h
      · exact ⟨trivial, h⟩
    clear hn
    go_wp2_with fail
    refine ⟨rfl, Below.refl _ _, .inr ⟨?_, rfl⟩⟩
    rintro ⟨hp, _⟩
    have := hp.s
    omega
end Go.Proofs.YtnhdefaagicejaaDoor
