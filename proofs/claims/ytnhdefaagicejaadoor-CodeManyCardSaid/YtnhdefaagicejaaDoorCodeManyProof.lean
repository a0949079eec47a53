/- THE LAW CodeMany: a frame may be 10000 high, and not one more; there may be 65536 steps, 4096 functions and texts, and not one more. -/
import Derived.Test.YtnhdefaagicejaaDoorCodeL
import Derived.Test.YtnhdefaagicejaaDoorCodeTab
namespace Go.Proofs.YtnhdefaagicejaaDoor.codeMany
set_option linter.unusedSimpArgs false
set_option linter.unusedVariables false
open Go.ChangeShapes Go.WideShapes Go.ChangeAt Go.RowKit Go.ChangeMaps

theorem infoInsR : (Tryd.prog.info? 29).map (fun i => (i.zero, i.size, i.bytes)) = some (some (.agg #[.int .i64 0, .int .i64 0, .int .i64 0]), 3, 24) := by kernel_rfl
/-- A step more. -/
theorem app_insR {w : World} {ops : Array Oper} {rest : List Oper} {o : Oper} {a : Act} {Q : Exit → Act → World → Prop} (hgd : Region.wanted o (yielded ops a.tmps) = true) (s x : Operand)
    (ho : o.op = .call { callee := .builtin .append, args := #[s, x], argTypes := #[23, 23] })
    (base : Nat) (ao : Option Addr) (cap n : Nat) (l : List InsP) (hs : a.eval s = .slice ao n cap) (hown : w.ownsRow base 29 3 (.slice ao n cap) n (l.map insRow).flatten)
    (y : InsP) (g : Nat) (hx : a.eval x = .slice (some ⟨g, 0, none⟩) 1 1) (hat : At w (some ⟨g, 0, none⟩) (insRow y)) (hb : n ≤ 1000000000) (hbase : base ≤ w.heap.size)
    (h : ∀ ao' cap' w', w'.ownsRow base 29 3 (.slice ao' (n + 1) cap') (n + 1) ((l ++ [y]).map insRow).flatten → w.grownBy w' (blk ao) → (blk ao' = blk ao ∨ blk ao' = some w.heap.size) → wpList Tryd.prog ops Q rest (a.put o.dst (.slice ao' (n + 1) cap')) w') : wpList Tryd.prog ops Q (o :: rest) a w :=
  wpList_go hgd fun _ hK => by
    obtain ⟨i0, hi, hz0, hz1, hz2⟩ := info_parts infoInsR
    refine wp_append s x 23 23 ho base 29 i0 (.agg #[.int .i64 0, .int .i64 0, .int .i64 0]) 3 24 Tryd.underlying23 hi hz0 hz1 hz2 rfl _ n (l.map insRow).flatten hs hown _ 1 (insRow y) hx
      (hat.src Tryd.underlying23 rfl (by intro v hv; simp [insRow] at hv; rcases hv with rfl | rfl | rfl <;> rfl) (by decide)) (by unfold maxLen; omega) (by omega) hbase ?_
    intro ao' cap' w' g1 g2 g3
    rw [own_slice] at g2 g3
    exact hK _ _ (h ao' cap' w' (by simpa using g1) g2 g3)
/-- The code so far: its steps are a row of its own. -/
def Many (W : World) (g n : Nat) (l : List InsP) (wr : World) : Prop :=
  ∃ ao cap, wr.heap[g + 1]? = some (.cells #[.slice ao n cap, .slice none 0 0, .slice (some ⟨g, 0, none⟩) 1 1, .int .i64 0] 26 (0, 0)) ∧ wr.ownsRow W.heap.size 29 3 (.slice ao n cap) n (l.map insRow).flatten ∧ Keeps (fun b => b = g + 1 ∨ W.heap.size ≤ b) W wr
theorem many_start (w : World) : ((w.alloc (.cells #[.int .i64 0] 3)).alloc (.cells #[.slice none 0 0, .slice none 0 0, .slice (some ⟨w.heap.size, 0, none⟩) 1 1, .int .i64 0] 26)).heap.size = w.heap.size + 2 ∧ Below w.heap.size w ((w.alloc (.cells #[.int .i64 0] 3)).alloc (.cells #[.slice none 0 0, .slice none 0 0, .slice (some ⟨w.heap.size, 0, none⟩) 1 1, .int .i64 0] 26)) ∧ ((w.alloc (.cells #[.int .i64 0] 3)).alloc (.cells #[.slice none 0 0, .slice none 0 0, .slice (some ⟨w.heap.size, 0, none⟩) 1 1, .int .i64 0] 26)).heap[w.heap.size]? = some (.cells #[.int .i64 0] 3 (0, 0)) ∧
    Many ((w.alloc (.cells #[.int .i64 0] 3)).alloc (.cells #[.slice none 0 0, .slice none 0 0, .slice (some ⟨w.heap.size, 0, none⟩) 1 1, .int .i64 0] 26)) w.heap.size 0 [] ((w.alloc (.cells #[.int .i64 0] 3)).alloc (.cells #[.slice none 0 0, .slice none 0 0, .slice (some ⟨w.heap.size, 0, none⟩) 1 1, .int .i64 0] 26)) := by
  refine ⟨by simp, ((Below.refl _ w).alloc (Nat.le_refl _) _).alloc (by simp) _, ?_, none, 0, ?_, World.ownsRow_nil _ _ _ _, Keeps.refl _ _⟩
  · rw [Below.heap_alloc _ _ _ (by simp)]
    exact heap_alloc_new w _
  · have := heap_alloc_new (w.alloc (.cells #[.int .i64 0] 3)) (.cells #[.slice none 0 0, .slice none 0 0, .slice (some ⟨w.heap.size, 0, none⟩) 1 1, .int .i64 0] 26)
    simp only [World.size_alloc] at this
    exact this
/-- The code made; where its rows lie. -/
structure EndM (w : World) (g : Nat) (c : CodeP) (io so fo : Option Addr) (icap scap fcap : Nat) (w1 : World) : Prop where
  below : Below w.heap.size w w1
  row : w1.heap[g + 1]? = some (.cells #[.slice io c.ins.length icap, .slice so c.strs.length scap, .slice fo c.funs.length fcap, .int .i64 0] 26 (0, 0))
  mem : CodeMem w1 (fun b => b < w1.heap.size) c io so fo
  tab : ShTab w1
  il : c.ins.length ≤ 1000000
  sl : c.strs.length ≤ 1000000
  fl : c.funs.length ≤ 1000000
  gl : c.glob = 0
theorem EndM.next {w w1 w2 : World} {g : Nat} {c : CodeP} {io so fo : Option Addr} {icap scap fcap : Nat} (h : EndM w g c io so fo icap scap fcap w1) (hb : Below w1.heap.size w1 w2) : EndM w g c io so fo icap scap fcap w2 :=
  ⟨h.below.trans (hb.mono h.below.size), (hb.block _ (Array.getElem?_eq_some_iff.1 h.row).1).trans h.row, (h.mem.below hb).mono (fun b hb' => by have := hb.size; omega), shtab_below h.tab hb, h.il, h.sl, h.fl, h.gl⟩
theorem EndM.cells {w w1 : World} {g : Nat} {c : CodeP} {io so fo : Option Addr} {icap scap fcap : Nat} (h : EndM w g c io so fo icap scap fcap w1) :
    w1.cell? ⟨g + 1, 0, none⟩ = some (.slice io c.ins.length icap) ∧ w1.cell? ⟨g + 1, 1, none⟩ = some (.slice so c.strs.length scap) ∧ w1.cell? ⟨g + 1, 2, none⟩ = some (.slice fo c.funs.length fcap) ∧ w1.cell? ⟨g + 1, 3, none⟩ = some (.int .i64 0) :=
  ⟨cell_of_row _ _ 0 _ _ (0, 0) h.row, cell_of_row _ _ 1 _ _ (0, 0) h.row, cell_of_row _ _ 2 _ _ (0, 0) h.row, cell_of_row _ _ 3 _ _ (0, 0) h.row⟩
theorem many_end {w W w1 : World} {g n : Nat} {l : List InsP} (h : Many W g n l w1) (hn : l.length = n) (hw : Below g w W) (hg : g = w.heap.size) (hs : W.heap.size = g + 2) (hf : W.heap[g]? = some (.cells #[.int .i64 0] 3 (0, 0))) (ht : ShTab w) (hn2 : n ≤ 1000000) (hr : ∀ x ∈ l, R64i x.op ∧ R64i x.a ∧ R64i x.b) :
    ∃ io icap, EndM w g ⟨l, [], [0], 0⟩ io none (some ⟨g, 0, none⟩) icap 0 1 w1 := by
  obtain ⟨ao, cap, h1, h2, h3⟩ := h
  have hs3 := h3.size
  subst hn
  have hbw : Below w.heap.size w w1 := by
    rw [← hg]
    exact hw.trans (h3.below (fun i hi h => by omega) (by omega))
  have hf1 : w1.heap[g]? = _ := (h3.block g (by omega) (fun h => by omega)).trans hf
  refine ⟨ao, cap, hbw, h1, ⟨rowsAt_of_flat3 (At.own h2) (by intro r hr'; obtain ⟨x, _, rfl⟩ := List.mem_map.1 hr'; rfl), .inl rfl, ?_, fun b hb _ => (h2.lt b (by rw [own_slice]; exact hb)).2, fun b hb => (by cases hb), fun b hb _ => (by cases hb; exact (Array.getElem?_eq_some_iff.1 hf1).1), hr, fun s hs' => (by cases hs'), fun z hz => (by simp at hz; subst hz; exact ⟨by decide, by decide⟩)⟩, shtab_below ht hbw, hn2, by simp, by simp, rfl⟩
  refine .inr ⟨g, 0, rfl, fun j v hj => ?_⟩
  have := cell_of_row w1 g j _ _ (0, 0) hf1
  rw [Nat.zero_add, this]
  simpa [intsV] using hj
theorem many_step {W wr w5 : World} {g i : Nat} {ao ao2 : Option Addr} {cap cap2 : Nat} {l : List InsP} {y : InsP} {cs : Array Value} {t : TypeId}
    (hr : wr.heap[g + 1]? = some (.cells #[.slice ao i cap, .slice none 0 0, .slice (some ⟨g, 0, none⟩) 1 1, .int .i64 0] 26 (0, 0)))
    (hown : wr.ownsRow W.heap.size 29 3 (.slice ao i cap) i (l.map insRow).flatten) (hk : Keeps (fun b => b = g + 1 ∨ W.heap.size ≤ b) W wr) (hs : W.heap.size = g + 2) (_ : i ≤ 1000000000)
    (q1 : w5.ownsRow W.heap.size 29 3 (.slice ao2 (i + 1) cap2) (i + 1) ((l ++ [y]).map insRow).flatten) (q2 : (wr.alloc (.cells cs t)).grownBy w5 (blk ao)) (_q3 : blk ao2 = blk ao ∨ blk ao2 = some (wr.alloc (.cells cs t)).heap.size) :
    w5.cell? ⟨g + 1, 0, none⟩ = some (.slice ao i cap) ∧ w5.frozen? ⟨g + 1, 0, none⟩ = false ∧ Many W g (i + 1) (l ++ [y]) (w5.setCell ⟨g + 1, 0, none⟩ (.slice ao2 (i + 1) cap2)) := by
  have hao : ∀ b, blk ao = some b → W.heap.size ≤ b := fun b hb => (hown.lt b (by rw [own_slice]; exact hb)).1
  have hao2 : ∀ b, blk ao2 = some b → W.heap.size ≤ b := fun b hb => (q1.lt b (by rw [own_slice]; exact hb)).1
  have hk5 : Keeps (fun b => blk ao = some b) wr w5 := (Keeps.of_below ((Below.refl _ wr).alloc (Nat.le_refl _) _)).trans' (Keeps.of_grown' q2 (fun b hb => hb))
  have hsk := hk.size
  have hr5 : w5.heap[g + 1]? = _ := (hk5.block (g + 1) (by omega) (fun h => by have := hao _ h; omega)).trans hr
  have hk6 : Keeps (fun b => b = g + 1) w5 (w5.setCell ⟨g + 1, 0, none⟩ (.slice ao2 (i + 1) cap2)) := Keeps.of_grown (setCell_grown0 _ _ _ _) rfl
  refine ⟨cell_of_row _ _ 0 _ _ (0, 0) hr5, frozen_of_row w5 (g + 1) 0 _ _ hr5, ao2, cap2, ?_, ?_, (hk.trans' (hk5.mono (fun b _ h => .inr (hao b h)))).trans' (hk6.mono (fun _ _ h => .inl h))⟩
  · rw [setCell_row0 0 _ hr5]
    rfl
  · exact owns_keeps q1 hk6 (fun b hb h => by rw [own_slice] at hb; have := hao2 b hb; omega)
set_option maxRecDepth 100000 in
set_option maxHeartbeats 4000000 in
theorem high (what n : Int) (hw : wrap64 ((IntKind.u64.wrap what).tmod 4) = 0) (w : World) (ht : ShTab w) :
    Calls Tryd.prog 3 #[.int .i64 what, .int .i64 n] w (Says w (.bool true)) := by
  obtain ⟨j, hj, hje⟩ := cutmod0 n 5 (by decide) (by decide)
  have hje' : wrap64 ((IntKind.u64.wrap n).tmod 5) = (j : Int) := hje
  have HT := Lib.hid ht
  clear ht hje
  go_enter Tryd.func3, Tryd.ntmps3
  go_wp2_with fail
  obtain ⟨g, hg⟩ : ∃ g, g = w.heap.size := ⟨_, rfl⟩
  obtain ⟨W, hW⟩ : ∃ W, (w.alloc (.cells #[.int .i64 0] 3)).alloc (.cells #[.slice none 0 0, .slice none 0 0, .slice (some ⟨w.heap.size, 0, none⟩) 1 1, .int .i64 0] 26) = W := ⟨_, rfl⟩
  rw [hW]
  have hst := many_start w
  rw [hW] at hst
  rw [← hg] at hst ⊢
  have HS := Lib.hid (And.intro hst hg)
  have HE := Lib.hid (And.intro hw hje')
  clear hst hW hg hw hje'
  go_loopw [7] (fun v7 wr => ∃ i : Nat, i ≤ 9998 + j ∧ v7 = .int .i64 (i : Int) ∧ Many W g i (List.replicate i ⟨3, 0, 0⟩) wr) (fun v7 _ => 10010 - (intOf v7).toNat)
  case atStart => exact ⟨0, by omega, rfl, HS.out.1.2.2.2⟩
  case round =>
    obtain ⟨i, hi, rfl, hm⟩ := hrel
    obtain ⟨ao, cap, hr, hown, hk⟩ := hm
    have hs1 := HS.out.1.1
    have hsk := hk.size
    have c0 : wr.cell? ⟨g + 1, 0, none⟩ = some (.slice ao i cap) := cell_of_row _ _ 0 _ _ (0, 0) hr
    have HM := Lib.hid (And.intro hr (And.intro hown (And.intro hk hs1)))
    clear hr hown hk
    by_cases hlt : i < 9998 + j
    · have hd1 : decide ((i : Int) < 9998 + (j : Int)) = true := decide_eq_true (by omega)
      go_wp2_with (refine app_insR rfl _ _ rfl W.heap.size ao cap i _ rfl (owns_below HM.out.2.1 ((Below.refl _ _).alloc (Nat.le_refl _) _)) ⟨3, 0, 0⟩ wr.heap.size rfl (At.new wr #[.int .i64 3, .int .i64 0, .int .i64 0] _) (by omega) (by simp; omega) ?_; rintro ao2 cap2 w5 q1 q2 q3; have hm5 := many_step HM.out.1 HM.out.2.1 HM.out.2.2.1 HM.out.2.2.2 (by omega) q1 q2 q3; have c5 : w5.cell? ⟨g + 1, 0, none⟩ = some (.slice ao i cap) := hm5.1; have f5 : w5.frozen? ⟨g + 1, 0, none⟩ = false := hm5.2.1; have H5 := Lib.hid hm5.2.2; clear q1 q2 q3 hm5 c0)
      go_roundw
      case rel => exact ⟨i + 1, by omega, by simp, by have := H5.out; rwa [← List.replicate_succ'] at this⟩
      case measure => simp [intOf]; omega
    · obtain rfl : i = 9998 + j := by omega
      have hd1 : decide (((9998 + j : Nat) : Int) < 9998 + (j : Int)) = false := decide_eq_false (by omega)
      have hw := HE.out.1
      go_wp2_with (refine app_insR rfl _ _ rfl W.heap.size ao cap (9998 + j) _ rfl (owns_below HM.out.2.1 ((Below.refl _ _).alloc (Nat.le_refl _) _)) ⟨28, 0, 0⟩ wr.heap.size rfl (At.new wr #[.int .i64 28, .int .i64 0, .int .i64 0] _) (by omega) (by simp; omega) ?_; rintro ao2 cap2 w5 q1 q2 q3; have hm5 := many_step HM.out.1 HM.out.2.1 HM.out.2.2.1 HM.out.2.2.2 (by omega) q1 q2 q3; have c5 : w5.cell? ⟨g + 1, 0, none⟩ = some (.slice ao (9998 + j) cap) := hm5.1; have f5 : w5.frozen? ⟨g + 1, 0, none⟩ = false := hm5.2.1; have H5 := Lib.hid hm5.2.2; clear q1 q2 q3 hm5 c0)
      obtain ⟨WE, hWE⟩ : ∃ WE, w5.setCell ⟨g + 1, 0, none⟩ (.slice ao2 (9998 + j + 1) cap2) = WE := ⟨_, rfl⟩
      have hm6 := H5.out
      rw [hWE] at hm6 ⊢
      obtain ⟨io, icap, hend⟩ := many_end hm6 (by simp) HS.out.1.2.1 HS.out.2 HS.out.1.1 HS.out.1.2.2.1 HT.out (by omega) (by
        intro x hx
        simp at hx
        rcases hx with ⟨_, rfl⟩ | rfl <;> exact ⟨⟨by decide, by decide⟩, ⟨by decide, by decide⟩, ⟨by decide, by decide⟩⟩)
      have HO := Lib.hid (show Ord flC ⟨List.replicate (9998 + j) ⟨3, 0, 0⟩ ++ [⟨28, 0, 0⟩], [], [0], 0⟩ ↔ 9998 + j ≤ 10000 from high_ord flC (9998 + j))
      obtain ⟨c, hc⟩ : ∃ c : CodeP, ⟨List.replicate (9998 + j) ⟨3, 0, 0⟩ ++ [⟨28, 0, 0⟩], [], [0], 0⟩ = c := ⟨_, rfl⟩
      have HOc := Lib.hid (show Ord flC c ↔ 9998 + j ≤ 10000 by rw [← hc]; exact HO.out)
      rw [hc] at hend
      have HEnd := Lib.hid hend
      clear hend hc HO hm6 hWE c5 f5 hd1 H5 HM
      refine (codes_any _ HEnd.out.tab).mono ?_
      rintro e w1 ⟨rfl, hb1⟩
      have hend1 := HEnd.out.next hb1
      obtain ⟨k0, k1, k2, k3⟩ := hend1.cells
      have HE1 := Lib.hid hend1
      clear hb1 hend1
      go_wp2_with fail
      have hto := to_any (icap := icap) (scap := 0) (fcap := 1) HE1.out.mem HE1.out.il HE1.out.sl HE1.out.fl
      rw [HE1.out.gl] at hto
      refine hto.mono ?_
      rintro e w2 ⟨hb2, io2, so2, fo2, icap2, scap2, fcap2, rfl, hmem2⟩
      have HE2 := Lib.hid (And.intro hmem2 (And.intro (shtab_below HE1.out.tab hb2) (HE1.out.below.trans (hb2.mono HE1.out.below.size))))
      clear hb2 hmem2 hto k0 k1 k2 k3
      go_wp2_with fail
      refine (verify_any HE2.out.1 HE2.out.2.1 (by have := HE1.out.il; omega) (by have := HE1.out.sl; omega) (by have := HE1.out.fl; omega) (by rw [HE1.out.gl]; exact ⟨by decide, by decide⟩)).mono ?_
      rintro e w3 ⟨hb3, hres⟩
      have HB3 := Lib.hid (HE2.out.2.2.trans (hb3.mono HE2.out.2.2.size))
      clear hb3
      rcases hres with ⟨ho, rfl⟩ | ⟨hno, rfl⟩
      · have hle : decide (9998 + (j : Int) ≤ 10000) = true := decide_eq_true (by have := HOc.out.1 ho; omega)
        clear ho
        go_wp2_with fail
        go_ret
        exact ⟨rfl, HB3.out⟩
      · have hle : decide (9998 + (j : Int) ≤ 10000) = false := decide_eq_false (fun h => hno (HOc.out.2 (by omega)))
        clear hno
        go_wp2_with fail
        go_ret
        exact ⟨rfl, HB3.out⟩
-- LONG
set_option maxRecDepth 100000 in
set_option maxHeartbeats 4000000 in
theorem long (what n : Int) (hw : wrap64 ((IntKind.u64.wrap what).tmod 4) = 1) (w : World) (ht : ShTab w) :
    Calls Tryd.prog 3 #[.int .i64 what, .int .i64 n] w (Says w (.bool true)) := by
  obtain ⟨j, hj, hje⟩ := cutmod0 n 5 (by decide) (by decide)
  have hje' : wrap64 ((IntKind.u64.wrap n).tmod 5) = (j : Int) := hje
  have HT := Lib.hid ht
  clear ht hje
  go_enter Tryd.func3, Tryd.ntmps3
  go_wp2_with fail
  obtain ⟨g, hg⟩ : ∃ g, g = w.heap.size := ⟨_, rfl⟩
  obtain ⟨W, hW⟩ : ∃ W, (w.alloc (.cells #[.int .i64 0] 3)).alloc (.cells #[.slice none 0 0, .slice none 0 0, .slice (some ⟨w.heap.size, 0, none⟩) 1 1, .int .i64 0] 26) = W := ⟨_, rfl⟩
  rw [hW]
  have hst := many_start w
  rw [hW] at hst
  rw [← hg] at hst ⊢
  have HS := Lib.hid (And.intro hst hg)
  have HE := Lib.hid (And.intro hw hje')
  clear hst hW hg hw hje'
  go_loopw [8] (fun v8 wr => ∃ i : Nat, 1 ≤ i ∧ i ≤ 65534 + j ∧ v8 = .int .i64 (i : Int) ∧ Many W g (i - 1) ((List.range (i - 1)).map (fun (i : Nat) => ⟨15, (i : Int) + 1, 0⟩)) wr) (fun v8 _ => 65550 - (intOf v8).toNat)
  case atStart => exact ⟨1, by omega, by omega, rfl, HS.out.1.2.2.2⟩
  case round =>
    obtain ⟨i, hi1, hi, rfl, hm⟩ := hrel
    obtain ⟨m, hm1⟩ : ∃ m, i - 1 = m := ⟨_, rfl⟩
    rw [hm1] at hm
    obtain ⟨ao, cap, hr, hown, hk⟩ := hm
    have hs1 := HS.out.1.1
    have hsk := hk.size
    have c0 : wr.cell? ⟨g + 1, 0, none⟩ = some (.slice ao m cap) := cell_of_row _ _ 0 _ _ (0, 0) hr
    have HM := Lib.hid (And.intro hr (And.intro hown (And.intro hk hs1)))
    clear hr hown hk
    by_cases hlt : i < 65534 + j
    · have hd1 : decide ((i : Int) < 65534 + (j : Int)) = true := decide_eq_true (by omega)
      go_wp2_with (refine app_insR rfl _ _ rfl W.heap.size ao cap m _ rfl (owns_below HM.out.2.1 ((Below.refl _ _).alloc (Nat.le_refl _) _)) ⟨15, (i : Int), 0⟩ wr.heap.size rfl (At.new wr #[.int .i64 15, .int .i64 (i : Int), .int .i64 0] _) (by omega) (by simp; omega) ?_; rintro ao2 cap2 w5 q1 q2 q3; have hm5 := many_step HM.out.1 HM.out.2.1 HM.out.2.2.1 HM.out.2.2.2 (by omega) q1 q2 q3; have c5 : w5.cell? ⟨g + 1, 0, none⟩ = some (.slice ao m cap) := hm5.1; have f5 : w5.frozen? ⟨g + 1, 0, none⟩ = false := hm5.2.1; have H5 := Lib.hid hm5.2.2; clear q1 q2 q3 hm5 c0)
      go_roundw
      case rel => 
        refine ⟨i + 1, by omega, by omega, by simp, ?_⟩
        have := H5.out
        rw [show i + 1 - 1 = m + 1 by omega, List.range_succ, List.map_append]
        rw [show (i : Int) = (m : Int) + 1 by omega] at this
        exact this
      case measure => simp [intOf]; omega
    · obtain rfl : m = 65533 + j := by omega
      obtain rfl : i = 65534 + j := by omega
      clear hm1
      have hd1 : decide (((65534 + j : Nat) : Int) < 65534 + (j : Int)) = false := decide_eq_false (by omega)
      have hw := HE.out.1
      go_wp2_with (refine app_insR rfl _ _ rfl W.heap.size ao cap (65533 + j) _ rfl (owns_below HM.out.2.1 ((Below.refl _ _).alloc (Nat.le_refl _) _)) ⟨28, 0, 0⟩ wr.heap.size rfl (At.new wr #[.int .i64 28, .int .i64 0, .int .i64 0] _) (by omega) (by simp; omega) ?_; rintro ao2 cap2 w5 q1 q2 q3; have hm5 := many_step HM.out.1 HM.out.2.1 HM.out.2.2.1 HM.out.2.2.2 (by omega) q1 q2 q3; have c5 : w5.cell? ⟨g + 1, 0, none⟩ = some (.slice ao (65533 + j) cap) := hm5.1; have f5 : w5.frozen? ⟨g + 1, 0, none⟩ = false := hm5.2.1; have H5 := Lib.hid hm5.2.2; clear q1 q2 q3 hm5 c0)
      obtain ⟨WE, hWE⟩ : ∃ WE, w5.setCell ⟨g + 1, 0, none⟩ (.slice ao2 (65533 + j + 1) cap2) = WE := ⟨_, rfl⟩
      have hm6 := H5.out
      rw [hWE] at hm6 ⊢
      obtain ⟨io, icap, hend⟩ := many_end hm6 (by simp) HS.out.1.2.1 HS.out.2 HS.out.1.1 HS.out.1.2.2.1 HT.out (by omega) (by
        intro x hx
        simp at hx
        rcases hx with ⟨a, ha, rfl⟩ | rfl
        · exact ⟨⟨show (-9223372036854775808 : Int) ≤ 15 by decide, show (15 : Int) ≤ 9223372036854775807 by decide⟩, ⟨show (-9223372036854775808 : Int) ≤ (a : Int) + 1 by omega, show (a : Int) + 1 ≤ 9223372036854775807 by omega⟩, ⟨show (-9223372036854775808 : Int) ≤ 0 by decide, show (0 : Int) ≤ 9223372036854775807 by decide⟩⟩
        · exact ⟨⟨by decide, by decide⟩, ⟨by decide, by decide⟩, ⟨by decide, by decide⟩⟩)
      have HO := Lib.hid (show Ord flC ⟨(List.range (65533 + j)).map (fun (i : Nat) => ⟨15, (i : Int) + 1, 0⟩) ++ [⟨28, 0, 0⟩], [], [0], 0⟩ ↔ 65534 + j ≤ 65536 by
        have h := long_ord flC (65534 + j) (by omega)
        unfold longC at h
        rw [show 65534 + j - 1 = 65533 + j by omega] at h
        exact h)
      obtain ⟨c, hc⟩ : ∃ c : CodeP, ⟨(List.range (65533 + j)).map (fun (i : Nat) => ⟨15, (i : Int) + 1, 0⟩) ++ [⟨28, 0, 0⟩], [], [0], 0⟩ = c := ⟨_, rfl⟩
      have HOc := Lib.hid (show Ord flC c ↔ 65534 + j ≤ 65536 by rw [← hc]; exact HO.out)
      rw [hc] at hend
      have HEnd := Lib.hid hend
      clear hend hc HO hm6 hWE c5 f5 hd1 H5 HM
      refine (codes_any _ HEnd.out.tab).mono ?_
      rintro e w1 ⟨rfl, hb1⟩
      have hend1 := HEnd.out.next hb1
      obtain ⟨k0, k1, k2, k3⟩ := hend1.cells
      have HE1 := Lib.hid hend1
      clear hb1 hend1
      go_wp2_with fail
      have hto := to_any (icap := icap) (scap := 0) (fcap := 1) HE1.out.mem HE1.out.il HE1.out.sl HE1.out.fl
      rw [HE1.out.gl] at hto
      refine hto.mono ?_
      rintro e w2 ⟨hb2, io2, so2, fo2, icap2, scap2, fcap2, rfl, hmem2⟩
      have HE2 := Lib.hid (And.intro hmem2 (And.intro (shtab_below HE1.out.tab hb2) (HE1.out.below.trans (hb2.mono HE1.out.below.size))))
      clear hb2 hmem2 hto k0 k1 k2 k3
      go_wp2_with fail
      refine (verify_any HE2.out.1 HE2.out.2.1 (by have := HE1.out.il; omega) (by have := HE1.out.sl; omega) (by have := HE1.out.fl; omega) (by rw [HE1.out.gl]; exact ⟨by decide, by decide⟩)).mono ?_
      rintro e w3 ⟨hb3, hres⟩
      have HB3 := Lib.hid (HE2.out.2.2.trans (hb3.mono HE2.out.2.2.size))
      clear hb3
      rcases hres with ⟨ho, rfl⟩ | ⟨hno, rfl⟩
      · have hle : decide (65534 + (j : Int) ≤ 65536) = true := decide_eq_true (by have := HOc.out.1 ho; omega)
        clear ho
        go_wp2_with fail
        go_ret
        exact ⟨rfl, HB3.out⟩
      · have hle : decide (65534 + (j : Int) ≤ 65536) = false := decide_eq_false (fun h => hno (HOc.out.2 (by omega)))
        clear hno
        go_wp2_with fail
        go_ret
        exact ⟨rfl, HB3.out⟩
theorem tri (w : World) (A B C : Obj) : (((w.alloc A).alloc B).alloc C).heap.size = w.heap.size + 3 ∧ Below w.heap.size w (((w.alloc A).alloc B).alloc C) ∧ (((w.alloc A).alloc B).alloc C).heap[w.heap.size]? = some A ∧ (((w.alloc A).alloc B).alloc C).heap[w.heap.size + 1]? = some B ∧ (((w.alloc A).alloc B).alloc C).heap[w.heap.size + 2]? = some C := by
  refine ⟨by simp, (((Below.refl _ w).alloc (Nat.le_refl _) _).alloc (by simp) _).alloc (by simp; omega) _, ?_, ?_, ?_⟩
  · rw [Below.heap_alloc _ _ _ (by simp; omega), Below.heap_alloc _ _ _ (by simp)]
    exact heap_alloc_new w _
  · rw [Below.heap_alloc _ _ _ (by simp)]
    have := heap_alloc_new (w.alloc A) B
    simp only [World.size_alloc] at this
    exact this
  · have := heap_alloc_new ((w.alloc A).alloc B) C
    simp only [World.size_alloc] at this
    exact this
/-- The texts so far: a row of its own. -/
def ManyS (W : World) (g n : Nat) (wr : World) : Prop :=
  ∃ ao cap, wr.heap[g + 1]? = some (.cells #[.slice (some ⟨g + 1 + 1, 0, none⟩) 1 1, .slice ao n cap, .slice (some ⟨g, 0, none⟩) 1 1, .int .i64 0] 26 (0, 0)) ∧ wr.ownsRow W.heap.size 9 1 (.slice ao n cap) n (strCells (List.replicate n [])) ∧ Keeps (fun b => b = g + 1 ∨ W.heap.size ≤ b) W wr
theorem app_strs {w : World} {ops : Array Oper} {rest : List Oper} {o : Oper} {a : Act} {Q : Exit → Act → World → Prop} (hgd : Region.wanted o (yielded ops a.tmps) = true) (s x : Operand)
    (ho : o.op = .call { callee := .builtin .append, args := #[s, x], argTypes := #[24, 24] })
    (base : Nat) (ao : Option Addr) (cap n : Nat) (l : List (List UInt8)) (hs : a.eval s = .slice ao n cap) (hown : w.ownsRow base 9 1 (.slice ao n cap) n (strCells l))
    (y : List UInt8) (g : Nat) (hx : a.eval x = .slice (some ⟨g, 0, none⟩) 1 1) (hat : At w (some ⟨g, 0, none⟩) [.string ⟨y.toArray⟩]) (hb : n ≤ 1000000000) (hbase : base ≤ w.heap.size)
    (h : ∀ ao' cap' w', w'.ownsRow base 9 1 (.slice ao' (n + 1) cap') (n + 1) (strCells (l ++ [y])) → w.grownBy w' (blk ao) → (blk ao' = blk ao ∨ blk ao' = some w.heap.size) → wpList Tryd.prog ops Q rest (a.put o.dst (.slice ao' (n + 1) cap')) w') : wpList Tryd.prog ops Q (o :: rest) a w :=
  wpList_go hgd fun _ hK => wp_strs s x ho base ao cap n l hs hown y g hx hat hb hbase fun ao' cap' w' h1 h2 h3 => hK _ _ (h ao' cap' w' h1 h2 h3)
theorem manyS_step {W wr w5 : World} {g i : Nat} {ao ao2 : Option Addr} {cap cap2 : Nat} {cs : Array Value} {t : TypeId}
    (hr : wr.heap[g + 1]? = some (.cells #[.slice (some ⟨g + 1 + 1, 0, none⟩) 1 1, .slice ao i cap, .slice (some ⟨g, 0, none⟩) 1 1, .int .i64 0] 26 (0, 0)))
    (hown : wr.ownsRow W.heap.size 9 1 (.slice ao i cap) i (strCells (List.replicate i []))) (hk : Keeps (fun b => b = g + 1 ∨ W.heap.size ≤ b) W wr) (hs : W.heap.size = g + 3)
    (q1 : w5.ownsRow W.heap.size 9 1 (.slice ao2 (i + 1) cap2) (i + 1) (strCells (List.replicate i [] ++ [[]]))) (q2 : (wr.alloc (.cells cs t)).grownBy w5 (blk ao)) :
    w5.cell? ⟨g + 1, 1, none⟩ = some (.slice ao i cap) ∧ w5.frozen? ⟨g + 1, 1, none⟩ = false ∧ ManyS W g (i + 1) (w5.setCell ⟨g + 1, 1, none⟩ (.slice ao2 (i + 1) cap2)) := by
  have hao : ∀ b, blk ao = some b → W.heap.size ≤ b := fun b hb => (hown.lt b (by rw [own_slice]; exact hb)).1
  have hao2 : ∀ b, blk ao2 = some b → W.heap.size ≤ b := fun b hb => (q1.lt b (by rw [own_slice]; exact hb)).1
  have hk5 : Keeps (fun b => blk ao = some b) wr w5 := (Keeps.of_below ((Below.refl _ wr).alloc (Nat.le_refl _) _)).trans' (Keeps.of_grown' q2 (fun b hb => hb))
  have hsk := hk.size
  have hr5 : w5.heap[g + 1]? = _ := (hk5.block (g + 1) (by omega) (fun h => by have := hao _ h; omega)).trans hr
  have hk6 : Keeps (fun b => b = g + 1) w5 (w5.setCell ⟨g + 1, 1, none⟩ (.slice ao2 (i + 1) cap2)) := Keeps.of_grown (setCell_grown0 _ _ _ _) rfl
  refine ⟨cell_of_row _ _ 1 _ _ (0, 0) hr5, frozen_of_row w5 (g + 1) 1 _ _ hr5, ao2, cap2, ?_, ?_, (hk.trans' (hk5.mono (fun b _ h => .inr (hao b h)))).trans' (hk6.mono (fun _ _ h => .inl h))⟩
  · rw [setCell_row0 1 _ hr5]
    rfl
  · have := owns_keeps q1 hk6 (fun b hb h => by rw [own_slice] at hb; have := hao2 b hb; omega)
    rwa [← List.replicate_succ'] at this
theorem manyS_end {w W w1 : World} {g n : Nat} (h : ManyS W g n w1) (hw : Below g w W) (hg : g = w.heap.size) (hs : W.heap.size = g + 3) (hf : W.heap[g]? = some (.cells #[.int .i64 0] 3 (0, 0))) (hi : W.heap[g + 2]? = some (.cells #[.int .i64 28, .int .i64 0, .int .i64 0] 29 (0, 0))) (ht : ShTab w) (hn2 : n ≤ 1000000) :
    ∃ so scap, EndM w g (textC n) (some ⟨g + 1 + 1, 0, none⟩) so (some ⟨g, 0, none⟩) 1 scap 1 w1 := by
  obtain ⟨ao, cap, h1, h2, h3⟩ := h
  have hs3 := h3.size
  have hbw : Below w.heap.size w w1 := by
    rw [← hg]
    exact hw.trans (h3.below (fun i hi h => by omega) (by omega))
  have hf1 : w1.heap[g]? = _ := (h3.block g (by omega) (fun h => by omega)).trans hf
  have hi1 : w1.heap[g + 1 + 1]? = _ := (h3.block (g + 2) (by omega) (fun h => by omega)).trans hi
  have hnl : (textC n).strs.length = n := by simp [textC]
  refine ⟨ao, cap, hbw, by rw [hnl]; exact h1, ⟨rowsAt_of_flat3 (rows := [insRow ⟨28, 0, 0⟩]) ?_ (by intro r hr'; simp at hr'; subst hr'; rfl), At.own h2, ?_, fun b hb _ => (by cases hb; exact (Array.getElem?_eq_some_iff.1 hi1).1), fun b hb _ => (h2.lt b (by rw [own_slice]; exact hb)).2, fun b hb _ => (by cases hb; exact (Array.getElem?_eq_some_iff.1 hf1).1), fun x hx => (by simp [textC] at hx; subst hx; exact ⟨⟨by decide, by decide⟩, ⟨by decide, by decide⟩, ⟨by decide, by decide⟩⟩), fun s hs' => (by simp [textC] at hs'; rw [hs'.2]; decide), fun z hz => (by simp [textC] at hz; subst hz; exact ⟨by decide, by decide⟩)⟩, shtab_below ht hbw, by simp [textC], by rw [hnl]; exact hn2, by simp [textC], rfl⟩
  · refine .inr ⟨g + 1 + 1, 0, rfl, fun j v hj => ?_⟩
    have := cell_of_row w1 (g + 1 + 1) j _ _ (0, 0) hi1
    rw [Nat.zero_add, this]
    simpa [insRow] using hj
  · refine .inr ⟨g, 0, rfl, fun j v hj => ?_⟩
    have := cell_of_row w1 g j _ _ (0, 0) hf1
    rw [Nat.zero_add, this]
    simpa [intsV, textC] using hj
set_option maxRecDepth 100000 in
set_option maxHeartbeats 4000000 in
theorem text (what n : Int) (hw : wrap64 ((IntKind.u64.wrap what).tmod 4) = 2) (w : World) (ht : ShTab w) :
    Calls Tryd.prog 3 #[.int .i64 what, .int .i64 n] w (Says w (.bool true)) := by
  obtain ⟨j, hj, hje⟩ := cutmod0 n 5 (by decide) (by decide)
  have hje' : wrap64 ((IntKind.u64.wrap n).tmod 5) = (j : Int) := hje
  have HT := Lib.hid ht
  clear ht hje
  go_enter Tryd.func3, Tryd.ntmps3
  go_wp2_with fail
  obtain ⟨g, hg⟩ : ∃ g, g = w.heap.size := ⟨_, rfl⟩
  obtain ⟨W, hW⟩ : ∃ W, ((w.alloc (.cells #[.int .i64 0] 3)).alloc (.cells #[.slice (some ⟨w.heap.size + 1 + 1, 0, none⟩) 1 1, .slice none 0 0, .slice (some ⟨w.heap.size, 0, none⟩) 1 1, .int .i64 0] 26)).alloc (.cells #[.int .i64 28, .int .i64 0, .int .i64 0] 29) = W := ⟨_, rfl⟩
  rw [hW]
  have hst := tri w (.cells #[.int .i64 0] 3) (.cells #[.slice (some ⟨w.heap.size + 1 + 1, 0, none⟩) 1 1, .slice none 0 0, .slice (some ⟨w.heap.size, 0, none⟩) 1 1, .int .i64 0] 26) (.cells #[.int .i64 28, .int .i64 0, .int .i64 0] 29)
  rw [hW] at hst
  rw [← hg] at hst ⊢
  have HS := Lib.hid (And.intro hst hg)
  have HE := Lib.hid (And.intro hw hje')
  clear hst hW hg hw hje'
  go_loopw [9] (fun v9 wr => ∃ i : Nat, i ≤ 4094 + j ∧ v9 = .int .i64 (i : Int) ∧ ManyS W g i wr) (fun v9 _ => 4110 - (intOf v9).toNat)
  case atStart => exact ⟨0, by omega, rfl, none, 0, HS.out.1.2.2.2.1, World.ownsRow_nil _ _ _ _, Keeps.refl _ _⟩
  case round =>
    obtain ⟨i, hi, rfl, hm⟩ := hrel
    have HMM := Lib.hid hm
    obtain ⟨ao, cap, hr, hown, hk⟩ := hm
    have hs1 := HS.out.1.1
    have hsk := hk.size
    have c1 : wr.cell? ⟨g + 1, 1, none⟩ = some (.slice ao i cap) := cell_of_row _ _ 1 _ _ (0, 0) hr
    have HM := Lib.hid (And.intro hr (And.intro hown (And.intro hk hs1)))
    clear hr hown hk
    by_cases hlt : i < 4094 + j
    · have hd1 : decide ((i : Int) < 4094 + (j : Int)) = true := decide_eq_true (by omega)
      go_wp2_with (refine app_strs rfl _ _ rfl W.heap.size ao cap i _ rfl (owns_below HM.out.2.1 ((Below.refl _ _).alloc (Nat.le_refl _) _)) [] wr.heap.size rfl (At.new wr #[.string ⟨#[]⟩] _) (by omega) (by simp; omega) ?_; rintro ao2 cap2 w5 q1 q2 q3; have hm5 := manyS_step HM.out.1 HM.out.2.1 HM.out.2.2.1 HM.out.2.2.2 q1 q2; have c5 : w5.cell? ⟨g + 1, 1, none⟩ = some (.slice ao i cap) := hm5.1; have f5 : w5.frozen? ⟨g + 1, 1, none⟩ = false := hm5.2.1; have H5 := Lib.hid hm5.2.2; clear q1 q2 q3 hm5 c1)
      go_roundw
      case rel => exact ⟨i + 1, by omega, by simp, H5.out⟩
      case measure => simp [intOf]; omega
    · obtain rfl : i = 4094 + j := by omega
      have hd1 : decide (((4094 + j : Nat) : Int) < 4094 + (j : Int)) = false := decide_eq_false (by omega)
      have hw := HE.out.1
      go_wp2_with fail
      obtain ⟨so, scap, hend⟩ := manyS_end HMM.out HS.out.1.2.1 HS.out.2 HS.out.1.1 HS.out.1.2.2.1 HS.out.1.2.2.2.2 HT.out (by omega)
      have HO := Lib.hid (text_ord flC (4094 + j))
      obtain ⟨c, hc⟩ : ∃ c : CodeP, textC (4094 + j) = c := ⟨_, rfl⟩
      have HOc := Lib.hid (show Ord flC c ↔ 4094 + j ≤ 4096 by rw [← hc]; exact HO.out)
      rw [hc] at hend
      have HEnd := Lib.hid hend
      clear hend hc HO hd1 HM c1 HMM
      refine (codes_any _ HEnd.out.tab).mono ?_
      rintro e w1 ⟨rfl, hb1⟩
      have hend1 := HEnd.out.next hb1
      obtain ⟨k0, k1, k2, k3⟩ := hend1.cells
      have HE1 := Lib.hid hend1
      clear hb1 hend1
      go_wp2_with fail
      have hto := to_any (icap := 1) (scap := scap) (fcap := 1) HE1.out.mem HE1.out.il HE1.out.sl HE1.out.fl
      rw [HE1.out.gl] at hto
      refine hto.mono ?_
      rintro e w2 ⟨hb2, io2, so2, fo2, icap2, scap2, fcap2, rfl, hmem2⟩
      have HE2 := Lib.hid (And.intro hmem2 (And.intro (shtab_below HE1.out.tab hb2) (HE1.out.below.trans (hb2.mono HE1.out.below.size))))
      clear hb2 hmem2 hto k0 k1 k2 k3
      go_wp2_with fail
      refine (verify_any HE2.out.1 HE2.out.2.1 (by have := HE1.out.il; omega) (by have := HE1.out.sl; omega) (by have := HE1.out.fl; omega) (by rw [HE1.out.gl]; exact ⟨by decide, by decide⟩)).mono ?_
      rintro e w3 ⟨hb3, hres⟩
      have HB3 := Lib.hid (HE2.out.2.2.trans (hb3.mono HE2.out.2.2.size))
      clear hb3
      rcases hres with ⟨ho, rfl⟩ | ⟨hno, rfl⟩
      · have hle : decide (4094 + (j : Int) ≤ 4096) = true := decide_eq_true (by have := HOc.out.1 ho; omega)
        clear ho
        go_wp2_with fail
        go_ret
        exact ⟨rfl, HB3.out⟩
      · have hle : decide (4094 + (j : Int) ≤ 4096) = false := decide_eq_false (fun h => hno (HOc.out.2 (by omega)))
        clear hno
        go_wp2_with fail
        go_ret
        exact ⟨rfl, HB3.out⟩
/-- The functions so far: a row of its own, from the block g on. -/
def ManyF (W : World) (g n : Nat) (wr : World) : Prop :=
  ∃ ao cap, wr.heap[g + 1]? = some (.cells #[.slice (some ⟨g + 1 + 1, 0, none⟩) 3 3, .slice none 0 0, .slice ao n cap, .int .i64 0] 26 (0, 0)) ∧ wr.ownsRow g 3 1 (.slice ao n cap) n (intsV (0 :: List.replicate (n - 1) 1)) ∧ (∀ b, blk ao = some b → b = g ∨ W.heap.size ≤ b) ∧ Keeps (fun b => b = g ∨ b = g + 1 ∨ W.heap.size ≤ b) W wr
theorem manyF_step {W wr w5 : World} {g i : Nat} {ao ao2 : Option Addr} {cap cap2 : Nat} {cs : Array Value} {t : TypeId} (h1 : 1 ≤ i)
    (hr : wr.heap[g + 1]? = some (.cells #[.slice (some ⟨g + 1 + 1, 0, none⟩) 3 3, .slice none 0 0, .slice ao i cap, .int .i64 0] 26 (0, 0)))
    (ha : ∀ b, blk ao = some b → b = g ∨ W.heap.size ≤ b) (hk : Keeps (fun b => b = g ∨ b = g + 1 ∨ W.heap.size ≤ b) W wr) (hs : W.heap.size = g + 3)
    (q1 : w5.ownsRow g 3 1 (.slice ao2 (i + 1) cap2) (i + 1) (intsV ((0 :: List.replicate (i - 1) 1) ++ [1]))) (q2 : (wr.alloc (.cells cs t)).grownBy w5 (blk ao)) (q3 : blk ao2 = blk ao ∨ blk ao2 = some (wr.alloc (.cells cs t)).heap.size) :
    w5.cell? ⟨g + 1, 2, none⟩ = some (.slice ao i cap) ∧ w5.frozen? ⟨g + 1, 2, none⟩ = false ∧ ManyF W g (i + 1) (w5.setCell ⟨g + 1, 2, none⟩ (.slice ao2 (i + 1) cap2)) := by
  have hsk := hk.size
  have ha2 : ∀ b, blk ao2 = some b → b = g ∨ W.heap.size ≤ b := fun b hb => by
    rcases q3 with h | h
    · exact ha b (by rw [← h]; exact hb)
    · rw [h] at hb
      simp at hb
      omega
  have hk5 : Keeps (fun b => blk ao = some b) wr w5 := (Keeps.of_below ((Below.refl _ wr).alloc (Nat.le_refl _) _)).trans' (Keeps.of_grown' q2 (fun b hb => hb))
  have hr5 : w5.heap[g + 1]? = _ := (hk5.block (g + 1) (by omega) (fun h => by have := ha _ h; omega)).trans hr
  have hk6 : Keeps (fun b => b = g + 1) w5 (w5.setCell ⟨g + 1, 2, none⟩ (.slice ao2 (i + 1) cap2)) := Keeps.of_grown (setCell_grown0 _ _ _ _) rfl
  refine ⟨cell_of_row _ _ 2 _ _ (0, 0) hr5, frozen_of_row w5 (g + 1) 2 _ _ hr5, ao2, cap2, ?_, ?_, ha2, (hk.trans' (hk5.mono (fun b _ h => by rcases ha b h with h | h; exact .inl h; exact .inr (.inr h)))).trans' (hk6.mono (fun _ _ h => .inr (.inl h)))⟩
  · rw [setCell_row0 2 _ hr5]
    rfl
  · have := owns_keeps q1 hk6 (fun b hb h => by rw [own_slice] at hb; have := ha2 b hb; omega)
    obtain ⟨m, rfl⟩ : ∃ m, i = m + 1 := ⟨i - 1, by omega⟩
    rw [List.cons_append, ← List.replicate_succ'] at this
    exact this
theorem manyF_end {w W w1 : World} {g n : Nat} (h : ManyF W g n w1) (h1 : 1 ≤ n) (hw : Below g w W) (hg : g = w.heap.size) (hs : W.heap.size = g + 3) (hi : W.heap[g + 2]? = some (.cells #[.int .i64 28, .int .i64 0, .int .i64 0, .int .i64 3, .int .i64 0, .int .i64 0, .int .i64 14, .int .i64 0, .int .i64 0] 29 (0, 0))) (ht : ShTab w) (hn2 : n ≤ 1000000) :
    ∃ fo fcap, EndM w g (funsC n) (some ⟨g + 1 + 1, 0, none⟩) none fo 3 0 fcap w1 := by
  obtain ⟨ao, cap, h1', h2, h2b, h3⟩ := h
  have hs3 := h3.size
  have hbw : Below w.heap.size w w1 := by
    rw [← hg]
    exact hw.trans (h3.below (fun i hi h => by omega) (by omega))
  have hi1 : w1.heap[g + 1 + 1]? = _ := (h3.block (g + 2) (by omega) (fun h => by omega)).trans hi
  have hnl : (funsC n).funs.length = n := by simp [funsC]; omega
  refine ⟨ao, cap, hbw, by rw [hnl]; exact h1', ⟨rowsAt_of_flat3 (rows := [insRow ⟨28, 0, 0⟩, insRow ⟨3, 0, 0⟩, insRow ⟨14, 0, 0⟩]) ?_ (by intro r hr'; simp at hr'; rcases hr' with rfl | rfl | rfl <;> rfl), .inl rfl, At.own h2, fun b hb _ => (by cases hb; exact (Array.getElem?_eq_some_iff.1 hi1).1), fun b hb => (by cases hb), fun b hb _ => (h2.lt b (by rw [own_slice]; exact hb)).2, fun x hx => (by simp [funsC] at hx; rcases hx with rfl | rfl | rfl <;> exact ⟨⟨by decide, by decide⟩, ⟨by decide, by decide⟩, ⟨by decide, by decide⟩⟩), fun s hs' => (by cases hs'), fun z hz => (by simp [funsC] at hz; rcases hz with rfl | ⟨_, rfl⟩ <;> exact ⟨by decide, by decide⟩)⟩, shtab_below ht hbw, by simp [funsC], by simp [funsC], by rw [hnl]; exact hn2, rfl⟩
  refine .inr ⟨g + 1 + 1, 0, rfl, fun j v hj => ?_⟩
  have := cell_of_row w1 (g + 1 + 1) j _ _ (0, 0) hi1
  rw [Nat.zero_add, this]
  simpa [insRow] using hj
set_option maxRecDepth 100000 in
set_option maxHeartbeats 4000000 in
theorem funs (what n : Int) (hw : wrap64 ((IntKind.u64.wrap what).tmod 4) = 3) (w : World) (ht : ShTab w) :
    Calls Tryd.prog 3 #[.int .i64 what, .int .i64 n] w (Says w (.bool true)) := by
  obtain ⟨j, hj, hje⟩ := cutmod0 n 5 (by decide) (by decide)
  have hje' : wrap64 ((IntKind.u64.wrap n).tmod 5) = (j : Int) := hje
  have HT := Lib.hid ht
  clear ht hje
  go_enter Tryd.func3, Tryd.ntmps3
  go_wp2_with fail
  obtain ⟨g, hg⟩ : ∃ g, g = w.heap.size := ⟨_, rfl⟩
  obtain ⟨W, hW⟩ : ∃ W, ((w.alloc (.cells #[.int .i64 0] 3)).alloc (.cells #[.slice (some ⟨w.heap.size + 1 + 1, 0, none⟩) 3 3, .slice none 0 0, .slice (some ⟨w.heap.size, 0, none⟩) 1 1, .int .i64 0] 26)).alloc (.cells #[.int .i64 28, .int .i64 0, .int .i64 0, .int .i64 3, .int .i64 0, .int .i64 0, .int .i64 14, .int .i64 0, .int .i64 0] 29) = W := ⟨_, rfl⟩
  rw [hW]
  have hst := tri w (.cells #[.int .i64 0] 3) (.cells #[.slice (some ⟨w.heap.size + 1 + 1, 0, none⟩) 3 3, .slice none 0 0, .slice (some ⟨w.heap.size, 0, none⟩) 1 1, .int .i64 0] 26) (.cells #[.int .i64 28, .int .i64 0, .int .i64 0, .int .i64 3, .int .i64 0, .int .i64 0, .int .i64 14, .int .i64 0, .int .i64 0] 29)
  have hlit : W.ownsRow w.heap.size 3 1 (.slice (some ⟨w.heap.size, 0, none⟩) 1 1) 1 (intsV [0]) := by
    rw [← hW]
    exact owns_below (owns_below (World.ownsRow_lit w #[.int .i64 0] 1 (Nat.le_refl _) (by decide) rfl) ((Below.refl _ _).alloc (Nat.le_refl _) _)) ((Below.refl _ _).alloc (Nat.le_refl _) _)
  rw [hW] at hst
  rw [← hg] at hst hlit ⊢
  have HS := Lib.hid (And.intro hst (And.intro hg hlit))
  have HE := Lib.hid (And.intro hw hje')
  clear hst hW hg hw hje' hlit
  go_loopw [10] (fun v10 wr => ∃ i : Nat, 1 ≤ i ∧ i ≤ 4094 + j ∧ v10 = .int .i64 (i : Int) ∧ ManyF W g i wr) (fun v10 _ => 4110 - (intOf v10).toNat)
  case atStart => exact ⟨1, by omega, by omega, rfl, some ⟨g, 0, none⟩, 1, HS.out.1.2.2.2.1, HS.out.2.2, fun b hb => (by cases hb; exact .inl rfl), Keeps.refl _ _⟩
  case round =>
    obtain ⟨i, hi1, hi, rfl, hm⟩ := hrel
    have HMM := Lib.hid hm
    obtain ⟨ao, cap, hr, hown, hab, hk⟩ := hm
    have hs1 := HS.out.1.1
    have hsk := hk.size
    have c2 : wr.cell? ⟨g + 1, 2, none⟩ = some (.slice ao i cap) := cell_of_row _ _ 2 _ _ (0, 0) hr
    have HM := Lib.hid (And.intro hr (And.intro hown (And.intro hk (And.intro hs1 hab))))
    clear hr hown hk hab
    by_cases hlt : i < 4094 + j
    · have hd1 : decide ((i : Int) < 4094 + (j : Int)) = true := decide_eq_true (by omega)
      go_wp2_with (refine app_ints rfl _ _ rfl g ao cap (0 :: List.replicate (i - 1) 1) i rfl (owns_below HM.out.2.1 ((Below.refl _ _).alloc (Nat.le_refl _) _)) (some ⟨wr.heap.size, 0, none⟩) 1 1 [1] rfl (At.new wr #[.int .i64 1] _) rfl (by omega) (by simp; omega) ?_; rintro ao2 cap2 w5 q1 q2 q3; have hm5 := manyF_step hi1 HM.out.1 HM.out.2.2.2.2 HM.out.2.2.1 HM.out.2.2.2.1 q1 q2 q3; have c5 : w5.cell? ⟨g + 1, 2, none⟩ = some (.slice ao i cap) := hm5.1; have f5 : w5.frozen? ⟨g + 1, 2, none⟩ = false := hm5.2.1; have H5 := Lib.hid hm5.2.2; clear q1 q2 q3 hm5 c2)
      go_roundw
      case rel => exact ⟨i + 1, by omega, by omega, by simp, H5.out⟩
      case measure => simp [intOf]; omega
    · obtain rfl : i = 4094 + j := by omega
      have hd1 : decide (((4094 + j : Nat) : Int) < 4094 + (j : Int)) = false := decide_eq_false (by omega)
      have hd2 : decide (2 < 4094 + (j : Int)) = true := decide_eq_true (by omega)
      have hw := HE.out.1
      go_wp2_with fail
      obtain ⟨fo, fcap, hend⟩ := manyF_end HMM.out hi1 HS.out.1.2.1 HS.out.2.1 HS.out.1.1 HS.out.1.2.2.2.2 HT.out (by omega)
      have HO := Lib.hid (funs_ord flC (4094 + j) (by omega))
      obtain ⟨c, hc⟩ : ∃ c : CodeP, funsC (4094 + j) = c := ⟨_, rfl⟩
      have HOc := Lib.hid (show ¬ Ord flC c by rw [← hc]; exact HO.out)
      rw [hc] at hend
      have HEnd := Lib.hid hend
      clear hend hc HO hd1 hd2 HM c2 HMM
      refine (codes_any _ HEnd.out.tab).mono ?_
      rintro e w1 ⟨rfl, hb1⟩
      have hend1 := HEnd.out.next hb1
      obtain ⟨k0, k1, k2, k3⟩ := hend1.cells
      have HE1 := Lib.hid hend1
      clear hb1 hend1
      go_wp2_with fail
      have hto := to_any (icap := 3) (scap := 0) (fcap := fcap) HE1.out.mem HE1.out.il HE1.out.sl HE1.out.fl
      rw [HE1.out.gl] at hto
      refine hto.mono ?_
      rintro e w2 ⟨hb2, io2, so2, fo2, icap2, scap2, fcap2, rfl, hmem2⟩
      have HE2 := Lib.hid (And.intro hmem2 (HE1.out.next hb2))
      clear hb2 hmem2 hto k0 k1 k2 k3
      go_wp2_with fail
      refine (verify_any HE2.out.1 HE2.out.2.tab (by have := HE1.out.il; omega) (by have := HE1.out.sl; omega) (by have := HE1.out.fl; omega) (by rw [HE1.out.gl]; exact ⟨by decide, by decide⟩)).mono ?_
      rintro e w3 ⟨hb3, hres⟩
      obtain rfl : e = .returned (.int .i64 2) := by
        rcases hres with ⟨ho, _⟩ | ⟨_, he⟩
        · exact absurd ho HOc.out
        · exact he
      have hend3 := HE2.out.2.next hb3
      obtain ⟨k0, k1, k2, k3⟩ := hend3.cells
      have HE3 := Lib.hid hend3
      clear hb3 hres hend3
      go_wp2_with fail
      have hri := right_any (icap := 3) (scap := 0) (fcap := fcap) HE3.out.mem (by have := HE1.out.il; omega) (by have := HE1.out.sl; omega) (by have := HE1.out.fl; omega)
      rw [HE3.out.gl] at hri
      refine hri.mono ?_
      rintro e w4 ⟨hb4, hres⟩
      obtain rfl : e = .returned (.bool false) := by
        rcases hres with ⟨ho, _⟩ | ⟨_, he⟩
        · exact absurd ho HOc.out
        · exact he
      have HB4 := Lib.hid (HE3.out.below.trans (hb4.mono HE3.out.below.size))
      clear hb4 hres hri k0 k1 k2 k3
      go_wp2_with fail
      go_ret
      exact ⟨rfl, HB4.out⟩
-- LAW
theorem walk (what n : Int) (w : World) (ht : ShTab w) : Calls Tryd.prog 3 #[.int .i64 what, .int .i64 n] w (Says w (.bool true)) := by
  obtain ⟨k, hk, hke⟩ := cutmod0 what 4 (by decide) (by decide)
  have h : k = 0 ∨ k = 1 ∨ k = 2 ∨ k = 3 := by omega
  rcases h with rfl | rfl | rfl | rfl
  · exact high what n hke w ht
  · exact long what n hke w ht
  · exact text what n hke w ht
  · exact funs what n hke w ht

theorem own : ownKnob Tryd.prog.godebug = none := by kernel_rfl
theorem laidOut : laidOutB Tryd.prog = true := by kernel_rfl
theorem readable : ∀ t ∈ Tryd.f3.params.toList, Tryd.prog.readableRec t = true ∧ t < Tryd.prog.types.size := by
  rw [Tryd.params3]
  intro t ht
  simp at ht
  subst ht
  exact ⟨by kernel_rfl, of_decide_eq_true (by kernel_rfl)⟩

theorem laid_met (os : Os) : laidMet Tryd.prog Rows.codeManyRow.laid ((laidWorldS os).forCall (fun _ _ => 0) ⟨#[], #[.int .i64 0, .int .i64 0], []⟩).memory :=
  laidMet_of_run' 8 (by kernel_rfl) (by kernel_rfl)
theorem reads (os : Os) {H : Type} (enc : TypeId × Value → H) : DataW.whole enc Tryd.prog ((laidWorldS os).forCall (fun _ _ => 0) ⟨#[], #[.int .i64 0, .int .i64 0], []⟩).memory Tryd.f3.params.toList Rows.codeManySpec.vars false (#[.int .i64 0, .int .i64 0] : Array Value).toList 8 = some ([.lit (.int .i64 0), .lit (.int .i64 0)], [], []) := by kernel_rfl
set_option maxRecDepth 100000 in
theorem lifted (os : Os) (started : os.Started) (H : Type) (enc : TypeId × Value → H) (F : Stop.Interp) :
    ReturnsInHanded {} Tryd.checked os 3 .any ((OpenSpec.ofChange Rows.codeManySpec).preRow enc Tryd.prog Tryd.f3 Rows.codeManyRow.domain false Rows.codeManyRow.laid) (((OpenSpec.ofChange Rows.codeManySpec).at F).post enc Tryd.prog Tryd.f3 false true false false) := by
  have hx := reads os enc
  refine returnsInHanded_of_row (C := Tryd.checked) (s := OpenSpec.ofChange Rows.codeManySpec) own started (by kernel_rfl) Tryd.func3
    (witness_row_at (enc := enc) (C := Tryd.checked) false (laidWorldS os) #[.int .i64 0, .int .i64 0] rfl (by kernel_rfl) (by kernel_rfl) (by kernel_rfl)
      (OpenSpec.preRow_of_cond 8 hx (by kernel_rfl) (fun k hk => by cases hk) (by kernel_rfl) (laid_met os))) ?_
  intro W base args ds gs before hval0 hW _ _ _ hL _ _
  have ht : ShTab W := shtab_of_head hL
  have hval : ∀ (j : Nat) t v, Tryd.f3.params[j]? = some t → args[j]? = some v → Value.okWide Tryd.prog W .any base t v := hval0
  have hW' := hW
  obtain ⟨p, q, hA0, hV, rfl, hfz, hnd⟩ := hW
  have hA : DataW.TrodAll enc Tryd.prog W 0 (fun _ => true) true Tryd.f3.params.toList args.toList ds p := hA0
  rw [Tryd.params3] at hA hval
  obtain ⟨v0, v1, d0, d1, p0, p1, rfl, rfl, rfl, h0, h1⟩ := trodAll_two hA
  obtain ⟨rfl, rfl⟩ := trodVars_none hV
  obtain ⟨a, rfl, rfl, rfl, wa⟩ := open_int Tryd.underlying3 (hval 0 3 v0 rfl rfl) h0
  obtain ⟨c, rfl, rfl, rfl, wc⟩ := open_int Tryd.underlying3 (hval 1 3 v1 rfl rfl) h1
  refine (walk a c W ht).mono fun e W' ⟨he, hb⟩ => ?_
  subst he
  exact ⟨_, rfl, post_law laidOut rfl rfl Tryd.underlying4 readable rfl rfl rfl hW' hb⟩

theorem said : Rows.CodeManySaid :=
  OpenClaim.holds_of_cond 3 Tryd.f3 rfl rfl rfl rfl rfl rfl rfl ⟨rfl, rfl, rfl, rfl, rfl⟩ rfl rfl rfl rfl rfl (by kernel_rfl) Tryd.func3 (by kernel_rfl)
    (of_decide_eq_true (by kernel_rfl)) (by unfold Func.isWrapper; first | (rw [if_pos (by decide +kernel)]; kernel_rfl) | (rw [if_neg (by decide +kernel)]; exact ⟨rfl, rfl⟩))
    (fun os started H enc _ F => by rw [OpenClaim.pre_eq_preRow]; exact lifted os started H enc F)

/-- No parameter wants a stand-in; the program's own looks are off. -/
theorem plain (f : FuncId) (fn : Func) (hf : Tryd.pinned.checked.prog.funcNamed "scriptor/scriptorlaw16.CodeMany" = some f) (hfn : Tryd.pinned.checked.prog.funcs[f]? = some fn) :
    true = Tryd.pinned.checked.prog.looks [] ∧ ∀ (j : Nat) t, fn.params[j]? = some t → Tryd.pinned.checked.prog.wantsStandIn t = false := by
  obtain rfl : f = 3 := Option.some.inj ((show Tryd.prog.funcNamed "scriptor/scriptorlaw16.CodeMany" = some 3 by kernel_rfl).symm.trans hf) |>.symm
  obtain rfl : fn = Tryd.f3 := (Option.some.inj (Tryd.func3.symm.trans hfn)).symm
  refine ⟨by kernel_rfl, fun j t ht => ?_⟩
  have hall : ∀ t ∈ Tryd.f3.params.toList, Tryd.prog.wantsStandIn t = false := by
    rw [Tryd.params3]
    intro t ht
    simp at ht
    subst ht
    kernel_rfl
  exact hall t (Array.mem_toList_iff.2 (Array.mem_of_getElem? ht))

theorem card : Rows.CodeManyCardSaid :=
  Claim7.holds_tied_plain_at .later [] _ _ _ _ said (fun _ h => by cases h) (by kernel_rfl) (fun _ h => by cases h) codeMany_row_tie rfl ⟨rfl, rfl⟩ (by kernel_rfl) rfl plain (by kernel_rfl)
end Go.Proofs.YtnhdefaagicejaaDoor.codeMany
