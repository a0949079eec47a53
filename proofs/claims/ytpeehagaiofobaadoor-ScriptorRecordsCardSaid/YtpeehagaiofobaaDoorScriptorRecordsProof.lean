/- THE LAW ScriptorRecords: values that are appended to a log, whatever the power does, are read as they were, up to some place: all that were answered, and perhaps one more. -/
import Derived.Test.YtpeehagaiofobaaDoorWalTab
import Derived.Test.YtpeehagaiofobaaDoorWalX
import Derived.Test.YtpeehagaiofobaaDoorVal6
import Derived.Deep.CutRange
import Derived.Deep.CutBlock

/- The walk of val.Decode over a value's own bytes. -/
namespace Go.Proofs.YtpeehagaiofobaaDoor
open Go.RowKit

theorem results_dec (tmps : Array Value) (W : World) (g : Nat) (k m : Int) (t : List UInt8) (ao : Option Addr) (n cap : Nat) (z : Value) (hp : tmps[2]?.getD undef = .pointer (some ⟨g, 0, none⟩)) (hz : tmps[3]?.getD undef = z) (hc : ValAt W g k m t ao n cap) :
    (results Tryd.f13 tmps).run Tryd.prog W = .ok (.tuple #[valV k m t ao n cap, z]) W := by
  obtain ⟨c0, c1, c2, c3⟩ := hc
  have hu := Tryd.underlying37
  unfold valV
  simp only [results, Tryd.results13]
  go_simp
set_option maxRecDepth 100000 in
set_option maxHeartbeats 1000000 in
theorem decode_any (x : PV) (hr : rightV floatOk 1 x = true) (w : World) (ao : Option Addr) (n cap : Nat) (hn : n = (encV x).length) (hlen : (encV x).length ≤ 16384) (hat : At w ao (bytesV (encV x))) :
    Calls Tryd.prog 13 #[.slice ao n cap] w (fun e w' => ∃ cs : List Value, e = .returned (.tuple #[.agg cs.toArray, .int .i64 0]) ∧ VIn w' (fun b => w.heap.size ≤ b) 200 cs x ∧ Below w.heap.size w w') := by
  subst hn
  obtain ⟨k, m, t, ks⟩ := x
  have HA := Lib.hid (And.intro hat (And.intro hr (show (encV (.mk k m t ks)).length ≤ 70368744177664 by omega)))
  have hd : decide (16384 < ((encV (.mk k m t ks)).length : Int)) = false := decide_eq_false (by omega)
  clear hat hr hlen
  go_enter Tryd.func13, Tryd.ntmps13
  go_wp2_with fail
  have hbA : Below w.heap.size w (w.alloc (.cells #[.int .i64 0, .int .i64 0, .string ⟨#[]⟩, .slice none 0 0] 37)) := (Below.refl _ w).alloc (Nat.le_refl _) _
  have hr0 : (w.alloc (.cells #[.int .i64 0, .int .i64 0, .string ⟨#[]⟩, .slice none 0 0] 37)).heap[w.heap.size]? = _ := heap_alloc_new w _
  have hsA : (w.alloc (.cells #[.int .i64 0, .int .i64 0, .string ⟨#[]⟩, .slice none 0 0] 37)).heap.size = w.heap.size + 1 := by simp
  generalize hW0 : w.alloc (.cells #[.int .i64 0, .int .i64 0, .string ⟨#[]⟩, .slice none 0 0] 37) = W0 at *
  have H0 := Lib.hid (And.intro hbA (And.intro hr0 hsA))
  clear hbA hr0 hsA hW0
  refine (open_any ao (encV (.mk k m t ks)) cap HA.out.2.2 W0 (HA.out.1.below H0.out.1)).mono ?_
  rintro e w1 ⟨gi, rfl, hgi, hin, hb1⟩
  have H1 := Lib.hid (And.intro hgi (And.intro hin hb1))
  clear hgi hin hb1
  go_wp2_with fail
  refine (get_any 200 (.mk k m t ks) 1 (by decide) HA.out.2.1 w1 gi [] (by rw [List.append_nil]; exact H1.out.2.1)).mono ?_
  rintro e w2 ⟨cs, rfl, hv, hin2, hk2⟩
  obtain ⟨yo, ycap, hyv, hycs, _⟩ := hv.val
  have hx0 := hin2.lt
  have hx9 := H1.out.2.1.lt
  have hx1 := hk2.size
  have hx2 := H1.out.2.2.size
  have hx3 := H1.out.1
  have hx4 := H0.out.2.2
  have hk12 : Below W0.heap.size W0 w2 := H1.out.2.2.trans (hk2.below (fun j hj h => by omega) hx2)
  have hb2 : Below w.heap.size w w2 := H0.out.1.trans (hk12.mono (by omega))
  have hrow2 : w2.heap[w.heap.size]? = _ := (hk12.block w.heap.size (by omega)).trans H0.out.2.1
  rw [hyv]
  rw [hycs] at hv
  unfold valV
  have H2 := Lib.hid (And.intro hv (And.intro hin2 (And.intro hb2 hrow2)))
  clear hv hin2 hk2 hk12 hb2 hrow2 hyv hycs
  go_wp2_with fail
  have hbB : Below w2.heap.size w2 (w2.alloc (.cells #[.int .i64 k, .int .i64 m, .string ⟨t.toArray⟩, .slice yo ks.length ycap] 37)) := (Below.refl _ w2).alloc (Nat.le_refl _) _
  have hsB : (w2.alloc (.cells #[.int .i64 k, .int .i64 m, .string ⟨t.toArray⟩, .slice yo ks.length ycap] 37)).heap.size = w2.heap.size + 1 := by simp
  have hvB := ValAt.new w2 k m t yo ks.length ycap
  generalize hW2 : w2.alloc (.cells #[.int .i64 k, .int .i64 m, .string ⟨t.toArray⟩, .slice yo ks.length ycap] 37) = W2 at *
  have hinB := H2.out.2.1.below hbB
  have HB := Lib.hid (And.intro hbB (And.intro hsB (And.intro hvB hinB)))
  clear hbB hsB hvB hinB hW2
  refine (end_any gi ([], 0) W2 HB.out.2.2.2).mono ?_
  rintro e w3 ⟨rfl, hin3, hg3⟩
  have he : (endR ([], 0)).2 = 0 := by rfl
  rw [he]
  have hsB := HB.out.2.1
  have hs3 := hg3.size
  have hk3 : Keeps (fun j => j = gi) W2 w3 := Keeps.of_grown hg3 rfl
  have hv3 : ValAt w3 w2.heap.size k m t yo ks.length ycap := by
    have hrw := fun j => World.cell?_of_block (a := ⟨w2.heap.size, j, none⟩) (hk3.block w2.heap.size (by omega) (fun h => by omega))
    obtain ⟨c0, c1, c2, c3⟩ := HB.out.2.2.1
    exact ⟨(hrw 0).trans c0, (hrw 1).trans c1, (hrw 2).trans c2, (hrw 3).trans c3⟩
  have hvi3 : VIn w3 (fun b => w1.heap.size ≤ b) 200 [.int .i64 k, .int .i64 m, .string ⟨t.toArray⟩, .slice yo ks.length ycap] (.mk k m t ks) := (H2.out.1.below HB.out.1).keeps hk3 (fun j hj h => by omega)
  have hb3 : Below w.heap.size w w3 := (H2.out.2.2.1.trans (HB.out.1.mono H2.out.2.2.1.size)).trans (hk3.below (fun j hj h => by omega) (by have := H2.out.2.2.1.size; omega))
  have hrow3 : w3.heap[w.heap.size]? = _ := (hk3.block w.heap.size (by omega) (fun h => by omega)).trans ((HB.out.1.block w.heap.size (by omega)).trans H2.out.2.2.2)
  have H3 := Lib.hid (And.intro hvi3 (And.intro hb3 (And.intro hrow3 hv3)))
  obtain ⟨c0, c1, c2, c3⟩ := hv3
  clear hin3 hg3 hk3 hvi3 hb3 hrow3 he
  have HR := Lib.hid (vright_any 200 (.mk k m t ks) 1 (by decide) w3 _ _ H3.out.1)
  go_wp2_with fail
  refine HR.out.mono ?_
  rintro e w4 ⟨rfl, hb4⟩
  have hrt := HA.out.2.1
  rw [hrt]
  have hs4 := hb4.size
  have hvi4 := H3.out.1.below hb4
  have hb04 := H3.out.2.1.trans (hb4.mono H3.out.2.1.size)
  have hw3 := H3.out.2.1.size
  have hrow4 : w4.heap[w.heap.size]? = _ := (hb4.block w.heap.size (by omega)).trans H3.out.2.2.1
  obtain ⟨c0, c1, c2, c3⟩ := H3.out.2.2.2.below hb4
  have H4 := Lib.hid (And.intro hvi4 (And.intro hb04 hrow4))
  have hfz : ∀ j, w4.frozen? ⟨w.heap.size, j, none⟩ = false := fun j => frozen_of_row w4 w.heap.size j _ _ hrow4
  have e0 : w4.cell? ⟨w.heap.size, 0, none⟩ = some (.int .i64 0) := cell_of_row _ _ 0 _ _ (0, 0) hrow4
  have e1 : w4.cell? ⟨w.heap.size, 1, none⟩ = some (.int .i64 0) := cell_of_row _ _ 1 _ _ (0, 0) hrow4
  have e2 : w4.cell? ⟨w.heap.size, 2, none⟩ = some (.string ⟨#[]⟩) := cell_of_row _ _ 2 _ _ (0, 0) hrow4
  have e3 : w4.cell? ⟨w.heap.size, 3, none⟩ = some (.slice none 0 0) := cell_of_row _ _ 3 _ _ (0, 0) hrow4
  clear hvi4 hb04 hrow4 hb4 hrt
  go_wp2_with fail
  clear c0 c1 c2 c3 e0 e1 e2 e3 hfz
  obtain ⟨q1, q2, q3⟩ := H4.out
  generalize hg0 : w.heap.size = g0 at *
  generalize hF : ((((w4.setCell ⟨g0, 0, none⟩ (.int .i64 k)).setCell ⟨g0, 1, none⟩ (.int .i64 m)).setCell ⟨g0, 2, none⟩ (.string ⟨t.toArray⟩)).setCell ⟨g0, 3, none⟩ (.slice yo ks.length ycap)) = F
  have hK : Keeps (fun j => j = g0) w4 F := by
    rw [← hF]
    exact Keeps.trans' (Keeps.trans' (Keeps.trans' (Keeps.of_grown (setCell_grown0 _ _ _ _) rfl) (Keeps.of_grown (setCell_grown0 _ _ _ _) rfl)) (Keeps.of_grown (setCell_grown0 _ _ _ _) rfl)) (Keeps.of_grown (setCell_grown0 _ _ _ _) rfl)
  have hrF := setCell_row0 3 (.slice yo ks.length ycap) (setCell_row0 2 (.string ⟨t.toArray⟩) (setCell_row0 1 (.int .i64 m) (setCell_row0 0 (.int .i64 k) q3)))
  rw [hF] at hrF
  have hvF : ValAt F g0 k m t yo ks.length ycap := ⟨cell_of_row _ _ 0 _ _ (0, 0) hrF, cell_of_row _ _ 1 _ _ (0, 0) hrF, cell_of_row _ _ 2 _ _ (0, 0) hrF, cell_of_row _ _ 3 _ _ (0, 0) hrF⟩
  refine bodyPost_ret (v := .tuple #[valV k m t yo ks.length ycap, .int .i64 0]) (results_dec _ _ g0 k m t yo ks.length ycap _ rfl rfl hvF) rfl ?_
  exact ⟨_, rfl, (q1.keeps hK (fun j hj h => by omega)).mono (fun j hj => by omega), q2.trans (hK.below (fun j hj h => by omega) (by omega))⟩
end Go.Proofs.YtpeehagaiofobaaDoor

namespace Go.Proofs.YtpeehagaiofobaaDoor.scriptorRecords
open Go.ChangeShapes Go.WideShapes Go.ChangeAt Go.RowKit Go.ChangeMaps

/-- A value of a row, where it lies. -/
theorem seq_ldvo {o : Oper} {x : Operand} {a : Act} {w : World} (ho : o.op = .load 37 x) {b f : Nat} {k m : Int} {t : List UInt8} {ao : Option Addr} {n cap : Nat} (hx : a.eval x = .pointer (some ⟨b, f, none⟩))
    (h0 : w.cell? ⟨b, f, none⟩ = some (.int .i64 k)) (h1 : w.cell? ⟨b, f + 1, none⟩ = some (.int .i64 m)) (h2 : w.cell? ⟨b, f + 2, none⟩ = some (.string ⟨t.toArray⟩)) (h3 : w.cell? ⟨b, f + 3, none⟩ = some (.slice ao n cap)) :
    ∀ w', Below w.heap.size w w' → (execOp a.eval o).run Tryd.prog w' = .ok (.value (valV k m t ao n cap)) w' := by
  intro w' hb
  have hblk := hb.block b (World.block_lt_of_cell? (a := ⟨b, f, none⟩) w h0)
  have c0 := (World.cell?_of_block (a := ⟨b, f, none⟩) hblk).trans h0
  have c1 := (World.cell?_of_block (a := ⟨b, f + 1, none⟩) hblk).trans h1
  have c2 := (World.cell?_of_block (a := ⟨b, f + 2, none⟩) hblk).trans h2
  have c3 := (World.cell?_of_block (a := ⟨b, f + 3, none⟩) hblk).trans h3
  have hu := Tryd.underlying37
  unfold execOp valV
  simp only [ho, hx]
  go_simp
/-- Blocks that stay may be written by the law itself. -/
theorem sysX_app {w0 w w' : World} {d g : Nat} {s : DS} {l : LS} {X Y : Nat → Prop} (h : SysX w0 w d g s l X) (hk : Keeps Y w w') (hY : ∀ j, Y j → X j ∧ w0.heap.size ≤ j) : SysX w0 w' d g s l (fun j => X j ∨ (w.heap.size ≤ j ∧ j < w'.heap.size)) := by
  obtain ⟨M, I, h1, h2, h3, h4, h5, h6, h7⟩ := h
  have hs := hk.size
  have hlt := h2.lt
  refine ⟨M, I, h1.keeps hk (fun b hb hy => (h7 b (hY b hy).1).1 hb) (fun b hb hy => (h7 b (hY b hy).1).2.1 hb), h2.keeps hk (fun hy => (h7 g (hY g hy).1).2.2.1 rfl), h3, h4, h5, h6.trans (hk.below (fun j hj hy => by have := (hY j hy).2; omega) h6.size), fun j hj => ?_⟩
  rcases hj with hx | hx
  · obtain ⟨a, b, c, e⟩ := h7 j hx
    exact ⟨a, b, c, by omega⟩
  · exact ⟨fun hm => by have := (h1.lt j hm).2; omega, fun hm => by have := (h1.ltI j hm).2; omega, by omega, by omega⟩
/-- Between two values: the log in order, the row of the values that were tried. -/
def SR (W w : World) (N d g : Nat) (ho : Option Addr) (hcap : Nat) (had : List PV) (i : Nat) : Prop :=
  ∃ s l D, SysX W w d g s l (fun j => D j ∨ blk ho = some j) ∧ ValsOwn w W.heap.size D N ho hcap had ∧ PR s l (had.map encV) ∧ s.steps ≤ 1000 + 100 * i ∧ l.age ≤ 1 ∧ ∀ x ∈ had, rightV floatOk 1 x = true ∧ (encV x).length ≤ 16384
theorem SR.next {W w w' : World} {N d g : Nat} {ho : Option Addr} {hcap : Nat} {had : List PV} {i : Nat} (h : SR W w N d g ho hcap had i) (hb : Below w.heap.size w w') : SR W w' N d g ho hcap had (i + 1) := by
  obtain ⟨s, l, D, h1, h2, h3, h4, h5, h6⟩ := h
  exact ⟨s, l, D, h1.below hb, h2.below hb, h3, by omega, h5, h6⟩
/-- Behind them all: what a crash may leave. -/
def Out (W w : World) (N d g : Nat) (ho : Option Addr) (hcap : Nat) (had : List PV) (made : Nat) : Prop :=
  ∃ s l D, SysX W w d g s l (fun j => D j ∨ blk ho = some j) ∧ ValsOwn w W.heap.size D N ho hcap had ∧ s.W.length ≤ 1000 ∧ (∀ x ∈ had, rightV floatOk 1 x = true ∧ (encV x).length ≤ 16384) ∧ had.length ≤ 20 ∧ made ≤ 20 ∧
    ∀ P, ∃ la j, PR (s.crash P) la ((had.take j).map encV) ∧ la.age ≤ 1 ∧ made ≤ j ∧ j ≤ made + 1 ∧ j ≤ had.length
theorem SR.out {W w : World} {N d g : Nat} {ho : Option Addr} {hcap : Nat} {had : List PV} {i : Nat} (h : SR W w N d g ho hcap had i) (hl : had.length ≤ 20) : Out W w N d g ho hcap had had.length := by
  obtain ⟨s, l, D, h1, h2, h3, h4, h5, h6⟩ := h
  exact ⟨s, l, D, h1, h2, by rw [h3.W]; simp, h6, hl, hl, fun P => ⟨l, had.length, by rw [List.take_length]; exact h3.crash P, h5, Nat.le_refl _, by omega, Nat.le_refl _⟩⟩
theorem need_le {n : Nat} (h : n ≤ 16384) : needN n ≤ 60 := by unfold needN nparts; omega

set_option maxRecDepth 100000 in
set_option maxHeartbeats 20000000 in
theorem walk (N : Nat) (lo : Option Addr) (lcap : Nat) (ls : List PV) (hlen : ls.length ≤ 9223372036854775807) (n : Int) (po : Option Addr) (pcap : Nat) (P : List Int) (hP : P.length ≤ 9223372036854775807) (W : World) (hB0 : 0 < W.heap.size) (hls : VsIn W (fun _ => True) N lo ls) (hpa : At W po (P.map (Value.int .i64))) (ht : Tab W) :
    Calls Tryd.prog 3 #[.slice lo ls.length lcap, .int .i64 n, .slice po P.length pcap] W (Says W (.bool true)) := by
  have HT := Lib.hid ht
  have HE := Lib.hid hls
  have HPA := Lib.hid hpa
  have HPW := Lib.hid (fun (hne : P ≠ []) (j : Nat) (hj : blk po = some j) => show j < W.heap.size from by
    obtain ⟨j', hj', hlt'⟩ := hpa.lt (by simpa using hne)
    rw [hj] at hj'
    cases hj'
    exact hlt')
  clear hls ht hpa
  obtain ⟨r, hr, hre⟩ : ∃ r : Nat, r < 80 ∧ wrap64 ((IntKind.u64.wrap n).tmod 80) = (r : Int) := cutmod0 n 80 (by decide) (by decide)
  go_enter Tryd.func3, Tryd.ntmps3
  go_wp2_with fail
  refine (new_any 120 (by decide) (by decide) W).mono ?_
  rintro e w1 ⟨d, M, I, rfl, hd, hb1⟩
  have H1 := Lib.hid (And.intro hd hb1)
  have hs1 := hb1.size
  clear hd hb1
  go_wp2_with fail
  refine (stands_any w1).mono ?_
  rintro e w1' ⟨rfl, rfl⟩
  go_wp2_with fail
  refine (format_any w1 H1.out.1 rfl rfl (by decide) (by decide) 3 100 (by decide) (by decide) (by decide) (HT.out.below H1.out.2) hB0 hs1).mono ?_
  rintro e w2 ⟨rfl, hu⟩
  have hown2 : OwnX W w2 d freshR (fun _ => False) := by
    obtain ⟨M', I', h1, h2⟩ := Own.step H1.out.1 H1.out.2 hu
    exact ⟨M', I', h1, h2, fun _ h => h.elim⟩
  have H2 := Lib.hid hown2
  clear hu hown2
  go_wp2_with fail
  refine (open_sysR H2.out HT.out freshPR.1 (by decide)).mono ?_
  rintro e w3 ⟨g, ro, rcap, rfl, hsys, _, _⟩
  have H3 := Lib.hid hsys
  clear hsys
  simp only [List.length_nil]
  go_wp2_with fail
  rw [hre]
  clear hre
  refine (arm_sysX H3.out r (by omega)).mono ?_
  rintro e w4 ⟨⟨v, rfl⟩, h4, _⟩
  have hs4 := h4.bel.size
  have H4 := Lib.hid (show SR W w4 N d g none 0 [] 0 from ⟨_, _, fun _ => False, h4.grow _ (Below.refl _ _) (fun j hj => by rcases hj with h | h; exact h.elim; cases h), ValsOwn.nil _ _ _ _, freshPR.1.armed _, by have := freshPR.2.2; simp only; omega, by decide, fun x hx => by cases hx⟩)
  clear h4
  go_upto_block 0 with (fail)
  go_cut [11, 12, 13, 14, 15, 16, 17] from 52 to 87 (fun v11 v12 _ _ _ _ _ w' => ∃ (ho : Option Addr) (hcap : Nat) (had : List PV) (made : Nat), v11 = .slice ho had.length hcap ∧ v12 = .int .i64 (made : Int) ∧ Out W w' N d g ho hcap had made)
  case first =>
    go_wp2_with fail
    go_loopw [11, 12, 13] (fun v11 v12 v13 wr => ∃ (i : Nat) (ho : Option Addr) (hcap : Nat) (had : List PV), i ≤ 20 ∧ i ≤ ls.length ∧ had.length ≤ i ∧ v13 = .int .i64 (i : Int) ∧ v12 = .int .i64 (had.length : Int) ∧ v11 = .slice ho had.length hcap ∧ SR W wr N d g ho hcap had i) (fun _ _ v13 _ => 20 - (intOf v13).toNat)
    case atStart => exact ⟨0, none, 0, [], by omega, by omega, by simp, rfl, rfl, rfl, H4.out⟩
    case round =>
      obtain ⟨i, ho, hcap, had, hi20, hil, hadi, rfl, rfl, rfl, hsr⟩ := hrel
      have HR := Lib.hid hsr
      clear hsr
      by_cases hgo : i < ls.length ∧ i < 20
      · obtain ⟨hga, hgb⟩ := hgo
        have dA : decide ((i : Int) < (ls.length : Int)) = true := decide_eq_true (by omega)
        have dB : decide ((i : Int) < 20) = true := decide_eq_true (by omega)
        cases N with
        | zero =>
          obtain ⟨_, _, _, _, hv, _⟩ := HE.out.get i hga
          exact hv.elim
        | succ n' =>
        obtain ⟨s, l, D, hsys, hvo, hpr, hst, hage, hgood⟩ := HR.out
        have hbel := hsys.bel
        have hszr := hbel.size
        have HS := Lib.hid (And.intro hsys (And.intro hvo (And.intro hpr (And.intro hst (And.intro hage hgood)))))
        obtain ⟨b, o, k2, m2, t2, kao, kks, kcap2, rfl, hx, hv, c0, c1, c2, c3, hblt⟩ := (HE.out.below hbel).cells i hga
        have HTM := Lib.hid (tame_any (n' + 1) (.mk k2 m2 t2 kks) wr _ _ hv 100 60 (by decide) (by decide) (by decide) (by decide))
        clear hx hv hsys hvo hpr hst hage hgood hbel
        go_wp2_with fail
        refine HTM.out.mono ?_
        rintro e w2 ⟨cs', y, z2, rfl, hz2, hy, hb2⟩
        obtain ⟨ky, my, ty, kys⟩ := y
        obtain ⟨yo, ycap, hyv, hycs, _⟩ := hy.val
        rw [hyv]
        rw [hycs] at hy
        unfold valV
        have hs2 := hb2.size
        have HY := Lib.hid (And.intro hy hb2)
        clear hy hb2 hyv hycs c0 c1 c2 c3 HTM hblt
        go_upto_region 14 with (fail)
        obtain ⟨W3, hW3⟩ : ∃ W3, w2.alloc (.cells #[.int .i64 ky, .int .i64 my, .string ⟨ty.toArray⟩, .slice yo kys.length ycap] 37) = W3 := ⟨_, rfl⟩
        have hb23 : Below w2.heap.size w2 W3 := by rw [← hW3]; exact (Below.refl _ w2).alloc (Nat.le_refl _) _
        have hs23 : w2.heap.size < W3.heap.size := by rw [← hW3]; simp
        have hv3 : ValAt W3 w2.heap.size ky my ty yo kys.length ycap := by rw [← hW3]; exact ValAt.new w2 ky my ty yo kys.length ycap
        rw [hW3]
        have H3' := Lib.hid (And.intro (HY.out.1.there.below hb23) (And.intro (HY.out.2.trans (hb23.mono hs2)) hv3))
        obtain ⟨c0, c1, c2, c3⟩ := hv3
        clear hW3 hb23
        have HEN := Lib.hid (encode_any (n' + 1) (.mk ky my ty kys) W3 _ _ H3'.out.1)
        go_wp2_with fail
        refine HEN.out.mono ?_
        rintro e w4 ⟨hb4, henc⟩
        have hs34 := hb4.size
        obtain ⟨c0, c1, c2, c3⟩ := H3'.out.2.2.below hb4
        rcases henc with ⟨hrt, hel, bo, bcap, rfl, hbown⟩ | ⟨z, hz, rfl⟩
        · obtain ⟨EB, hEB⟩ : ∃ EB, encV (.mk ky my ty kys) = EB := ⟨_, rfl⟩
          have HB := Lib.hid (And.intro hbown (And.intro hel (And.intro hrt (And.intro hb4 hEB))))
          rw [hEB]
          clear hbown hel hrt hb4 hEB
          have hD4 : ∀ j, blk ho = some j → ¬ (D j ∨ (wr.heap.size ≤ j ∧ j < w4.heap.size)) := fun j hj h => by
            rcases h with h | h
            · exact HS.out.2.1.2 j hj h
            · have := (HS.out.2.1.lt j hj).2; omega
          have hbr4 : Below wr.heap.size wr w4 := H3'.out.2.1.trans (HB.out.2.2.2.1.mono (by omega))
          have hvo4 : ValsOwn w4 W.heap.size (fun j => D j ∨ (wr.heap.size ≤ j ∧ j < w4.heap.size)) (n' + 1) ho hcap had := (HS.out.2.1.below hbr4).grow (fun j hj => .inl hj) hD4 (Nat.le_refl _)
          have hy4 : VIn w4 (fun j => D j ∨ (wr.heap.size ≤ j ∧ j < w4.heap.size)) (n' + 1) [.int .i64 ky, .int .i64 my, .string ⟨ty.toArray⟩, .slice yo kys.length ycap] (.mk ky my ty kys) := (H3'.out.1.below HB.out.2.2.2.1).mono (fun j hj => .inr ⟨hj.1, by have := hj.2; omega⟩)
          have hDl : ∀ j, (D j ∨ (wr.heap.size ≤ j ∧ j < w4.heap.size)) → j < w4.heap.size := fun j hj => by
            rcases hj with h | h
            · have := HS.out.1.sys.log.lt
              obtain ⟨_, _, _, _, _, _, _, _, h7⟩ := HS.out.1
              have := (h7 j (.inl h)).2.2.2
              omega
            · exact h.2
          have hsy4 : SysX W w4 d g s l (fun j => (D j ∨ (wr.heap.size ≤ j ∧ j < w4.heap.size)) ∨ blk ho = some j) := HS.out.1.grow _ hbr4 (fun j hj => by
            rcases hj with (h | h) | h
            · exact .inl (.inl h)
            · exact .inr (.inl h)
            · exact .inl (.inr h))
          have hat4 : At w4 bo (bytesV EB) := by rw [← HB.out.2.2.2.2]; exact At.own HB.out.1
          have hbo4 : ∀ j, blk bo = some j → wr.heap.size ≤ j ∧ j < w4.heap.size := fun j hj => by
            have := HB.out.1.lt j (by rw [own_slice]; exact hj)
            omega
          have hbc4 : EB.length ≤ bcap ∧ EB.length ≤ 16384 := by
            have h1 := HB.out.1
            have h2 := HB.out.2.1
            rw [HB.out.2.2.2.2] at h1 h2
            refine ⟨?_, h2⟩
            rcases h1.2 with ⟨e, _⟩ | ⟨_, cap', cur, hv, _, _, hnc, _⟩
            · have := Value.slice.inj e
              omega
            · have := Value.slice.inj hv
              omega
          have H4' := Lib.hid (And.intro hvo4 (And.intro hy4 (And.intro hDl (And.intro hsy4 (And.intro hat4 (And.intro hbo4 hbc4))))))
          have HBR := Lib.hid hbr4
          clear hD4 hbr4 hvo4 hy4 hDl hsy4 hat4 hbo4 hbc4
          go_wp2_with (first | (at_builtin; refine app_val rfl _ _ rfl W.heap.size (fun j => D j ∨ (wr.heap.size ≤ j ∧ j < w4.heap.size)) (n' + 1) ho hcap had.length had rfl rfl H4'.out.1 ky my ty yo kys.length ycap (.mk ky my ty kys) H4'.out.2.1 w4.heap.size rfl rfl H4'.out.2.2.1 (by omega) (by omega) ?_; rintro ao5 cap5 w5 q1 q2 q3))
          have hsys5 : SysX W w5 d g s l (fun j => (D j ∨ (wr.heap.size ≤ j ∧ j < w4.heap.size)) ∨ blk ao5 = some j) := by
            have h1 := sysX_app (Y := fun j => blk ho = some j) H4'.out.2.2.2.1 q2 (fun j hj => ⟨.inr hj, (HS.out.2.1.lt j hj).1⟩)
            refine h1.grow _ (Below.refl _ _) (fun j hj => .inl ?_)
            rcases hj with h | h
            · exact .inl (.inl h)
            · rcases q3 j h with h' | h'
              · exact .inl (.inr h')
              · exact .inr ⟨by omega, (q1.lt j h).2⟩
          have hat5 : At w5 bo (bytesV EB) := H4'.out.2.2.2.2.1.keeps q2 (fun b hb _ hx => by have := H4'.out.2.2.2.2.2.1 b hb; have := (HS.out.2.1.lt b hx).2; omega)
          have hgood5 : ∀ x ∈ had ++ [PV.mk ky my ty kys], rightV floatOk 1 x = true ∧ (encV x).length ≤ 16384 := by
            intro x hx
            rcases List.mem_append.1 hx with h | h
            · exact HS.out.2.2.2.2.2 x h
            · obtain rfl : x = PV.mk ky my ty kys := by simpa using h
              exact ⟨HB.out.2.2.1, HB.out.2.1⟩
          have hmap5 : (had ++ [PV.mk ky my ty kys]).map encV = had.map encV ++ [EB] := by rw [List.map_append, ← HB.out.2.2.2.2]; rfl
          have H5 := Lib.hid (And.intro q1 (And.intro hsys5 (And.intro hat5 (And.intro hgood5 hmap5))))
          clear q1 q2 q3 hsys5 hat5 hgood5 hmap5
          have hbc := H4'.out.2.2.2.2.2.2
          have hpr := HS.out.2.2.1
          have hff := hpr.f
          have hcnt := hpr.cnt
          have hwl0 := hpr.W
          have hnx := hpr.next
          have hle := hpr.inv.le
          have hst := HS.out.2.2.2.1
          have hage := HS.out.2.2.2.2.1
          have hmm : (had.map encV).length = had.length := List.length_map _
          by_cases hfit : needN EB.length ≤ l.cnt - l.at_
          · obtain ⟨hres, hst2, hwl2⟩ := append_downR hpr EB (by omega) hfit
            have hneed := need_le hbc.2
            refine (append_sysX (wp := w5) H5.out.2.1 (Below.refl _ w5) hB0 HT.out (by omega) (by rw [hwl0]; decide) (by omega) (by omega) (by omega) (by omega) bo EB.length bcap EB rfl hbc.1 (by omega) H5.out.2.2.1 (fun j hj _ => .inr (.inr (.inl (.inr (H4'.out.2.2.2.2.2.1 j hj))))) hfit).mono ?_
            rintro e w6 ⟨rfl, h6, hsty⟩
            generalize appendP l.f s l.at_ l.age l.next EB = R at *
            have hvo6 := H5.out.1.keeps hsty (fun b hb hx => hx (.inl hb)) (fun j hj hx => hx (.inr hj))
            rcases hres with ⟨e1, p1⟩ | ⟨e1, _, p1⟩
            · rw [e1] at h6 ⊢
              have HQ := Lib.hid (show SR W w6 (n' + 1) d g ao5 cap5 (had ++ [PV.mk ky my ty kys]) (i + 1) from ⟨R.2, _, _, h6, hvo6, by rw [H5.out.2.2.2.2]; exact p1, by omega, by simp only [appendL, if_pos]; omega, H5.out.2.2.2.1⟩)
              clear h6 hsty hvo6 hst2 hwl2 e1 p1 hpr hff hcnt hwl0 hnx hle hst hage hmm hfit hbc
              go_wp2_with fail
              go_roundw
              case rel => exact ⟨i + 1, ao5, cap5, had ++ [PV.mk ky my ty kys], by omega, by omega, by simp; omega, by simp, by simp, by simp, HQ.out⟩
              case measure => simp [intOf]; omega
            · rw [e1] at h6 ⊢
              have HQ := Lib.hid (show Out W w6 (n' + 1) d g ao5 cap5 (had ++ [PV.mk ky my ty kys]) had.length from ⟨R.2, _, _, h6, hvo6, by omega, H5.out.2.2.2.1, by simp; omega, by omega, fun P => by
                rcases p1 P with h | h
                · exact ⟨l, had.length, by rw [List.take_left]; exact h, hage, Nat.le_refl _, by omega, by simp⟩
                · exact ⟨appendL l 0 EB, had.length + 1, by rw [List.take_of_length_le (by simp), H5.out.2.2.2.2]; exact h, by simp only [appendL, if_pos]; omega, by omega, Nat.le_refl _, by simp⟩⟩)
              clear h6 hsty hvo6 hst2 hwl2 e1 p1 hpr hff hcnt hwl0 hnx hle hst hage hmm hfit hbc
              go_wp2_with fail
              go_meet
              case rel => exact ⟨ao5, cap5, had ++ [PV.mk ky my ty kys], had.length, by simp, rfl, HQ.out⟩
          · refine (appendFull_any bo EB.length bcap w5 H5.out.2.1.log (by omega) (by omega) (by omega) (by omega)).mono ?_
            rintro e w6 ⟨rfl, hb6⟩
            have HQ := Lib.hid (show Out W w6 (n' + 1) d g ao5 cap5 (had ++ [PV.mk ky my ty kys]) had.length from ⟨s, l, _, H5.out.2.1.below hb6, H5.out.1.below hb6, by rw [hwl0]; simp, H5.out.2.2.2.1, by simp; omega, by omega, fun P => ⟨l, had.length, by rw [List.take_left]; exact hpr.crash P, hage, Nat.le_refl _, by omega, by simp⟩⟩)
            clear hb6 hpr hff hcnt hwl0 hnx hle hst hage hmm hfit hbc
            go_wp2_with fail
            go_meet
            case rel => exact ⟨ao5, cap5, had ++ [PV.mk ky my ty kys], had.length, by simp, rfl, HQ.out⟩
        · have HQ := Lib.hid (HR.out.next (H3'.out.2.1.trans (hb4.mono (by omega))))
          clear hb4
          rcases hz with rfl | rfl
          · go_wp2_with fail
            go_roundw
            case rel => exact ⟨i + 1, ho, hcap, had, by omega, by omega, by omega, by simp, rfl, rfl, HQ.out⟩
            case measure => simp [intOf]; omega
          · go_wp2_with fail
            go_roundw
            case rel => exact ⟨i + 1, ho, hcap, had, by omega, by omega, by omega, by simp, rfl, rfl, HQ.out⟩
            case measure => simp [intOf]; omega
      · by_cases hga : i < ls.length
        · have dA : decide ((i : Int) < (ls.length : Int)) = true := decide_eq_true (by omega)
          have dB : decide ((i : Int) < 20) = false := decide_eq_false (by omega)
          clear hgo
          go_wp2_with fail
          go_meet
          case rel => exact ⟨ho, hcap, had, had.length, rfl, rfl, HR.out.out (by omega)⟩
        · have dA : decide ((i : Int) < (ls.length : Int)) = false := decide_eq_false (by omega)
          clear hgo
          go_wp2_with fail
          go_meet
          case rel => exact ⟨ho, hcap, had, had.length, rfl, rfl, HR.out.out (by omega)⟩
  case rest =>
    obtain ⟨ho, hcap, had, made, rfl, rfl, s, l, D, hsys, hvo, hwl, hgood, hh20, hm20, hcr⟩ := hcut
    obtain ⟨la, j, hpr, hag, hj1, hj2, hj3⟩ := hcr P
    have hbel := hsys.bel
    have hszc := hbel.size
    have HC := Lib.hid (And.intro hsys (And.intro hvo (And.intro hpr (And.intro hag (And.intro hgood (And.intro hbel hwl))))))
    clear hsys hvo hpr hag hgood hbel hcr hwl
    go_wp2_with fail
    refine (crash_sysX HC.out.1.own (by have := HC.out.2.2.2.2.2.2; omega) po pcap P hP (HPA.out.below HC.out.2.2.2.2.2.1) (fun b hb hn => .inl (HPW.out hn b hb))).mono ?_
    rintro e w6 ⟨⟨v6, rfl⟩, h6, hsty6⟩
    have H6 := Lib.hid (And.intro h6 (HC.out.2.1.keeps hsty6 (fun b hb hx => hx (.inl hb)) (fun j hj hx => hx (.inr hj))))
    clear h6 hsty6
    obtain ⟨recs3, hrecs3⟩ : ∃ r, (had.take j).map encV = r := ⟨_, rfl⟩
    have hrl : recs3.length = j := by rw [← hrecs3, List.length_map, List.length_take]; omega
    have HP3 := Lib.hid (show PR (s.crash P) la recs3 by rw [← hrecs3]; exact HC.out.2.2.1)
    have HRL := Lib.hid (And.intro hrl hrecs3)
    clear hrl hrecs3
    go_wp2_with fail
    refine (open_sysR H6.out.1 HT.out HP3.out (by have := HC.out.2.2.2.1; omega)).mono ?_
    rintro e w7 ⟨g7, ro7, rcap7, rfl, h7, hrec, hb67⟩
    rw [HRL.out.1]
    have H7 := Lib.hid (And.intro h7 (And.intro hrec (H6.out.2.below hb67)))
    have hb7 := h7.bel
    have hs7 := hb7.size
    have HB7 := Lib.hid hb7
    clear h7 hrec hb67 hb7
    have dA : decide ((j : Int) < (made : Int)) = false := decide_eq_false (by omega)
    have dB : decide ((made : Int) + 1 < (j : Int)) = false := decide_eq_false (by omega)
    have dC : decide ((had.length : Int) < (j : Int)) = false := decide_eq_false (by omega)
    have dD : decide (j < made) = false := decide_eq_false (by omega)
    have dE : decide (made + 1 < j) = false := decide_eq_false (by omega)
    have dF : decide (had.length < j) = false := decide_eq_false (by omega)
    go_wp2_with fail
    clear dA dB dC dD dE dF
    go_loopw [20] (fun v20 wr => ∃ q : Nat, q ≤ j ∧ v20 = .int .i64 (q : Int) ∧ Below w7.heap.size w7 wr) (fun v20 _ => j - (intOf v20).toNat)
    case atStart => exact ⟨0, by omega, rfl, Below.refl _ _⟩
    case round =>
      obtain ⟨q, hq, rfl, hbr⟩ := hrel
      have HO := Lib.hid hbr
      have hszr := hbr.size
      clear hbr
      by_cases hlt : q < j
      · have dA : decide ((q : Int) < (j : Int)) = true := decide_eq_true (by omega)
        obtain ⟨vs, hat, hall, _⟩ := H7.out.2.1.below HO.out
        have hvl : vs.length = recs3.length := hall.1
        have hrl := HRL.out.1
        obtain ⟨rb, rf, rfl, hcq⟩ := hat.exv q (by omega)
        obtain ⟨ao, acap, hve, hab, _⟩ := hall.2 q vs[q] recs3[q] (List.getElem?_eq_getElem _) (List.getElem?_eq_getElem _)
        rw [hve] at hcq
        have hqh : q < had.length := by omega
        have hrq : recs3[q] = encV had[q] := by
          have h1 : recs3[q]? = ((had.take j).map encV)[q]? := by rw [HRL.out.2]
          rw [List.getElem?_eq_getElem (by omega), List.getElem?_map, List.getElem?_take, if_pos hlt, List.getElem?_eq_getElem hqh] at h1
          simpa using h1
        rw [hrq] at hcq hab
        obtain ⟨hgr, hgl⟩ := HC.out.2.2.2.2.1 had[q] (List.getElem_mem _)
        have HVC := Lib.hid ((H7.out.2.2.below HO.out).vs)
        cases N with
        | zero =>
          obtain ⟨_, _, _, _, hv, _⟩ := HVC.out.get q hqh
          exact hv.elim
        | succ n' =>
        have HD := Lib.hid (decode_any had[q] hgr wr ao _ acap rfl hgl hab)
        clear hat hall hve hab hrq hgr hgl hrl hvl
        go_wp2_with fail
        refine HD.out.mono ?_
        rintro e w8 ⟨cs8, rfl, hv8, hb8⟩
        have hs8 := hb8.size
        obtain ⟨x, hx⟩ : ∃ x, had[q] = x := ⟨_, rfl⟩
        rw [hx] at hv8
        obtain ⟨ky, my, ty, kys⟩ := x
        obtain ⟨yo, ycap, hyv, hycs, _⟩ := hv8.val
        rw [hyv]
        rw [hycs] at hv8
        unfold valV
        have H8 := Lib.hid (And.intro hv8 (And.intro hb8 hx))
        clear hv8 hb8 hx hyv hycs hcq HD
        go_upto_region 27 with (fail)
        obtain ⟨W9, hW9⟩ : ∃ W9, w8.alloc (.cells #[.int .i64 ky, .int .i64 my, .string ⟨ty.toArray⟩, .slice yo kys.length ycap] 37) = W9 := ⟨_, rfl⟩
        have hb89 : Below w8.heap.size w8 W9 := by rw [← hW9]; exact (Below.refl _ w8).alloc (Nat.le_refl _) _
        have hs89 : w8.heap.size < W9.heap.size := by rw [← hW9]; simp
        have hv9 : ValAt W9 w8.heap.size ky my ty yo kys.length ycap := by rw [← hW9]; exact ValAt.new w8 ky my ty yo kys.length ycap
        rw [hW9]
        have hbr9 : Below wr.heap.size wr W9 := H8.out.2.1.trans (hb89.mono hs8)
        have H9 := Lib.hid (And.intro ((H8.out.1.below hb89).below (Below.refl _ W9).drew) (And.intro hbr9 (And.intro (hv9.below (Below.refl _ W9).drew) (HVC.out.below (hbr9.trans (Below.refl _ W9).drew)))))
        clear hW9 hb89 hv9 hbr9
        obtain ⟨b, o, k2, m2, t2, kao, kks, kcap2, rfl, hx2, hv2, c0, c1, c2, c3, hblt⟩ := H9.out.2.2.2.cells q hqh
        rw [H8.out.2.2] at hx2
        cases hx2
        have HSM := Lib.hid (vsame_any (max 200 (n' + 1)) (.mk ky my ty kys) W9.drew _ _ _ _ (H9.out.1.deep (Nat.le_max_left _ _)) (hv2.deep (Nat.le_max_right _ _)))
        have HCC := Lib.hid (And.intro c0 (And.intro c1 (And.intro c2 c3)))
        clear hv2 c0 c1 c2 c3 hblt
        refine seq_start (by kernel_rfl) ?_
        refine seq_take 0 (v := ?_) rfl (by kernel_rfl) (fun _ _ _ h => h) (by rfl) (fun w' hw' => ?_) ?_
        rotate_left
        · go_simp; try with_reducible rfl
        try simp only [List.getElem_toArray, List.getElem_cons_succ, List.getElem_cons_zero, Act.put, List.setIfInBounds_toArray, List.set_cons_zero, List.set_cons_succ]
        refine seq_take 1 (v := ?_) rfl (by kernel_rfl) (fun _ _ _ h => h) (by rfl) (fun w' hw' => ?_) ?_
        rotate_left
        · go_simp; try with_reducible rfl
        try simp only [List.getElem_toArray, List.getElem_cons_succ, List.getElem_cons_zero, Act.put, List.setIfInBounds_toArray, List.set_cons_zero, List.set_cons_succ]
        refine seq_take 2 (v := ?_) rfl (by kernel_rfl) (fun _ _ _ h => h) (by rfl) (fun w' hw' => ?_) ?_
        rotate_left
        · go_simp; try with_reducible rfl
        try simp only [List.getElem_toArray, List.getElem_cons_succ, List.getElem_cons_zero, Act.put, List.setIfInBounds_toArray, List.set_cons_zero, List.set_cons_succ]
        refine seq_take 3 rfl (by kernel_rfl) (fun _ _ _ h => h) (by rfl) (seq_ldv rfl rfl (H9.out.2.2.1)) ?_
        try simp only [List.getElem_toArray, List.getElem_cons_succ, List.getElem_cons_zero, Act.put, List.setIfInBounds_toArray, List.set_cons_zero, List.set_cons_succ]
        refine seq_take 4 (v := ?_) rfl (by kernel_rfl) (fun _ _ _ h => h) (by rfl) (fun w' hw' => ?_) ?_
        rotate_left
        · go_simp; try with_reducible rfl
        try simp only [List.getElem_toArray, List.getElem_cons_succ, List.getElem_cons_zero, Act.put, List.setIfInBounds_toArray, List.set_cons_zero, List.set_cons_succ]
        refine seq_take 5 (v := ?_) rfl (by kernel_rfl) (fun _ _ _ h => h) (by rfl) (fun w' hw' => ?_) ?_
        rotate_left
        · go_simp; try with_reducible rfl
        try simp only [List.getElem_toArray, List.getElem_cons_succ, List.getElem_cons_zero, Act.put, List.setIfInBounds_toArray, List.set_cons_zero, List.set_cons_succ]
        refine seq_take 6 (v := ?_) rfl (by kernel_rfl) (fun _ _ _ h => h) (by rfl) (fun w' hw' => ?_) ?_
        rotate_left
        · go_simp; try with_reducible rfl
        try simp only [List.getElem_toArray, List.getElem_cons_succ, List.getElem_cons_zero, Act.put, List.setIfInBounds_toArray, List.set_cons_zero, List.set_cons_succ]
        refine seq_take 7 rfl (by kernel_rfl) (fun _ _ _ h => h) (by rfl) (seq_ldvo rfl rfl HCC.out.1 HCC.out.2.1 HCC.out.2.2.1 HCC.out.2.2.2) ?_
        try simp only [List.getElem_toArray, List.getElem_cons_succ, List.getElem_cons_zero, Act.put, List.setIfInBounds_toArray, List.set_cons_zero, List.set_cons_succ]
        unfold valV
        refine seq_run 8 rfl (by kernel_rfl) (by rfl) (fun KK hKK => ?_)
        go_wp2_with fail
        refine HSM.out.mono ?_
        rintro e w10 ⟨rfl, hb10⟩
        have H10 := Lib.hid (And.intro hb10 (HO.out.trans ((H9.out.2.1.trans ((below_drew hb10).mono H9.out.2.1.size)).mono hszr)))
        clear hb10
        go_wp2_with fail
        refine ⟨H10.out.1, ?_⟩
        refine seq_take 9 (v := ?_) rfl (by kernel_rfl) (fun _ _ _ h => h) (by rfl) (fun w' hw' => ?_) ?_
        rotate_left
        · go_simp; try with_reducible rfl
        try simp only [List.getElem_toArray, List.getElem_cons_succ, List.getElem_cons_zero, Act.put, List.setIfInBounds_toArray, List.set_cons_zero, List.set_cons_succ]
        refine seq_take 10 (v := ?_) rfl (by kernel_rfl) (fun _ _ _ h => h) (by rfl) (fun w' hw' => ?_) ?_
        rotate_left
        · go_simp; try with_reducible rfl
        try simp only [List.getElem_toArray, List.getElem_cons_succ, List.getElem_cons_zero, Act.put, List.setIfInBounds_toArray, List.set_cons_zero, List.set_cons_succ]
        refine seq_done (by kernel_rfl) ?_
        go_wp2_with fail
        go_roundw
        case rel => exact ⟨q + 1, by omega, by simp, H10.out.2⟩
        case measure => simp [intOf]; omega
      · obtain rfl : q = j := by omega
        have dA : decide ((q : Int) < (q : Int)) = false := decide_eq_false (by omega)
        go_wp2_with fail
        go_ret
        exact ⟨rfl, HB7.out.trans (HO.out.mono hs7)⟩
theorem vs_of_rows {W : World} {D : Nat → Prop} : ∀ rs : List (List Value), (∀ r ∈ rs, ∃ n pv, VIn W D n r pv) → ∃ N ks, All2 (fun r x => VIn W D N r x) rs ks := by
  intro rs
  induction rs with
  | nil => exact fun _ => ⟨0, [], All2.nil⟩
  | cons r rs ih =>
    intro h
    obtain ⟨N, ks, hk⟩ := ih fun r' hr' => h r' (by simp [hr'])
    obtain ⟨n, pv, hp⟩ := h r (by simp)
    refine ⟨max n N, pv :: ks, by simp [hk.1], fun i a b ha hb => ?_⟩
    cases i with
    | zero =>
      simp at ha hb
      rw [← ha, ← hb]
      exact hp.deep (Nat.le_max_left _ _)
    | succ i => exact (hk.2 i a b (by simpa using ha) (by simpa using hb)).deep (Nat.le_max_right _ _)

theorem own : ownKnob Tryd.prog.godebug = none := by kernel_rfl
theorem laidOut : laidOutB Tryd.prog = true := by kernel_rfl
theorem readable : ∀ t ∈ Tryd.f3.params.toList, Tryd.prog.readableRec t = true ∧ t < Tryd.prog.types.size := by
  rw [Tryd.params3]
  intro t ht
  simp at ht
  rcases ht with rfl | rfl | rfl
  · exact ⟨by kernel_rfl, of_decide_eq_true (by kernel_rfl)⟩
  · exact ⟨by kernel_rfl, of_decide_eq_true (by kernel_rfl)⟩
  · exact ⟨by kernel_rfl, of_decide_eq_true (by kernel_rfl)⟩

theorem laid_met (os : Os) : laidMet Tryd.prog Rows.scriptorRecordsRow.laid ((laidWorld os).forCall (fun _ _ => 0) ⟨#[], #[.slice none 0 0, .int .i64 0, .slice none 0 0], []⟩).memory :=
  laidMet_of_run' 8 (by kernel_rfl) (by kernel_rfl)
theorem reads (os : Os) {H : Type} (enc : TypeId × Value → H) : DataW.whole enc Tryd.prog ((laidWorld os).forCall (fun _ _ => 0) ⟨#[], #[.slice none 0 0, .int .i64 0, .slice none 0 0], []⟩).memory Tryd.f3.params.toList Rows.scriptorRecordsSpec.vars false (#[.slice none 0 0, .int .i64 0, .slice none 0 0] : Array Value).toList 8 = some ([.nil, .lit (.int .i64 0), .nil], [], []) := by kernel_rfl
set_option maxRecDepth 100000 in
theorem lifted (os : Os) (started : os.Started) (H : Type) (enc : TypeId × Value → H) (F : Stop.Interp) :
    ReturnsInHanded {} Tryd.checked os 3 .any ((OpenSpec.ofChange Rows.scriptorRecordsSpec).preRow enc Tryd.prog Tryd.f3 Rows.scriptorRecordsRow.domain false Rows.scriptorRecordsRow.laid) (((OpenSpec.ofChange Rows.scriptorRecordsSpec).at F).post enc Tryd.prog Tryd.f3 false true false false) := by
  have hx := reads os enc
  refine returnsInHanded_of_row (C := Tryd.checked) (s := OpenSpec.ofChange Rows.scriptorRecordsSpec) own started (by kernel_rfl) Tryd.func3
    (witness_row_at (enc := enc) (C := Tryd.checked) false (laidWorld os) #[.slice none 0 0, .int .i64 0, .slice none 0 0] rfl (by kernel_rfl) (by kernel_rfl) (by kernel_rfl)
      (OpenSpec.preRow_of_cond 8 hx (by kernel_rfl) (fun k hk => by cases hk) (by kernel_rfl) (laid_met os))) ?_
  intro W base args ds gs before hval0 hW _ _ _ hL _ _
  have ht : Tab W := table_of hL
  have hval : ∀ (j : Nat) t v, Tryd.f3.params[j]? = some t → args[j]? = some v → Value.okWide Tryd.prog W .any base t v := hval0
  have hW' := hW
  obtain ⟨p, q, hA0, hV, rfl, hfz, hnd⟩ := hW
  have hA : DataW.TrodAll enc Tryd.prog W 0 (fun _ => true) true Tryd.f3.params.toList args.toList ds p := hA0
  rw [Tryd.params3] at hA hval
  obtain ⟨v0, v1, v2, d0, d1, d2, p0, p1, p2, rfl, rfl, rfl, h0, h1, h2⟩ := trodAll_three hA
  obtain ⟨rfl, rfl⟩ := trodVars_none hV
  obtain ⟨ao, cap, rows, rfl, hc, hm, hrows, hel⟩ := open_rows Tryd.underlying22 (by kernel_rfl : Tryd.prog.cellsOf 37 = 4) (by decide) (hval 0 22 v0 rfl rfl) h0
  obtain ⟨N, ls, hls⟩ := vs_of_rows (D := fun _ => True) rows fun r hr => by
    obtain ⟨_, n, y, hy⟩ := hel r hr
    obtain ⟨pv, hpv⟩ := open_pv Tryd.underlying37 (by kernel_rfl) Tryd.underlying3 Tryd.underlying9 Tryd.underlying22 (by kernel_rfl) (by kernel_rfl) (by kernel_rfl) (by kernel_rfl) n r y hy
    exact ⟨n, pv, hpv⟩
  obtain ⟨c, rfl, rfl, rfl, wc⟩ := open_int Tryd.underlying3 (hval 1 3 v1 rfl rfl) h1
  obtain ⟨po, pcap, l, rfl, hpc, hpm, hpat, _⟩ := open_intsl Tryd.underlying23 Tryd.underlying3 (by kernel_rfl) (hval 2 23 v2 rfl rfl) h2
  have hrl : rows.length = ls.length := hls.1
  rw [hrl] at hc hW' ⊢
  refine (walk N ao cap ls (by omega) c po pcap l (by omega) W (World.block_lt_of_cell? (a := ⟨0, 0, none⟩) W (ht 0 (by decide))) ⟨rows, hrows, fun _ _ _ => trivial, hls⟩ hpat ht).mono fun e W' ⟨he, hb⟩ => ?_
  subst he
  exact ⟨_, rfl, post_law laidOut rfl rfl Tryd.underlying4 readable rfl rfl rfl hW' hb⟩

theorem said : Rows.ScriptorRecordsSaid :=
  OpenClaim.holds_of_cond 3 Tryd.f3 rfl rfl rfl rfl rfl rfl rfl ⟨rfl, rfl, rfl, rfl, rfl⟩ rfl rfl rfl rfl rfl (by kernel_rfl) Tryd.func3 (by kernel_rfl)
    (of_decide_eq_true (by kernel_rfl)) (by unfold Func.isWrapper; first | (rw [if_pos (by decide +kernel)]; kernel_rfl) | (rw [if_neg (by decide +kernel)]; exact ⟨rfl, rfl⟩))
    (fun os started H enc _ F => by rw [OpenClaim.pre_eq_preRow]; exact lifted os started H enc F)

/-- No parameter wants a stand-in; the program's own looks are off. -/
theorem plain (f : FuncId) (fn : Func) (hf : Tryd.pinned.checked.prog.funcNamed "scriptor/scriptortop.ScriptorRecords" = some f) (hfn : Tryd.pinned.checked.prog.funcs[f]? = some fn) :
    false = Tryd.pinned.checked.prog.looks [] ∧ ∀ (j : Nat) t, fn.params[j]? = some t → Tryd.pinned.checked.prog.wantsStandIn t = false := by
  obtain rfl : f = 3 := Option.some.inj ((show Tryd.prog.funcNamed "scriptor/scriptortop.ScriptorRecords" = some 3 by kernel_rfl).symm.trans hf) |>.symm
  obtain rfl : fn = Tryd.f3 := (Option.some.inj (Tryd.func3.symm.trans hfn)).symm
  refine ⟨by kernel_rfl, fun j t ht => ?_⟩
  have hall : ∀ t ∈ Tryd.f3.params.toList, Tryd.prog.wantsStandIn t = false := by
    rw [Tryd.params3]
    intro t ht
    simp at ht
    rcases ht with rfl | rfl | rfl
    · kernel_rfl
    · kernel_rfl
    · kernel_rfl
  exact hall t (Array.mem_toList_iff.2 (Array.mem_of_getElem? ht))

theorem card : Rows.ScriptorRecordsCardSaid :=
  Claim7.holds_tied_plain_at .later [] _ _ _ _ said (fun _ h => by cases h) (by kernel_rfl) (fun _ h => by cases h) scriptorRecords_row_tie rfl ⟨rfl, rfl⟩ (by kernel_rfl) rfl plain (by kernel_rfl)
end Go.Proofs.YtpeehagaiofobaaDoor.scriptorRecords
