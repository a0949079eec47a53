/- What CodeBack leans on: the tables of its row's list, the walks of Encode, from and Same, and the law's input opened. -/
import Derived.Test.YtnhdefaagicejaaDoorCards
import Derived.Test.YtnhdefaagicejaaDoorTie
import Derived.Test.YtnhdefaagicejaaDoorCodeT
import Derived.Test.YtnhdefaagicejaaDoorLaw
import Derived.Deep.DeepHandedRow
import Derived.Lib.LaidTab
import Derived.Test.YtnhdefaagicejaaDoorCrc
import Derived.Test.YtnhdefaagicejaaDoorCodeV
import Derived.Test.YtnhdefaagicejaaDoorCodeBQ
import Derived.Test.YtnhdefaagicejaaDoorWire
import Derived.Lib.SlBytesConst
import Derived.Deep.AppendSrc
import Derived.Laws.PanicsMore
import Derived.Test.YtnhdefaagicejaaDoorCodeL
import Derived.Test.YtnhdefaagicejaaDoorCodeM
namespace Go.Proofs.YtnhdefaagicejaaDoor
set_option linter.unusedSimpArgs false
set_option linter.unusedVariables false
open Go.RowKit
theorem gShapes : Tryd.prog.globalNamed "scriptor/code.shapes" = some 0 := by kernel_rfl
theorem gShapesType : (Tryd.prog.globals[0]?).map (·.type) = some 84 := by kernel_rfl
theorem cellsShapes : Tryd.prog.cellsOf 84 = 58 := by kernel_rfl
theorem cellsShape : Tryd.prog.cellsOf 83 = 2 := by kernel_rfl
theorem cellsInt1 : Tryd.prog.cellsOf 3 = 1 := by kernel_rfl
/-- The numbers in the table's data. -/
def shapeUses {H : Type} : List (DataW H) → List (DataW H)
  | [] => []
  | .agg [_, u] :: r => u :: shapeUses r
  | _ :: r => shapeUses r
theorem shape_data {H : Type} (l : List (DataW H)) (h : (Rows.laid_scriptor_code_shapes : DataW H) = .agg l) (i : Nat) (hi : i < 29) : ∃ s : DataW H, l[i]? = some (.agg [s, .lit (.int .i64 (usesP (i : Int) : Nat))]) := by
  unfold Rows.laid_scriptor_code_shapes at h
  have hl := DataW.agg.inj h
  rw [← hl]
  have hc : i = 0 ∨ i = 1 ∨ i = 2 ∨ i = 3 ∨ i = 4 ∨ i = 5 ∨ i = 6 ∨ i = 7 ∨ i = 8 ∨ i = 9 ∨ i = 10 ∨ i = 11 ∨ i = 12 ∨ i = 13 ∨ i = 14 ∨ i = 15 ∨ i = 16 ∨ i = 17 ∨ i = 18 ∨ i = 19 ∨ i = 20 ∨ i = 21 ∨ i = 22 ∨ i = 23 ∨ i = 24 ∨ i = 25 ∨ i = 26 ∨ i = 27 ∨ i = 28 := by omega
  rcases hc with rfl | rfl | rfl | rfl | rfl | rfl | rfl | rfl | rfl | rfl | rfl | rfl | rfl | rfl | rfl | rfl | rfl | rfl | rfl | rfl | rfl | rfl | rfl | rfl | rfl | rfl | rfl | rfl | rfl <;> exact ⟨_, rfl⟩
theorem cells_of_shapes {H : Type} {enc : TypeId × Value → H} {w : World} {base : Nat} {sp : Nat → Bool} {held : Bool} {fuel : Nat} {cs : List Value} {p : List MemPlace}
    (h : DataW.trod enc Tryd.prog w base sp held fuel 84 cs = some (Rows.laid_scriptor_code_shapes, p)) : ∀ i, i < 29 → cs[i * 2 + 1]? = some (.int .i64 (usesP (i : Int) : Nat)) := by
  intro i hi
  cases fuel with
  | zero => simp [DataW.trod] at h
  | succ fuel =>
    simp only [DataW.trod, Tryd.underlying84, cellsShape, cellsShapes] at h
    split at h
    · rename_i hl
      obtain ⟨xs, hm, hx⟩ := Option.map_eq_some_iff.1 h
      have hxs : (.agg (xs.map (·.1)) : DataW H) = Rows.laid_scriptor_code_shapes := congrArg Prod.fst hx
      obtain ⟨b, hb, hf⟩ := Lib.mapM_at hm i i (by simp [hi])
      obtain ⟨s, hs⟩ := shape_data _ hxs.symm i hi
      rw [List.getElem?_map, hb] at hs
      simp only [Option.map_some, Option.some.injEq] at hs
      obtain ⟨ys, n, rfl, hbe, _, hyl, hg⟩ := DataW.trod_struct Tryd.underlying83 hf
      have h1 := hg 1 _ rfl
      have hys : ys.map (·.1) = [s, .lit (.int .i64 (usesP (i : Int) : Nat))] := by
        rw [hbe] at hs
        exact DataW.agg.inj hs
      have hy1 : (ys[1]?).map (·.1) = some (.lit (.int .i64 (usesP (i : Int) : Nat)) : DataW H) := by
        rw [← List.getElem?_map, hys]
        rfl
      rw [← h1] at hy1
      obtain ⟨y, hy, hye⟩ := Option.map_eq_some_iff.1 hy1
      obtain ⟨z, hc, rfl, _⟩ := DataW.trod_int Tryd.underlying3 hy
      simp only [DataW.lit.injEq, Lit.int.injEq, true_and] at hye
      subst hye
      have hc' : List.take (Tryd.prog.cellsOf 3) (List.drop 1 (List.take 2 (List.drop (i * 2) cs))) = [Value.int .i64 (usesP (i : Int) : Nat)] := hc
      rw [cellsInt1] at hc'
      have h2 := congrArg (·[0]?) hc'
      simp only [List.getElem?_take, List.getElem?_drop, List.getElem?_cons_zero] at h2
      simpa using h2
    · cases h
theorem shtab_of_head {rest : List (String × DataW Unit)} {W : World} (h : laidMet Tryd.prog (("scriptor/code.shapes", Rows.laid_scriptor_code_shapes) :: rest) W) : ShTab W := by
  obtain ⟨ps, ⟨g', t', cs, fuel, p, q, hg', ht', hvar, hd, _, _⟩, _⟩ := h
  obtain rfl := Option.some.inj (gShapes.symm.trans hg')
  obtain rfl := Option.some.inj (gShapesType.symm.trans ht')
  intro k hk
  have := World.var?_cell gShapes hvar (k * 2 + 1)
  rw [this]
  simpa using cells_of_shapes hd k hk
/-- The cells of the table. -/
def shapeCells : List Value := [.string ⟨#[73, 110, 116]⟩, .int .i64 1, .string ⟨#[83, 116, 114]⟩, .int .i64 1, .string ⟨#[70, 108, 111, 97, 116]⟩, .int .i64 1, .string ⟨#[85, 110, 105, 116]⟩, .int .i64 0, .string ⟨#[76, 111, 99, 97, 108]⟩, .int .i64 1, .string ⟨#[70, 114, 101, 101]⟩, .int .i64 1, .string ⟨#[83, 101, 108, 102]⟩, .int .i64 0, .string ⟨#[71, 108, 111, 98, 97, 108]⟩, .int .i64 1, .string ⟨#[83, 101, 116]⟩, .int .i64 1, .string ⟨#[80, 114, 105, 109]⟩, .int .i64 1, .string ⟨#[67, 111, 110]⟩, .int .i64 2, .string ⟨#[84, 117, 112]⟩, .int .i64 1, .string ⟨#[67, 108, 111, 115, 101]⟩, .int .i64 2, .string ⟨#[65, 112, 112, 108, 121]⟩, .int .i64 0, .string ⟨#[82, 101, 116]⟩, .int .i64 0, .string ⟨#[74, 117, 109, 112]⟩, .int .i64 1, .string ⟨#[85, 110, 108, 101, 115, 115]⟩, .int .i64 1, .string ⟨#[80, 111, 112]⟩, .int .i64 0, .string ⟨#[83, 108, 105, 100, 101]⟩, .int .i64 1, .string ⟨#[70, 105, 101, 108, 100]⟩, .int .i64 1, .string ⟨#[73, 115, 73, 110, 116]⟩, .int .i64 2, .string ⟨#[73, 115, 83, 116, 114]⟩, .int .i64 2, .string ⟨#[73, 115, 67, 111, 110]⟩, .int .i64 2, .string ⟨#[82, 97, 105, 115, 101]⟩, .int .i64 0, .string ⟨#[84, 114, 121]⟩, .int .i64 1, .string ⟨#[69, 110, 100, 84, 114, 121]⟩, .int .i64 0, .string ⟨#[66, 101, 103, 105, 110]⟩, .int .i64 0, .string ⟨#[67, 111, 109, 109, 105, 116]⟩, .int .i64 0, .string ⟨#[72, 97, 108, 116]⟩, .int .i64 0]
noncomputable def laidWorldS (os : Os) : World :=
  { World.holding Tryd.prog os ⟨#[], #[], []⟩ with heap := (World.holding Tryd.prog os ⟨#[], #[], []⟩).heap.modify 0 fun
      | .cells _ t frozen => .cells shapeCells.toArray t frozen
      | o => o }
open Go.RowKit
theorem gTab : Tryd.prog.globalNamed "scriptor/crc.half" = some 1 := by kernel_rfl
theorem gTabType : (Tryd.prog.globals[1]?).map (·.type) = some 112 := by kernel_rfl
theorem cellsTab : Tryd.prog.cellsOf 112 = 16 := by kernel_rfl
theorem cellsU32 : Tryd.prog.cellsOf 93 = 1 := by kernel_rfl
def halfZ : List Int := [0, 274646895, 549293790, 820201905, 1098587580, 1361435347, 1640403810, 1905808397, 2197175160, 2460548119, 2722870694, 2987750089, 3280807620, 3553878443, 3811616794, 4084100981]
theorem halfZ_eq : ∀ i, i < 16 → halfZ.getD i 0 = (halfN i : Nat) := by decide
theorem tabs_of {W : World} (h : laidMet Tryd.prog [("scriptor/crc.half", Rows.laid_scriptor_crc_half), ("scriptor/code.shapes", Rows.laid_scriptor_code_shapes)] W) : ShTab W ∧ Tab W := by
  have h0 := h
  obtain ⟨ps, ⟨g', t', cs, fuel, p, q, hg', ht', hvar, hd, ⟨g2, t2, cs2, fuel2, p2, q2, hg2, ht2, hvar2, hd2, _, _⟩, _⟩, _⟩ := h
  constructor
  · obtain rfl := Option.some.inj (gShapes.symm.trans hg2)
    obtain rfl := Option.some.inj (gShapesType.symm.trans ht2)
    intro k hk
    have := World.var?_cell gShapes hvar2 (k * 2 + 1)
    rw [this]
    simpa using cells_of_shapes hd2 k hk
  · have ht : Lib.TabIs Tryd.prog W "scriptor/crc.half" .u32 halfZ := Lib.tabIs_of_head gTab gTabType Tryd.underlying112 Tryd.underlying93 cellsU32 cellsTab h0
    intro i hi
    rw [← halfZ_eq i hi]
    exact ht.cell gTab i hi
def putCells (cs : List Value) : Obj → Obj
  | .cells _ t frozen => .cells cs.toArray t frozen
  | o => o
noncomputable def laidWorldB (os : Os) : World :=
  { World.holding Tryd.prog os ⟨#[], #[], []⟩ with heap := ((World.holding Tryd.prog os ⟨#[], #[], []⟩).heap.modify 0 (putCells shapeCells)).modify 1 (putCells (halfZ.map (Value.int .u32))) }
open Go.RowKit

/-- Bytes of one's own, in a slot. -/
def BytesI (W : World) (v : Value) (l : List UInt8) (wr : World) : Prop :=
  ∃ ao cap, v = .slice ao l.length cap ∧ wr.ownsRow W.heap.size 5 1 (.slice ao l.length cap) l.length (bytesV l) ∧ Below W.heap.size W wr
theorem bytes_step {W wr w1 w5 : World} {ao ao5 : Option Addr} {cap cap5 : Nat} {l l5 : List UInt8} (hbr : Below W.heap.size W wr) (hown : wr.ownsRow W.heap.size 5 1 (.slice ao l.length cap) l.length (bytesV l)) (hb1 : Below wr.heap.size wr w1) (hA : Appended w1 W.heap.size (blk ao) l5 ao5 cap5 w5) : BytesI W (.slice ao5 l5.length cap5) l5 w5 := by
  obtain ⟨q1, q2, _⟩ := hA
  exact ⟨ao5, cap5, rfl, q1, (hbr.trans (hb1.mono hbr.size)).trans (below_grown (owns_below hown hb1) (by have := hbr.size; have := hb1.size; omega) q2)⟩
theorem shtab_below' {w w' : World} (h : ShTab w) (hb : Below w.heap.size w w') : ShTab w' := fun k hk => (World.cell?_of_block (a := ⟨0, k * 2 + 1, none⟩) (hb.block 0 (World.block_lt_of_cell? (a := ⟨0, k * 2 + 1, none⟩) w (h k hk)))).trans (h k hk)
theorem run_idx3 (a b c : Int) (i : Nat) (v : Int) (hv : [a, b, c][i]? = some v) (w : World) : (Instr.index 70 (.agg #[.int .i64 a, .int .i64 b, .int .i64 c]) (.int .i64 (i : Int))).run Tryd.prog w = .ok (.int .i64 v) w := by
  have ht := Tryd.underlying70
  have hi : i < 3 := by
    have := (List.getElem?_eq_some_iff.1 hv).1
    simpa using this
  rcases (by omega : i = 0 ∨ i = 1 ∨ i = 2) with rfl | rfl | rfl <;> simp at hv <;> subst hv <;> simp [Instr.index, run_underlying ht, asIntOf, part, go_sem]
theorem enc_pos (n : Int) : 0 < (enc n).length := by
  unfold enc
  rw [numB]
  split <;> simp
/-- Bytes appended onto bytes that fill their row: a new row of one's own. -/
theorem app_fullB {w : World} {ops : Array Oper} {rest : List Oper} {o : Oper} {a : Act} {Q : Exit → Act → World → Prop} (hgd : Region.wanted o (yielded ops a.tmps) = true) (s x : Operand)
    (ho : o.op = .call { callee := .builtin .append, args := #[s, x], argTypes := #[42, 42] })
    (g n : Nat) (l : List UInt8) (hs : a.eval s = .slice (some ⟨g, 0, none⟩) n n) (hat0 : At w (some ⟨g, 0, none⟩) (bytesV l)) (hn : n = l.length)
    (bo : Option Addr) (m c : Nat) (l' : List UInt8) (hx : a.eval x = .slice bo m c) (hat : At w bo (bytesV l')) (hm : m = l'.length) (hm0 : 0 < m) (hb : n + m ≤ 1000000000) (base : Nat) (hbase : base ≤ w.heap.size)
    (h : ∀ ao cap w', w'.ownsRow base 5 1 (.slice ao (n + m) cap) (n + m) (bytesV (l ++ l')) → Below w.heap.size w w' → wpList Tryd.prog ops Q rest (a.put o.dst (.slice ao (n + m) cap)) w') : wpList Tryd.prog ops Q (o :: rest) a w :=
  wpList_go hgd fun _ hK => by
    obtain ⟨i, hi, hz0, hz1, hz2⟩ := info_parts infoU8
    have hsrc := src_bytes (cap := c) hat hm
    have hnl := hsrc.newsLen
    have hxl : (bytesV l).length = n * i.size := by rw [bytesV_length, hz1, hn, Nat.mul_one]
    have hsrc' : Src Tryd.prog i.size 42 (.slice bo m c) m (bytesV l') w := by rw [hz1]; exact hsrc
    have hold : (Builtin.firstCells i.size n (.slice (some ⟨g, 0, none⟩) n n)).run Tryd.prog w.drew = .ok (bytesV l).toArray w.drew := by
      refine run_firstCells_some w.drew i.size n ⟨g, 0, none⟩ n n (bytesV l) hxl (fun j u hj => ?_)
      rcases hat0 with h0 | ⟨b, o, he, hc⟩
      · rw [h0] at hj; simp at hj
      · cases he
        rw [Addr.add_lit]
        exact hc j u hj
    have hr := run_append_grow_src (P := Tryd.prog) w 42 42 o.type 5 i (.int .u8 0) Tryd.underlying42 hi hz0 (some ⟨g, 0, none⟩) n n (bytesV l) hold (.slice bo m c) m (bytesV l') hsrc' (by omega) (by omega) (growslice_fits (by omega) (by rw [hz2]; omega))
    have hge := grownCap_ge w (n + m) n 5
    have hcm := grownCap_le_maxLen w (n + m) n 5 (by unfold maxLen; omega)
    unfold Oper.wp execOp
    simp only [ho, resolve, invoke, builtin, Sem.run_bind, Sem.run_pure, Result.andThen_ok, List.map_toArray, List.map_cons, List.map_nil, hs, hx, hr]
    have hlen : (bytesV l ++ bytesV l').length = (n + m) * 1 := by rw [List.length_append, bytesV_length, bytesV_length, ← hn, ← hm, Nat.mul_one]
    refine hK _ _ (h _ _ _ ⟨by rw [bytesV_append]; exact hlen, .inr ⟨w.heap.size, _, _, rfl, hbase, heap_alloc_new w.drew _, hge, hcm, ?_, ?_⟩⟩ (((Below.refl _ w).drew).alloc (by simp) _))
    · rw [Array.size_append, List.size_toArray, hlen, size_zeroCells]
      show (n + m) * 1 + _ * 1 = _
      omega
    · rw [Array.toList_append, bytesV_append, ← hlen]
      exact List.take_left
/-- What a call to Encode leaves. -/
def Encodes (w : World) (c : CodeP) (e : Ending) (w' : World) : Prop :=
  Below w.heap.size w w' ∧ ∃ ao cap, e = .returned (.tuple #[.slice ao (codeS c).length cap, .int .i64 0]) ∧ w'.ownsRow w.heap.size 5 1 (.slice ao (codeS c).length cap) (codeS c).length (bytesV (codeS c))
set_option maxRecDepth 100000 in
set_option maxHeartbeats 8000000 in
theorem encode_any {w : World} {c : CodeP} {io so fo : Option Addr} {icap scap fcap : Nat} (hmem : CodeMem w (fun b => b < w.heap.size) c io so fo) (ht : ShTab w) (ht2 : Tab w) (ho : Ord flC c) :
    Calls Tryd.prog 12 #[.agg #[.slice io c.ins.length icap, .slice so c.strs.length scap, .slice fo c.funs.length fcap, .int .i64 c.glob]] w (Encodes w c) := by
  obtain ⟨g, hg⟩ : ∃ g, w.heap.size = g := ⟨_, rfl⟩
  obtain ⟨W1, hW1⟩ : ∃ W1, w.alloc (.cells #[.slice io c.ins.length icap, .slice so c.strs.length scap, .slice fo c.funs.length fcap, .int .i64 c.glob] 35) = W1 := ⟨_, rfl⟩
  have hb1 : Below g w W1 := by rw [← hW1, ← hg]; exact (Below.refl _ w).alloc (Nat.le_refl _) _
  have hr1 : W1.heap[g]? = some (.cells #[.slice io c.ins.length icap, .slice so c.strs.length scap, .slice fo c.funs.length fcap, .int .i64 c.glob] 35 (0, 0)) := by rw [← hW1, ← hg]; exact heap_alloc_new w _
  have hs1 : W1.heap.size = g + 1 := by rw [← hW1, ← hg]; simp
  have hp := ho.1
  have hm1 : CodeMem W1 (fun b => b < g) c io so fo := by
    have := hmem.below (by rw [hg]; exact hb1)
    rw [hg] at this
    exact this
  have hsh1 : ShTab W1 := shtab_below' ht (by rw [hg]; exact hb1)
  have htb1 : Tab W1 := ht2.below (by rw [hg]; exact hb1)
  have hil := hp.i2
  have hsl := hp.s
  have hfl := hp.f2
  have hgl : R64i c.glob := by have := hp.g1; have := hp.g2; unfold R64i; omega
  have hver := verify_any (icap := icap) (scap := scap) (fcap := fcap) (hm1.mono (fun b hb => (show b < W1.heap.size by omega))) hsh1 (by omega) (by omega) (by omega) hgl
  have H := Lib.hid (And.intro hver (And.intro hb1 (And.intro hr1 (And.intro hs1 (And.intro hm1 (And.intro htb1 (And.intro ho (And.intro hW1 hg))))))))
  have k0 : W1.cell? ⟨g, 0, none⟩ = some (.slice io c.ins.length icap) := cell_of_row _ _ 0 _ _ (0, 0) hr1
  have k1 : W1.cell? ⟨g, 1, none⟩ = some (.slice so c.strs.length scap) := cell_of_row _ _ 1 _ _ (0, 0) hr1
  have k2 : W1.cell? ⟨g, 2, none⟩ = some (.slice fo c.funs.length fcap) := cell_of_row _ _ 2 _ _ (0, 0) hr1
  have k3 : W1.cell? ⟨g, 3, none⟩ = some (.int .i64 c.glob) := cell_of_row _ _ 3 _ _ (0, 0) hr1
  clear hver hb1 hr1 hs1 hm1 hsh1 htb1 ho hW1 hg hmem ht ht2 hp hgl
  go_enter Tryd.func12, Tryd.ntmps12
  go_upto_region 1 with (fail)
  rw [H.out.2.2.2.2.2.2.2.1, H.out.2.2.2.2.2.2.2.2]
  go_wp2_with fail
  refine H.out.1.mono ?_
  rintro e w2 ⟨hb2, hres⟩
  obtain rfl : e = .returned (.int .i64 0) := by
    rcases hres with ⟨_, h⟩ | ⟨h, _⟩
    · exact h
    · exact absurd H.out.2.2.2.2.2.2.1 h
  have hs2 := hb2.size
  have hr2 := (hb2.block g (by have := H.out.2.2.2.1; omega)).trans H.out.2.2.1
  have k0 : w2.cell? ⟨g, 0, none⟩ = some (.slice io c.ins.length icap) := cell_of_row _ _ 0 _ _ (0, 0) hr2
  have H2 := Lib.hid (And.intro hb2 (And.intro hr2 (And.intro (H.out.2.2.2.2.1.keeps (X := fun _ => False) (Keeps.of_below hb2) (fun _ _ h => h)) (H.out.2.2.2.2.2.1.below hb2))))
  clear hb2 hres hr2 k1 k2 k3
  have hcv : (convert 42 42 (.slice (some ⟨w2.heap.size, 0, none⟩) 2 2)).run Tryd.prog (w2.alloc (.cells #[.int .u8 83, .int .u8 67] 5)) = .ok (.slice (some ⟨w2.heap.size, 0, none⟩) 2 2) (w2.alloc (.cells #[.int .u8 83, .int .u8 67] 5 (2, 3))) := Lib.run_convert_bytes_const w2 _ _ _ 2 2 Tryd.underlying42 Tryd.underlying5
  have hrB : (w2.alloc (.cells #[.int .u8 83, .int .u8 67] 5 (2, 3))).heap[w2.heap.size]? = some (.cells #[.int .u8 83, .int .u8 67] 5 (2, 3)) := heap_alloc_new w2 _
  have hbB : Below w2.heap.size w2 (w2.alloc (.cells #[.int .u8 83, .int .u8 67] 5 (2, 3))) := (Below.refl _ _).alloc (Nat.le_refl _) _
  have hatB : At (w2.alloc (.cells #[.int .u8 83, .int .u8 67] 5 (2, 3))) (some ⟨w2.heap.size, 0, none⟩) (bytesV [83, 67]) := by
    refine .inr ⟨_, 0, rfl, fun j v hj => ?_⟩
    have := cell_of_row _ w2.heap.size j _ _ (2, 3) hrB
    rw [Nat.zero_add, this]
    simpa [bytesV, u8v] using hj
  have HB := Lib.hid (And.intro hatB hbB)
  have kB : (w2.alloc (.cells #[.int .u8 83, .int .u8 67] 5 (2, 3))).cell? ⟨g, 0, none⟩ = some (.slice io c.ins.length icap) := Lib.cell?_alloc_marked _ k0
  clear hrB hatB hbB
  have hnum := num_any (c.ins.length : Int) (by omega) (by omega)
  have HNUM := Lib.hid hnum
  clear hnum
  go_wp2_with fail
  refine (HNUM.out _).mono ?_
  rintro e w3 ⟨ao1, cap1, rfl, hown1, hb3⟩
  have hl1 := enc_len (c.ins.length : Int) (by omega) (by omega)
  have hl1p := enc_pos (c.ins.length : Int)
  have hs3 := hb3.size
  have hsB := HB.out.2.size
  have H3 := Lib.hid (And.intro (At.own hown1) (And.intro (HB.out.1.below hb3) (HB.out.2.trans (hb3.mono hsB))))
  clear hown1 hb3 kB hcv
  go_wp2_with (at_builtin; refine app_fullB rfl _ _ rfl w2.heap.size 2 [83, 67] rfl H3.out.2.1 rfl ao1 (enc (c.ins.length : Int)).length cap1 (enc (c.ins.length : Int)) rfl H3.out.1 rfl hl1p (by omega) w2.heap.size (by omega) ?_; rintro ao4 cap4 w4 q1 q2; have hs4 := q2.size; have H4 := Lib.hid (show BytesI w2 (.slice ao4 (2 + (enc (c.ins.length : Int)).length) cap4) ([83, 67] ++ enc (c.ins.length : Int)) w4 from ⟨ao4, cap4, by rw [List.length_append]; rfl, by rw [List.length_append]; exact q1, H3.out.2.2.trans (q2.mono (by omega))⟩); have hr4 := ((H3.out.2.2.trans (q2.mono (by omega))).block g (by have := H.out.2.2.2.1; omega)).trans H2.out.2.1; have k0 : w4.cell? ⟨g, 0, none⟩ = some (.slice io c.ins.length icap) := (cell_of_row _ _ 0 _ _ (0, 0) hr4); clear q1 q2 hr4)
  go_loopw [5, 29] (fun v5 v29 wr => ∃ i : Nat, i ≤ c.ins.length ∧ v29 = .int .i64 (i : Int) ∧ BytesI w2 v5 ([83, 67] ++ (enc (c.ins.length : Int) ++ inssB (c.ins.take i))) wr) (fun _ v29 _ => c.ins.length - (intOf v29).toNat)
  case atStart => exact ⟨0, by omega, rfl, by simpa [inssB] using H4.out⟩
  case round =>
    obtain ⟨i, hi, rfl, hBI⟩ := hrel
    obtain ⟨l, hl⟩ : ∃ l, [83, 67] ++ (enc (c.ins.length : Int) ++ inssB (c.ins.take i)) = l := ⟨_, rfl⟩
    rw [hl] at hBI
    obtain ⟨ao, cap, rfl, hown, hbr⟩ := hBI
    have hll : l.length ≤ 3000000 := by
      have h1 := inssB_len (c.ins.take i) (fun x hx => H.out.2.2.2.2.1.insR x (List.mem_of_mem_take hx))
      rw [List.length_take] at h1
      rw [← hl, List.length_append, List.length_append, List.length_cons, List.length_cons, List.length_nil]
      omega
    have hsr := hbr.size
    have hrr := (hbr.block g (by have := H.out.2.2.2.1; omega)).trans H2.out.2.1
    have hmr : CodeMem wr (fun b => b < g) c io so fo := H2.out.2.2.1.below hbr
    have HI := Lib.hid (And.intro hown (And.intro hbr (And.intro hl (And.intro hrr hmr))))
    clear hown hbr hl
    by_cases hlt : i < c.ins.length
    · have hd1 : decide ((i : Int) < (c.ins.length : Int)) = true := decide_eq_true (by omega)
      have hlz : (i : Int) < (c.ins.length : Int) := by omega
      obtain ⟨ib, fi, rfl, i0, i1, i2⟩ := hmr.insAt i hlt
      obtain ⟨x, hx⟩ : ∃ x, c.ins[i] = x := ⟨_, rfl⟩
      have hxR := hmr.insR _ (List.getElem_mem hlt)
      rw [hx] at i0 i1 i2 hxR
      have HX := Lib.hid (And.intro (show c.ins.take (i + 1) = c.ins.take i ++ [x] by rw [← hx]; exact List.take_succ_eq_append_getElem hlt) hxR)
      obtain ⟨op, a, b⟩ := x
      simp only at i0 i1 i2
      clear hx hxR hrr hmr
      go_wp2_with fail
      obtain ⟨wv, hwv⟩ : ∃ wv, wr.alloc (.cells #[.int .i64 op, .int .i64 a, .int .i64 b] 50) = wv := ⟨_, rfl⟩
      have hbv : Below wr.heap.size wr wv := by rw [← hwv]; exact (Below.refl _ _).alloc (Nat.le_refl _) _
      have HV := Lib.hid (And.intro (show BytesI w2 (.slice ao l.length cap) (l ++ numsB ([op, a, b].take 0)) wv from ⟨ao, cap, by simp [numsB], by simpa [numsB] using owns_below HI.out.1 hbv, HI.out.2.1.trans (hbv.mono hsr)⟩) hwv)
      clear hbv hwv i0 i1 i2
      rw [HV.out.2]
      go_loopw [5, 40] (fun v5 v40 wr => ∃ j : Nat, j ≤ 3 ∧ v40 = .int .i64 (j : Int) ∧ BytesI w2 v5 (l ++ numsB ([op, a, b].take j)) wr) (fun _ v40 _ => 3 - (intOf v40).toNat)
      case atStart => exact ⟨0, by omega, rfl, by have := HV.out.1; simpa [numsB] using this⟩
      case round =>
        obtain ⟨j, hj, rfl, hBJ⟩ := hrel
        obtain ⟨l2, hl2⟩ : ∃ l2, l ++ numsB ([op, a, b].take j) = l2 := ⟨_, rfl⟩
        rw [hl2] at hBJ
        obtain ⟨ao, cap, rfl, hown, hbr⟩ := hBJ
        have hll2 : l2.length ≤ 3000100 := by
          have h1 := numsB_len ([op, a, b].take j) (fun n hn => by
            have := List.mem_of_mem_take hn
            simp at this
            rcases this with rfl | rfl | rfl
            · exact HX.out.2.1
            · exact HX.out.2.2.1
            · exact HX.out.2.2.2)
          rw [List.length_take] at h1
          rw [← hl2, List.length_append]
          simp at h1
          omega
        have hsj := hbr.size
        have HJ := Lib.hid (And.intro hown (And.intro hbr hl2))
        clear hown hbr hl2
        rcases (by omega : j = 0 ∨ j = 1 ∨ j = 2 ∨ j = 3) with rfl | rfl | rfl | rfl
        · have hix : ∀ w : World, (Instr.index 70 (.agg #[.int .i64 op, .int .i64 a, .int .i64 b]) (.int .i64 0)).run Tryd.prog w = .ok (.int .i64 op) w := run_idx3 op a b 0 op rfl
          go_wp2_with fail
          have hle := enc_len op HX.out.2.1.1 HX.out.2.1.2
          refine (num_any op HX.out.2.1.1 HX.out.2.1.2 _).mono ?_
          rintro e w5 ⟨ao1, cap1, rfl, hown1, hb5⟩
          have hs5 := hb5.size
          have H5 := Lib.hid (And.intro (At.own hown1) hb5)
          clear hown1 hb5
          go_wp2_with (at_builtin; refine app_bytes rfl _ _ rfl w2.heap.size ao cap l2 l2.length rfl (owns_below HJ.out.1 H5.out.2) ao1 (enc op).length cap1 (enc op) rfl H5.out.1 rfl (by omega) (by omega) ?_; rintro ao6 cap6 w6 hA; have H6 := Lib.hid (bytes_step HJ.out.2.1 HJ.out.1 H5.out.2 hA); rw [List.length_append] at H6; clear hA)
          go_roundw
          case rel => exact ⟨1, by omega, rfl, by have := H6.out; rw [← HJ.out.2.2] at this ⊢; simpa [numsB] using this⟩
          case measure => simp [intOf]
        · have hix : ∀ w : World, (Instr.index 70 (.agg #[.int .i64 op, .int .i64 a, .int .i64 b]) (.int .i64 1)).run Tryd.prog w = .ok (.int .i64 a) w := run_idx3 op a b 1 a rfl
          go_wp2_with fail
          have hle := enc_len a HX.out.2.2.1.1 HX.out.2.2.1.2
          refine (num_any a HX.out.2.2.1.1 HX.out.2.2.1.2 _).mono ?_
          rintro e w5 ⟨ao1, cap1, rfl, hown1, hb5⟩
          have hs5 := hb5.size
          have H5 := Lib.hid (And.intro (At.own hown1) hb5)
          clear hown1 hb5
          go_wp2_with (at_builtin; refine app_bytes rfl _ _ rfl w2.heap.size ao cap l2 l2.length rfl (owns_below HJ.out.1 H5.out.2) ao1 (enc a).length cap1 (enc a) rfl H5.out.1 rfl (by omega) (by omega) ?_; rintro ao6 cap6 w6 hA; have H6 := Lib.hid (bytes_step HJ.out.2.1 HJ.out.1 H5.out.2 hA); rw [List.length_append] at H6; clear hA)
          go_roundw
          case rel => exact ⟨2, by omega, rfl, by have := H6.out; rw [← HJ.out.2.2] at this ⊢; simpa [numsB] using this⟩
          case measure => simp [intOf]
        · have hix : ∀ w : World, (Instr.index 70 (.agg #[.int .i64 op, .int .i64 a, .int .i64 b]) (.int .i64 2)).run Tryd.prog w = .ok (.int .i64 b) w := run_idx3 op a b 2 b rfl
          go_wp2_with fail
          have hle := enc_len b HX.out.2.2.2.1 HX.out.2.2.2.2
          refine (num_any b HX.out.2.2.2.1 HX.out.2.2.2.2 _).mono ?_
          rintro e w5 ⟨ao1, cap1, rfl, hown1, hb5⟩
          have hs5 := hb5.size
          have H5 := Lib.hid (And.intro (At.own hown1) hb5)
          clear hown1 hb5
          go_wp2_with (at_builtin; refine app_bytes rfl _ _ rfl w2.heap.size ao cap l2 l2.length rfl (owns_below HJ.out.1 H5.out.2) ao1 (enc b).length cap1 (enc b) rfl H5.out.1 rfl (by omega) (by omega) ?_; rintro ao6 cap6 w6 hA; have H6 := Lib.hid (bytes_step HJ.out.2.1 HJ.out.1 H5.out.2 hA); rw [List.length_append] at H6; clear hA)
          go_roundw
          case rel => exact ⟨3, by omega, rfl, by have := H6.out; rw [← HJ.out.2.2] at this ⊢; simpa [numsB] using this⟩
          case measure => simp [intOf]
        · go_wp2_with fail
          go_roundw
          case rel =>
            refine ⟨i + 1, by omega, by simp, ao, cap, ?_, ?_, HJ.out.2.1⟩
            all_goals
              have h2 : [83, 67] ++ (enc (c.ins.length : Int) ++ inssB (c.ins.take (i + 1))) = l2 := by
                rw [HX.out.1, inssB_snoc, ← HJ.out.2.2, ← HI.out.2.2.1]
                simp [numsB, insB]
              rw [h2]
            exact HJ.out.1
          case measure => simp [intOf]; omega
    · obtain rfl : i = c.ins.length := by omega
      have hd1 : decide ((c.ins.length : Int) < (c.ins.length : Int)) = false := decide_eq_false (by omega)
      have kk : wr.cell? ⟨g, 1, none⟩ = some (.slice so c.strs.length scap) := cell_of_row _ _ 1 _ _ (0, 0) hrr
      have HL := Lib.hid (show l = [83, 67] ++ (enc (c.ins.length : Int) ++ inssB c.ins) by rw [← HI.out.2.2.1, List.take_length])
      clear hmr hrr
      have hle := enc_len (c.strs.length : Int) (by omega) (by omega)
      go_wp2_with fail
      refine (num_any (c.strs.length : Int) (by omega) (by omega) _).mono ?_
      rintro e w5 ⟨ao1, cap1, rfl, hown1, hb5⟩
      have hs5 := hb5.size
      have H5 := Lib.hid (And.intro (At.own hown1) hb5)
      clear hown1 hb5
      go_wp2_with (at_builtin; refine app_bytes rfl _ _ rfl w2.heap.size ao cap l l.length rfl (owns_below HI.out.1 H5.out.2) ao1 (enc (c.strs.length : Int)).length cap1 (enc (c.strs.length : Int)) rfl H5.out.1 rfl (by omega) (by omega) ?_; rintro ao6 cap6 w6 hA; have H6 := Lib.hid (bytes_step HI.out.2.1 HI.out.1 H5.out.2 hA); rw [List.length_append] at H6; clear hA; have hb6 : Below w2.heap.size w2 w6 := (by obtain ⟨_, _, _, _, hx⟩ := H6.out; exact hx); have kk6 : w6.cell? ⟨g, 1, none⟩ = some (.slice so c.strs.length scap) := (cell_of_row _ _ 1 _ _ (0, 0) ((hb6.block g (by have := H.out.2.2.2.1; omega)).trans H2.out.2.1)); clear hb6)
      clear kk kk6
      go_loopw [5, 58] (fun v5 v58 wr => ∃ i : Nat, i ≤ c.strs.length ∧ v58 = .int .i64 (i : Int) ∧ BytesI w2 v5 (l ++ enc (c.strs.length : Int) ++ strsB (c.strs.take i)) wr) (fun _ v58 _ => c.strs.length - (intOf v58).toNat)
      case atStart => exact ⟨0, by omega, rfl, by simpa [strsB] using H6.out⟩
      case round =>
        obtain ⟨i, hi, rfl, hBI⟩ := hrel
        obtain ⟨l2, hl2⟩ : ∃ l2, l ++ enc (c.strs.length : Int) ++ strsB (c.strs.take i) = l2 := ⟨_, rfl⟩
        rw [hl2] at hBI
        obtain ⟨ao, cap, rfl, hown, hbr⟩ := hBI
        have hstr := H.out.2.2.2.2.2.2.1.1.str
        have hll2 : l2.length ≤ 30000000 := by
          have h1 := strsB_len (c.strs.take i) (fun t ht => by have := hstr t (List.mem_of_mem_take ht); omega)
          rw [List.length_take] at h1
          rw [← hl2, List.length_append, List.length_append]
          omega
        have hsr := hbr.size
        have hrr := (hbr.block g (by have := H.out.2.2.2.1; omega)).trans H2.out.2.1
        have hmr : CodeMem wr (fun b => b < g) c io so fo := H2.out.2.2.1.below hbr
        have HI2 := Lib.hid (And.intro hown (And.intro hbr (And.intro hl2 hrr)))
        clear hown hbr hl2
        by_cases hlt : i < c.strs.length
        · have hd2 : decide ((i : Int) < (c.strs.length : Int)) = true := decide_eq_true (by omega)
          have hlz : (i : Int) < (c.strs.length : Int) := by omega
          obtain ⟨sb, si, rfl, c0⟩ := hmr.strs.exv i (by simpa [strCells] using hlt)
          have hce : (strCells c.strs)[i]'(by simpa [strCells] using hlt) = .string ⟨c.strs[i].toArray⟩ := by simp [strCells]
          rw [hce] at c0
          obtain ⟨x, hx⟩ : ∃ x, c.strs[i] = x := ⟨_, rfl⟩
          have hxl := hstr _ (List.getElem_mem hlt)
          rw [hx] at c0 hxl
          have hsx : (ByteArray.mk x.toArray).size = x.length := by rw [ByteArray.size]; simp
          have hcall : ∀ w' : World, Calls Tryd.prog 23 #[.string ⟨x.toArray⟩] w' (NewBytes w' (strB x)) := fun w' => by
            have h := str_any ⟨x.toArray⟩ (by rw [hsx]; omega) w'
            rw [hsx] at h
            have e : (ByteArray.mk x.toArray).data.toList = x := by simp
            rw [e] at h
            exact h
          have hle := strB_len x (by omega)
          have HX := Lib.hid (And.intro (show c.strs.take (i + 1) = c.strs.take i ++ [x] by rw [← hx]; exact List.take_succ_eq_append_getElem hlt) hcall)
          clear hx hrr hmr hstr hcall hce hsx
          go_wp2_with fail
          refine (HX.out.2 _).mono ?_
          rintro e w5 ⟨ao1, cap1, rfl, hown1, hb5⟩
          have hs5 := hb5.size
          have H5 := Lib.hid (And.intro (At.own hown1) hb5)
          clear hown1 hb5
          go_wp2_with (at_builtin; refine app_bytes rfl _ _ rfl w2.heap.size ao cap l2 l2.length rfl (owns_below HI2.out.1 H5.out.2) ao1 (strB x).length cap1 (strB x) rfl H5.out.1 rfl (by omega) (by omega) ?_; rintro ao6 cap6 w6 hA; have H6 := Lib.hid (bytes_step HI2.out.2.1 HI2.out.1 H5.out.2 hA); rw [List.length_append] at H6; clear hA; skip)
          go_roundw
          case rel => exact ⟨i + 1, by omega, by simp, by have := H6.out; rw [← HI2.out.2.2.1] at this ⊢; rw [HX.out.1, strsB_snoc]; simpa using this⟩
          case measure => simp [intOf]; omega
        · obtain rfl : i = c.strs.length := by omega
          have hd2 : decide ((c.strs.length : Int) < (c.strs.length : Int)) = false := decide_eq_false (by omega)
          have kk : wr.cell? ⟨g, 2, none⟩ = some (.slice fo c.funs.length fcap) := cell_of_row _ _ 2 _ _ (0, 0) hrr
          have HL2 := Lib.hid (show l2 = l ++ enc (c.strs.length : Int) ++ strsB c.strs by rw [← HI2.out.2.2.1, List.take_length])
          clear hmr hrr hstr
          have hle := enc_len (c.funs.length : Int) (by omega) (by omega)
          go_wp2_with fail
          refine (num_any (c.funs.length : Int) (by omega) (by omega) _).mono ?_
          rintro e w5 ⟨ao1, cap1, rfl, hown1, hb5⟩
          have hs5 := hb5.size
          have H5 := Lib.hid (And.intro (At.own hown1) hb5)
          clear hown1 hb5
          go_wp2_with (at_builtin; refine app_bytes rfl _ _ rfl w2.heap.size ao cap l2 l2.length rfl (owns_below HI2.out.1 H5.out.2) ao1 (enc (c.funs.length : Int)).length cap1 (enc (c.funs.length : Int)) rfl H5.out.1 rfl (by omega) (by omega) ?_; rintro ao6 cap6 w6 hA; have H6 := Lib.hid (bytes_step HI2.out.2.1 HI2.out.1 H5.out.2 hA); rw [List.length_append] at H6; clear hA; have hb6 : Below w2.heap.size w2 w6 := (by obtain ⟨_, _, _, _, hx⟩ := H6.out; exact hx); have kk6 : w6.cell? ⟨g, 2, none⟩ = some (.slice fo c.funs.length fcap) := (cell_of_row _ _ 2 _ _ (0, 0) ((hb6.block g (by have := H.out.2.2.2.1; omega)).trans H2.out.2.1)); clear hb6)
          clear kk kk6
          go_loopw [5, 76] (fun v5 v76 wr => ∃ i : Nat, i ≤ c.funs.length ∧ v76 = .int .i64 (i : Int) ∧ BytesI w2 v5 (l2 ++ enc (c.funs.length : Int) ++ numsB (c.funs.take i)) wr) (fun _ v76 _ => c.funs.length - (intOf v76).toNat)
          case atStart => exact ⟨0, by omega, rfl, by simpa [numsB] using H6.out⟩
          case round =>
            obtain ⟨i, hi, rfl, hBI⟩ := hrel
            obtain ⟨l3, hl3⟩ : ∃ l3, l2 ++ enc (c.funs.length : Int) ++ numsB (c.funs.take i) = l3 := ⟨_, rfl⟩
            rw [hl3] at hBI
            obtain ⟨ao, cap, rfl, hown, hbr⟩ := hBI
            have hll3 : l3.length ≤ 40000000 := by
              have h1 := numsB_len (c.funs.take i) (fun t ht => H.out.2.2.2.2.1.funR t (List.mem_of_mem_take ht))
              rw [List.length_take] at h1
              rw [← hl3, List.length_append, List.length_append]
              omega
            have hsr := hbr.size
            have hrr := (hbr.block g (by have := H.out.2.2.2.1; omega)).trans H2.out.2.1
            have hmr : CodeMem wr (fun b => b < g) c io so fo := H2.out.2.2.1.below hbr
            have htb : Tab wr := H2.out.2.2.2.below hbr
            have HI3 := Lib.hid (And.intro hown (And.intro hbr (And.intro hl3 (And.intro hrr htb))))
            clear hown hbr hl3 htb
            by_cases hlt : i < c.funs.length
            · have hd2 : decide ((i : Int) < (c.funs.length : Int)) = true := decide_eq_true (by omega)
              have hlz : (i : Int) < (c.funs.length : Int) := by omega
              obtain ⟨fb, fi, rfl, c0⟩ := hmr.funs.exv i (by simpa [intsV] using hlt)
              have hce : (intsV c.funs)[i]'(by simpa [intsV] using hlt) = .int .i64 c.funs[i] := by simp [intsV]
              rw [hce] at c0
              obtain ⟨x, hx⟩ : ∃ x, c.funs[i] = x := ⟨_, rfl⟩
              have hxr := hmr.funR _ (List.getElem_mem hlt)
              rw [hx] at c0 hxr
              have HX := Lib.hid (And.intro (show c.funs.take (i + 1) = c.funs.take i ++ [x] by rw [← hx]; exact List.take_succ_eq_append_getElem hlt) hxr)
              clear hx hrr hmr hce hxr
              have hle := enc_len x HX.out.2.1 HX.out.2.2
              go_wp2_with fail
              refine (num_any x HX.out.2.1 HX.out.2.2 _).mono ?_
              rintro e w5 ⟨ao1, cap1, rfl, hown1, hb5⟩
              have hs5 := hb5.size
              have H5 := Lib.hid (And.intro (At.own hown1) hb5)
              clear hown1 hb5
              go_wp2_with (at_builtin; refine app_bytes rfl _ _ rfl w2.heap.size ao cap l3 l3.length rfl (owns_below HI3.out.1 H5.out.2) ao1 (enc x).length cap1 (enc x) rfl H5.out.1 rfl (by omega) (by omega) ?_; rintro ao6 cap6 w6 hA; have H6 := Lib.hid (bytes_step HI3.out.2.1 HI3.out.1 H5.out.2 hA); rw [List.length_append] at H6; clear hA; skip)
              go_roundw
              case rel => exact ⟨i + 1, by omega, by simp, by have := H6.out; rw [← HI3.out.2.2.1] at this ⊢; rw [HX.out.1, numsB_snoc]; simpa using this⟩
              case measure => simp [intOf]; omega
            · obtain rfl : i = c.funs.length := by omega
              have hd2 : decide ((c.funs.length : Int) < (c.funs.length : Int)) = false := decide_eq_false (by omega)
              have kk : wr.cell? ⟨g, 3, none⟩ = some (.int .i64 c.glob) := cell_of_row _ _ 3 _ _ (0, 0) hrr
              have HL3 := Lib.hid (show l3 = l2 ++ enc (c.funs.length : Int) ++ numsB c.funs by rw [← HI3.out.2.2.1, List.take_length])
              have HG := Lib.hid (show R64i c.glob by have := H.out.2.2.2.2.2.2.1.1.g1; have := H.out.2.2.2.2.2.2.1.1.g2; unfold R64i; omega)
              clear hmr hrr
              have hle := enc_len c.glob HG.out.1 HG.out.2
              go_wp2_with fail
              refine (num_any c.glob HG.out.1 HG.out.2 _).mono ?_
              rintro e w5 ⟨ao1, cap1, rfl, hown1, hb5⟩
              have hs5 := hb5.size
              have H5 := Lib.hid (And.intro (At.own hown1) hb5)
              clear hown1 hb5
              go_wp2_with (at_builtin; refine app_bytes rfl _ _ rfl w2.heap.size ao cap l3 l3.length rfl (owns_below HI3.out.1 H5.out.2) ao1 (enc c.glob).length cap1 (enc c.glob) rfl H5.out.1 rfl (by omega) (by omega) ?_; rintro ao6 cap6 w6 hA; have H6 := Lib.hid (bytes_step HI3.out.2.1 HI3.out.1 H5.out.2 hA); rw [List.length_append] at H6; clear hA; skip)
              have hcb : l3 ++ enc c.glob = codeB c := by
                rw [HL3.out, HL2.out, HL.out]
                simp [codeB, restB]
              obtain ⟨ao', cap', he, hown6, hb6⟩ := H6.out
              obtain ⟨rfl, hlen, rfl⟩ := Value.slice.inj he
              rw [hcb] at hown6 hlen
              have hcl := close_any ao6 (codeB c) (l3.length + (enc c.glob).length) cap6 hlen (by omega) w6 (At.own hown6) (H2.out.2.2.2.below hb6)
              have HC := Lib.hid (And.intro hcl hb6)
              clear hcb he hown6 hb6 hlen hcl
              refine HC.out.1.mono ?_
              rintro e w7 ⟨ao7, cap7, rfl, hown7, hb7⟩
              have H7 := Lib.hid (And.intro hown7 hb7)
              clear hown7 hb7
              go_wp2_with fail
              go_ret2
              have hs6 := HC.out.2.size
              have hsW := H.out.2.2.2.1
              have hwg := H.out.2.2.2.2.2.2.2.2
              refine ⟨?_, ao7, cap7, by unfold codeS; rw [List.length_append]; rfl, owns_mono H7.out.1 (by omega)⟩
              rw [hwg]
              exact H.out.2.1.trans ((H2.out.1.mono (by omega)).trans ((HC.out.2.mono (by omega)).trans (H7.out.2.mono (by omega))))
open Go.RowKit

theorem results_from (tmps : Array Value) (W : World) (g : Nat) (v0 v1 v2 v3 : Value) (hp : tmps[2]?.getD undef = .pointer (some ⟨g, 0, none⟩)) (hc : W.heap[g]? = some (.cells #[v0, v1, v2, v3] 26 (0, 0))) :
    (results Tryd.f15 tmps).run Tryd.prog W = .ok (.agg #[v0, v1, v2, v3]) W := by
  have c0 : W.cell? ⟨g, 0, none⟩ = some v0 := cell_of_row W _ 0 _ _ (0, 0) hc
  have c1 : W.cell? ⟨g, 1, none⟩ = some v1 := cell_of_row W _ 1 _ _ (0, 0) hc
  have c2 : W.cell? ⟨g, 2, none⟩ = some v2 := cell_of_row W _ 2 _ _ (0, 0) hc
  have c3 : W.cell? ⟨g, 3, none⟩ = some v3 := cell_of_row W _ 3 _ _ (0, 0) hc
  have hu := Tryd.underlying26
  simp only [results, Tryd.results15]
  go_simp
theorem infoInsR2 : (Tryd.prog.info? 29).map (fun i => (i.zero, i.size, i.bytes)) = some (some (.agg #[.int .i64 0, .int .i64 0, .int .i64 0]), 3, 24) := by kernel_rfl
/-- A step of the document's more. -/
theorem wp_insR {w : World} {o : Oper} {a : Act} {K : Act → World → Prop} {Q : Exit → Act → World → Prop} (s x : Operand)
    (ho : o.op = .call { callee := .builtin .append, args := #[s, x], argTypes := #[23, 23] })
    (base : Nat) (ao : Option Addr) (cap n : Nat) (xs : List Value) (hs : a.eval s = .slice ao n cap) (hown : w.ownsRow base 29 3 (.slice ao n cap) n xs)
    (y : InsP) (g : Nat) (hx : a.eval x = .slice (some ⟨g, 0, none⟩) 1 1) (hat : At w (some ⟨g, 0, none⟩) (insRow y)) (hb : n ≤ 1000000000) (hbase : base ≤ w.heap.size)
    (h : ∀ ao' cap' w', w'.ownsRow base 29 3 (.slice ao' (n + 1) cap') (n + 1) (xs ++ insRow y) → w.grownBy w' (blk ao) → (blk ao' = blk ao ∨ blk ao' = some w.heap.size) → K (a.put o.dst (.slice ao' (n + 1) cap')) w') : o.wp Tryd.prog a w K Q := by
  obtain ⟨i0, hi, hz0, hz1, hz2⟩ := info_parts infoInsR2
  refine wp_append s x 23 23 ho base 29 i0 (.agg #[.int .i64 0, .int .i64 0, .int .i64 0]) 3 24 Tryd.underlying23 hi hz0 hz1 hz2 rfl _ n xs hs hown _ 1 (insRow y) hx
    (hat.src Tryd.underlying23 rfl (by intro v hv; simp [insRow] at hv; rcases hv with rfl | rfl | rfl <;> rfl) (by decide)) (by unfold maxLen; omega) (by omega) hbase ?_
  intro ao' cap' w' g1 g2 g3
  rw [own_slice] at g2 g3
  exact h ao' cap' w' g1 g2 g3
/-- What a call to 'from' leaves. -/
def Froms (w : World) (c : CodeP) (e : Ending) (w' : World) : Prop :=
  Below w.heap.size w w' ∧ ∃ io so fo icap scap fcap, e = .returned (.agg #[.slice io c.ins.length icap, .slice so c.strs.length scap, .slice fo c.funs.length fcap, .int .i64 c.glob]) ∧ CodeMem w' (fun b => b < w'.heap.size) c io so fo
set_option maxRecDepth 100000 in
set_option maxHeartbeats 4000000 in
theorem from_any {w : World} {c : CodeP} {io so fo : Option Addr} {icap scap fcap : Nat} (hmem : CodeMem w (fun b => b < w.heap.size) c io so fo) (hil : c.ins.length ≤ 1000000) :
    Calls Tryd.prog 15 #[.agg #[.slice io c.ins.length icap, .slice so c.strs.length scap, .slice fo c.funs.length fcap, .int .i64 c.glob]] w (Froms w c) := by
  obtain ⟨g, hg⟩ : ∃ g, w.heap.size = g := ⟨_, rfl⟩
  obtain ⟨W, hW⟩ : ∃ W, ((w.alloc (.cells #[.slice io c.ins.length icap, .slice so c.strs.length scap, .slice fo c.funs.length fcap, .int .i64 c.glob] 35)).alloc (.cells #[.slice none 0 0, .slice none 0 0, .slice none 0 0, .int .i64 0] 26)).alloc (.cells #[.slice none 0 0, .slice so c.strs.length scap, .slice fo c.funs.length fcap, .int .i64 c.glob] 26) = W := ⟨_, rfl⟩
  have hbW : Below g w W := by rw [← hW, ← hg]; exact (((Below.refl _ w).alloc (Nat.le_refl _) _).alloc (by simp) _).alloc (by simp; omega) _
  have hsW : W.heap.size = g + 3 := by rw [← hW, ← hg]; simp
  have hr0 : W.heap[g]? = some (.cells #[.slice io c.ins.length icap, .slice so c.strs.length scap, .slice fo c.funs.length fcap, .int .i64 c.glob] 35 (0, 0)) := by
    rw [← hW, ← hg]
    exact (Below.heap_alloc _ _ _ (by simp; omega)).trans ((Below.heap_alloc _ _ _ (by simp)).trans (heap_alloc_new w _))
  have hr1 : W.heap[g + 1]? = some (.cells #[.slice none 0 0, .slice none 0 0, .slice none 0 0, .int .i64 0] 26 (0, 0)) := by
    rw [← hW, ← hg]
    refine (Below.heap_alloc _ _ _ (by simp)).trans ?_
    have := heap_alloc_new (w.alloc (.cells #[.slice io c.ins.length icap, .slice so c.strs.length scap, .slice fo c.funs.length fcap, .int .i64 c.glob] 35)) (.cells #[.slice none 0 0, .slice none 0 0, .slice none 0 0, .int .i64 0] 26)
    simp only [World.size_alloc] at this
    exact this
  have hr2 : W.heap[g + 1 + 1]? = some (.cells #[.slice none 0 0, .slice so c.strs.length scap, .slice fo c.funs.length fcap, .int .i64 c.glob] 26 (0, 0)) := by
    rw [← hW, ← hg]
    have := heap_alloc_new ((w.alloc (.cells #[.slice io c.ins.length icap, .slice so c.strs.length scap, .slice fo c.funs.length fcap, .int .i64 c.glob] 35)).alloc (.cells #[.slice none 0 0, .slice none 0 0, .slice none 0 0, .int .i64 0] 26)) (.cells #[.slice none 0 0, .slice so c.strs.length scap, .slice fo c.funs.length fcap, .int .i64 c.glob] 26)
    simp only [World.size_alloc] at this
    exact this
  have hm : CodeMem W (fun b => b < g) c io so fo := by
    have h := hmem.below (by rw [hg]; exact hbW)
    rw [hg] at h
    exact h
  have H := Lib.hid (And.intro hbW (And.intro hsW (And.intro hr0 (And.intro hr1 (And.intro hr2 (And.intro hm (And.intro hW hg)))))))
  clear hbW hsW hr0 hr1 hr2 hm hW hg hmem
  go_enter Tryd.func15, Tryd.ntmps15
  go_upto_block 0 with (fail)
  rw [H.out.2.2.2.2.2.2.1, H.out.2.2.2.2.2.2.2]
  go_wp2_with fail
  go_loopw [4] (fun v4 wr => ∃ i ao cap, i ≤ c.ins.length ∧ v4 = .int .i64 (i : Int) ∧ wr.heap[g + 1 + 1]? = some (.cells #[.slice ao i cap, .slice so c.strs.length scap, .slice fo c.funs.length fcap, .int .i64 c.glob] 26 (0, 0)) ∧ wr.ownsRow W.heap.size 29 3 (.slice ao i cap) i ((c.ins.take i).map insRow).flatten ∧ Keeps (fun b => b = g + 1 + 1 ∨ W.heap.size ≤ b) W wr) (fun v4 _ => c.ins.length - (intOf v4).toNat)
  case atStart => exact ⟨0, none, 0, by omega, rfl, H.out.2.2.2.2.1, World.ownsRow_nil _ _ _ _, Keeps.refl _ _⟩
  case round =>
    obtain ⟨i, ao, cap, hi, rfl, hr, hown, hk⟩ := hrel
    have hsk := hk.size
    have hsW := H.out.2.1
    have hrg : wr.heap[g]? = _ := (hk.block g (by omega) (fun h => by omega)).trans H.out.2.2.1
    have hrt : wr.heap[g + 1]? = _ := (hk.block (g + 1) (by omega) (fun h => by omega)).trans H.out.2.2.2.1
    have hmw : CodeMem wr (fun b => b < g) c io so fo := H.out.2.2.2.2.2.1.keeps hk (fun b hb h => by omega)
    have k0 : wr.cell? ⟨g, 0, none⟩ = some (.slice io c.ins.length icap) := cell_of_row _ _ 0 _ _ (0, 0) hrg
    have HI := Lib.hid (And.intro hr (And.intro hown (And.intro hk (And.intro hrg (And.intro hrt hmw)))))
    clear hrg hrt hmw
    by_cases hlt : i < c.ins.length
    · have hd1 : decide ((i : Int) < (c.ins.length : Int)) = true := decide_eq_true (by omega)
      obtain ⟨ib, fi, rfl, i0, i1, i2⟩ := HI.out.2.2.2.2.2.insAt i hlt
      obtain ⟨x, hx⟩ : ∃ x, c.ins[i] = x := ⟨_, rfl⟩
      rw [hx] at i0 i1 i2
      have HX := Lib.hid (show c.ins.take (i + 1) = c.ins.take i ++ [x] by rw [← hx]; exact List.take_succ_eq_append_getElem hlt)
      obtain ⟨op, a, b⟩ := x
      simp only at i0 i1 i2
      have HD1 := Lib.hid (And.intro (show wr.drew.cell? ⟨g + 1 + 1, 0, none⟩ = some (.slice ao i cap) from cell_of_row wr _ 0 _ _ (0, 0) hr) (And.intro (show wr.drew.cell? ⟨g, 0, none⟩ = _ from k0) (And.intro (show wr.drew.cell? ⟨ib, fi + i * 3, none⟩ = _ from i0) (And.intro (show wr.drew.cell? ⟨ib, fi + i * 3 + 1, none⟩ = _ from i1) (show wr.drew.cell? ⟨ib, fi + i * 3 + 2, none⟩ = _ from i2)))))
      clear hx hr hown hk i0 i1 i2
      go_wp2_with fail
      clear k0
      refine seql_start [22, 24] (by kernel_rfl) ?_
      refine seql_take 0 (v := ?_) rfl (by kernel_rfl) (fun _ _ _ h => h) (by rfl) (fun w' hw' => ?_) ?_
      rotate_left
      · go_simp; try with_reducible rfl
      try simp only [List.getElem_toArray, List.getElem_cons_succ, List.getElem_cons_zero, Act.put, List.setIfInBounds_toArray, List.set_cons_zero, List.set_cons_succ]
      refine seql_take 1 rfl (by kernel_rfl) (fun _ _ _ h => h) (by rfl) (seq_ldRI rfl rfl (HD1.out.1)) ?_
      try simp only [List.getElem_toArray, List.getElem_cons_succ, List.getElem_cons_zero, Act.put, List.setIfInBounds_toArray, List.set_cons_zero, List.set_cons_succ]
      refine seql_take 2 (v := ?_) rfl (by kernel_rfl) (fun _ _ _ h => h) (by rfl) (fun w' hw' => ?_) ?_
      rotate_left
      · go_simp; try with_reducible rfl
      try simp only [List.getElem_toArray, List.getElem_cons_succ, List.getElem_cons_zero, Act.put, List.setIfInBounds_toArray, List.set_cons_zero, List.set_cons_succ]
      refine seql_take 3 rfl (by kernel_rfl) (fun _ _ _ h => h) (by rfl) (seq_ldInss rfl rfl (HD1.out.2.1)) ?_
      try simp only [List.getElem_toArray, List.getElem_cons_succ, List.getElem_cons_zero, Act.put, List.setIfInBounds_toArray, List.set_cons_zero, List.set_cons_succ]
      refine seql_take 4 (v := ?_) rfl (by kernel_rfl) (fun _ _ _ h => h) (by rfl) (fun w' hw' => ?_) ?_
      rotate_left
      · go_simp; try with_reducible rfl
      try simp only [List.getElem_toArray, List.getElem_cons_succ, List.getElem_cons_zero, Act.put, List.setIfInBounds_toArray, List.set_cons_zero, List.set_cons_succ]
      refine seql_take 5 (v := ?_) rfl (by kernel_rfl) (fun _ _ _ h => h) (by rfl) (fun w' hw' => ?_) ?_
      rotate_left
      · go_simp; try with_reducible rfl
      try simp only [List.getElem_toArray, List.getElem_cons_succ, List.getElem_cons_zero, Act.put, List.setIfInBounds_toArray, List.set_cons_zero, List.set_cons_succ]
      refine seql_take 6 (v := ?_) rfl (by kernel_rfl) (fun _ _ _ h => h) (by rfl) (fun w' hw' => ?_) ?_
      rotate_left
      · go_simp; try with_reducible rfl
      try simp only [List.getElem_toArray, List.getElem_cons_succ, List.getElem_cons_zero, Act.put, List.setIfInBounds_toArray, List.set_cons_zero, List.set_cons_succ]
      refine seql_take 7 rfl (by kernel_rfl) (fun _ _ _ h => h) (by rfl) (seq_ldi rfl rfl (HD1.out.2.2.1)) ?_
      try simp only [List.getElem_toArray, List.getElem_cons_succ, List.getElem_cons_zero, Act.put, List.setIfInBounds_toArray, List.set_cons_zero, List.set_cons_succ]
      refine seql_take 8 (v := ?_) rfl (by kernel_rfl) (fun _ _ _ h => h) (by rfl) (fun w' hw' => ?_) ?_
      rotate_left
      · go_simp; try with_reducible rfl
      try simp only [List.getElem_toArray, List.getElem_cons_succ, List.getElem_cons_zero, Act.put, List.setIfInBounds_toArray, List.set_cons_zero, List.set_cons_succ]
      refine seql_take 9 rfl (by kernel_rfl) (fun _ _ _ h => h) (by rfl) (seq_ldInss rfl rfl (HD1.out.2.1)) ?_
      try simp only [List.getElem_toArray, List.getElem_cons_succ, List.getElem_cons_zero, Act.put, List.setIfInBounds_toArray, List.set_cons_zero, List.set_cons_succ]
      refine seql_take 10 (v := ?_) rfl (by kernel_rfl) (fun _ _ _ h => h) (by rfl) (fun w' hw' => ?_) ?_
      rotate_left
      · go_simp; try with_reducible rfl
      try simp only [List.getElem_toArray, List.getElem_cons_succ, List.getElem_cons_zero, Act.put, List.setIfInBounds_toArray, List.set_cons_zero, List.set_cons_succ]
      refine seql_take 11 (v := ?_) rfl (by kernel_rfl) (fun _ _ _ h => h) (by rfl) (fun w' hw' => ?_) ?_
      rotate_left
      · go_simp; try with_reducible rfl
      try simp only [List.getElem_toArray, List.getElem_cons_succ, List.getElem_cons_zero, Act.put, List.setIfInBounds_toArray, List.set_cons_zero, List.set_cons_succ]
      refine seql_take 12 (v := ?_) rfl (by kernel_rfl) (fun _ _ _ h => h) (by rfl) (fun w' hw' => ?_) ?_
      rotate_left
      · go_simp; try with_reducible rfl
      try simp only [List.getElem_toArray, List.getElem_cons_succ, List.getElem_cons_zero, Act.put, List.setIfInBounds_toArray, List.set_cons_zero, List.set_cons_succ]
      refine seql_take 13 rfl (by kernel_rfl) (fun _ _ _ h => h) (by rfl) (seq_ldi rfl rfl (HD1.out.2.2.2.1)) ?_
      try simp only [List.getElem_toArray, List.getElem_cons_succ, List.getElem_cons_zero, Act.put, List.setIfInBounds_toArray, List.set_cons_zero, List.set_cons_succ]
      refine seql_take 14 (v := ?_) rfl (by kernel_rfl) (fun _ _ _ h => h) (by rfl) (fun w' hw' => ?_) ?_
      rotate_left
      · go_simp; try with_reducible rfl
      try simp only [List.getElem_toArray, List.getElem_cons_succ, List.getElem_cons_zero, Act.put, List.setIfInBounds_toArray, List.set_cons_zero, List.set_cons_succ]
      refine seql_take 15 rfl (by kernel_rfl) (fun _ _ _ h => h) (by rfl) (seq_ldInss rfl rfl (HD1.out.2.1)) ?_
      try simp only [List.getElem_toArray, List.getElem_cons_succ, List.getElem_cons_zero, Act.put, List.setIfInBounds_toArray, List.set_cons_zero, List.set_cons_succ]
      refine seql_take 16 (v := ?_) rfl (by kernel_rfl) (fun _ _ _ h => h) (by rfl) (fun w' hw' => ?_) ?_
      rotate_left
      · go_simp; try with_reducible rfl
      try simp only [List.getElem_toArray, List.getElem_cons_succ, List.getElem_cons_zero, Act.put, List.setIfInBounds_toArray, List.set_cons_zero, List.set_cons_succ]
      refine seql_take 17 (v := ?_) rfl (by kernel_rfl) (fun _ _ _ h => h) (by rfl) (fun w' hw' => ?_) ?_
      rotate_left
      · go_simp; try with_reducible rfl
      try simp only [List.getElem_toArray, List.getElem_cons_succ, List.getElem_cons_zero, Act.put, List.setIfInBounds_toArray, List.set_cons_zero, List.set_cons_succ]
      refine seql_take 18 (v := ?_) rfl (by kernel_rfl) (fun _ _ _ h => h) (by rfl) (fun w' hw' => ?_) ?_
      rotate_left
      · go_simp; try with_reducible rfl
      try simp only [List.getElem_toArray, List.getElem_cons_succ, List.getElem_cons_zero, Act.put, List.setIfInBounds_toArray, List.set_cons_zero, List.set_cons_succ]
      refine seql_take 19 rfl (by kernel_rfl) (fun _ _ _ h => h) (by rfl) (seq_ldi rfl rfl (HD1.out.2.2.2.2)) ?_
      try simp only [List.getElem_toArray, List.getElem_cons_succ, List.getElem_cons_zero, Act.put, List.setIfInBounds_toArray, List.set_cons_zero, List.set_cons_succ]
      refine seql_take 20 (v := ?_) rfl (by kernel_rfl) (fun _ _ _ h => h) (by rfl) (fun w' hw' => ?_) ?_
      rotate_left
      · go_simp; try with_reducible rfl
      try simp only [List.getElem_toArray, List.getElem_cons_succ, List.getElem_cons_zero, Act.put, List.setIfInBounds_toArray, List.set_cons_zero, List.set_cons_succ]
      refine seql_run 21 rfl (by kernel_rfl) (by rfl) (fun KK hKK => ?_)
      go_wp2_with fail
      refine ⟨(Below.refl _ _).alloc (Nat.le_refl _) _, ?_⟩
      have hba : Below wr.heap.size wr (wr.alloc (.cells #[.int .i64 op, .int .i64 a, .int .i64 b] 29)).drew := ((Below.refl _ wr).alloc (Nat.le_refl _) _).drew
      have HBA := Lib.hid hba
      clear hba
      refine seql_last 22 rfl (by kernel_rfl) (by kernel_rfl) (by rfl) (fun KK hKK => ?_)
      refine wp_insR _ _ rfl W.heap.size ao cap i _ rfl (owns_below HI.out.2.1 HBA.out) ⟨op, a, b⟩ wr.heap.size rfl ((At.new wr #[.int .i64 op, .int .i64 a, .int .i64 b] 29).below (Below.refl _ _).drew) (by omega) (by have := HBA.out.size; omega) ?_
      intro ao2 cap2 w5 q1 q2 q3
      refine hKK _ _ ?_
      have hk5 : Keeps (fun b => blk ao = some b) wr w5 := (Keeps.of_below HBA.out).trans' (Keeps.of_grown' q2 (fun b hb => hb))
      have hao : ∀ b, blk ao = some b → W.heap.size ≤ b := fun b hb => (HI.out.2.1.lt b (by rw [own_slice]; exact hb)).1
      have hr5 : w5.heap[g + 1 + 1]? = _ := (hk5.block (g + 1 + 1) (by omega) (fun h => by have := hao _ h; omega)).trans HI.out.1
      have c5 : w5.cell? ⟨g + 1 + 1, 0, none⟩ = some (.slice ao i cap) := cell_of_row _ _ 0 _ _ (0, 0) hr5
      have f5 := frozen_of_row w5 (g + 1 + 1) 0 _ _ hr5
      have HQ := Lib.hid (And.intro q1 (And.intro hk5 (And.intro hr5 (And.intro hao (show ∀ b, blk ao2 = some b → W.heap.size ≤ b from fun b hb => (q1.lt b (by rw [own_slice]; exact hb)).1)))))
      clear q1 q2 q3 hk5 hr5 hao
      refine seql_more 23 rfl (by kernel_rfl) (by kernel_rfl) (by rfl) (fun KK hKK => ?_)
      go_wp2_with fail
      refine seql_more 24 rfl (by kernel_rfl) (by kernel_rfl) (by rfl) (fun KK hKK => ?_)
      go_wp2_with fail
      refine seql_done (by kernel_rfl) ?_
      go_wp2_with fail
      go_roundw
      case rel =>
        have hk6 : Keeps (fun b => b = g + 1 + 1) w5 (w5.setCell ⟨g + 1 + 1, 0, none⟩ (.slice ao2 (i + 1) cap2)) := Keeps.of_grown (setCell_grown0 _ _ _ _) rfl
        refine ⟨i + 1, ao2, cap2, by omega, by simp, ?_, ?_, (HI.out.2.2.1.trans' (HQ.out.2.1.mono (fun b _ h => .inr (HQ.out.2.2.2.1 b h)))).trans' (hk6.mono (fun _ _ h => .inl h))⟩
        · rw [setCell_row0 0 _ HQ.out.2.2.1]
          rfl
        · have := owns_keeps HQ.out.1 hk6 (fun b hb h => by rw [own_slice] at hb; have := HQ.out.2.2.2.2 b hb; omega)
          rw [HX.out]
          simpa using this
      case measure => simp [intOf]; omega
    · obtain rfl : i = c.ins.length := by omega
      have hd1 : decide ((c.ins.length : Int) < (c.ins.length : Int)) = false := decide_eq_false (by omega)
      have d0 : wr.cell? ⟨g + 1 + 1, 0, none⟩ = some (.slice ao c.ins.length cap) := cell_of_row _ _ 0 _ _ (0, 0) hr
      have d1 : wr.cell? ⟨g + 1 + 1, 1, none⟩ = some (.slice so c.strs.length scap) := cell_of_row _ _ 1 _ _ (0, 0) hr
      have d2 : wr.cell? ⟨g + 1 + 1, 2, none⟩ = some (.slice fo c.funs.length fcap) := cell_of_row _ _ 2 _ _ (0, 0) hr
      have d3 : wr.cell? ⟨g + 1 + 1, 3, none⟩ = some (.int .i64 c.glob) := cell_of_row _ _ 3 _ _ (0, 0) hr
      clear hr hown hk
      go_wp2_with (refine wpList_store_mid rfl 26 _ _ rfl (g + 1) 0 #[.slice ao c.ins.length cap, .slice so c.strs.length scap, .slice fo c.funs.length fcap, .int .i64 c.glob] rfl rfl (code_there HI.out.2.2.2.2.1) (by kernel_rfl) (code_one _ _ _ _ _ _ _ _ _ _) ?_)
      obtain ⟨hr, hown, hk, hrg, hrt, hmw⟩ := HI.out
      refine bodyPost_ret (v := .agg #[.slice ao c.ins.length cap, .slice so c.strs.length scap, .slice fo c.funs.length fcap, .int .i64 c.glob]) (results_from _ _ (g + 1) _ _ _ _ rfl (code_row hrt _ _ _ _)) rfl ?_
      have hks := Keeps.setCells (g + 1) [.slice ao c.ins.length cap, .slice so c.strs.length scap, .slice fo c.funs.length fcap, .int .i64 c.glob] 0 wr
      have hg := H.out.2.2.2.2.2.2.2
      have hs := hks.size
      have haoL : ∀ b, blk ao = some b → W.heap.size ≤ b ∧ b < wr.heap.size := fun b hb => hown.lt b (by rw [own_slice]; exact hb)
      have hm2 := hmw.keeps hks (fun b hb h => by omega)
      refine ⟨?_, ao, so, fo, cap, scap, fcap, rfl, ⟨?_, hm2.strs, hm2.funs, fun b hb hne => ?_, fun b hb hne => ?_, fun b hb hne => ?_, hm2.insR, hm2.strR, hm2.funR⟩⟩
      · rw [hg]
        exact H.out.1.trans ((hk.below (fun i hi h => by omega) (by omega)).trans (hks.below (fun i hi h => by omega) (by omega)))
      · have h1 := owns_keeps hown hks (fun b hb h => by rw [own_slice] at hb; have := haoL b hb; omega)
        rw [List.take_length] at h1
        exact rowsAt_of_flat3 (At.own h1) (by intro r hr; obtain ⟨x, _, rfl⟩ := List.mem_map.1 hr; rfl)
      · have := haoL b hb; omega
      · have := hm2.strD b hb hne; omega
      · have := hm2.funD b hb hne; omega
open Go.RowKit

theorem seq_ldRIns {o : Oper} {x : Operand} {a : Act} {w : World} (ho : o.op = .load 29 x) {b f : Nat} {p q r : Int} (hx : a.eval x = .pointer (some ⟨b, f, none⟩)) (h0 : w.cell? ⟨b, f, none⟩ = some (.int .i64 p)) (h1 : w.cell? ⟨b, f + 1, none⟩ = some (.int .i64 q)) (h2 : w.cell? ⟨b, f + 2, none⟩ = some (.int .i64 r)) :
    ∀ w', Below w.heap.size w w' → (execOp a.eval o).run Tryd.prog w' = .ok (.value (.agg #[.int .i64 p, .int .i64 q, .int .i64 r])) w' := by
  intro w' hb
  have hblk := hb.block b (World.block_lt_of_cell? (a := ⟨b, f, none⟩) w h0)
  have c0 := (World.cell?_of_block (a := ⟨b, f, none⟩) hblk).trans h0
  have c1 := (World.cell?_of_block (a := ⟨b, f + 1, none⟩) hblk).trans h1
  have c2 := (World.cell?_of_block (a := ⟨b, f + 2, none⟩) hblk).trans h2
  have hu := Tryd.underlying29
  unfold execOp
  simp only [ho, hx]
  go_simp
set_option maxRecDepth 100000 in
set_option maxHeartbeats 4000000 in
theorem csame_any {w : World} {D E : Nat → Prop} {c : CodeP} {io so fo io2 so2 fo2 : Option Addr} {icap scap fcap icap2 scap2 fcap2 : Nat} (h1 : CodeMem w D c io so fo) (h2 : CodeMem w E c io2 so2 fo2) (hil : c.ins.length ≤ 1000000) (hsl : c.strs.length ≤ 1000000) (hfl : c.funs.length ≤ 1000000) :
    Calls Tryd.prog 14 #[.agg #[.slice io c.ins.length icap, .slice so c.strs.length scap, .slice fo c.funs.length fcap, .int .i64 c.glob], .agg #[.slice io2 c.ins.length icap2, .slice so2 c.strs.length scap2, .slice fo2 c.funs.length fcap2, .int .i64 c.glob]] w (fun e w' => e = .returned (.bool true) ∧ Below w.heap.size w w') := by
  obtain ⟨g, hg⟩ : ∃ g, w.heap.size = g := ⟨_, rfl⟩
  obtain ⟨W, hW⟩ : ∃ W, (w.alloc (.cells #[.slice io c.ins.length icap, .slice so c.strs.length scap, .slice fo c.funs.length fcap, .int .i64 c.glob] 26)).alloc (.cells #[.slice io2 c.ins.length icap2, .slice so2 c.strs.length scap2, .slice fo2 c.funs.length fcap2, .int .i64 c.glob] 26) = W := ⟨_, rfl⟩
  have hbW : Below g w W := by rw [← hW, ← hg]; exact ((Below.refl _ w).alloc (Nat.le_refl _) _).alloc (by simp) _
  have hsW : W.heap.size = g + 2 := by rw [← hW, ← hg]; simp
  have hr0 : W.heap[g]? = some (.cells #[.slice io c.ins.length icap, .slice so c.strs.length scap, .slice fo c.funs.length fcap, .int .i64 c.glob] 26 (0, 0)) := by
    rw [← hW, ← hg]
    exact (Below.heap_alloc _ _ _ (by simp)).trans (heap_alloc_new w _)
  have hr1 : W.heap[g + 1]? = some (.cells #[.slice io2 c.ins.length icap2, .slice so2 c.strs.length scap2, .slice fo2 c.funs.length fcap2, .int .i64 c.glob] 26 (0, 0)) := by
    rw [← hW, ← hg]
    have := heap_alloc_new (w.alloc (.cells #[.slice io c.ins.length icap, .slice so c.strs.length scap, .slice fo c.funs.length fcap, .int .i64 c.glob] 26)) (.cells #[.slice io2 c.ins.length icap2, .slice so2 c.strs.length scap2, .slice fo2 c.funs.length fcap2, .int .i64 c.glob] 26)
    simp only [World.size_alloc] at this
    exact this
  have H := Lib.hid (And.intro hbW (And.intro hsW (And.intro hr0 (And.intro hr1 (And.intro (h1.below (by rw [hg]; exact hbW)) (And.intro (h2.below (by rw [hg]; exact hbW)) (And.intro hW hg)))))))
  have k0 : W.cell? ⟨g, 0, none⟩ = some (.slice io c.ins.length icap) := cell_of_row _ _ 0 _ _ (0, 0) hr0
  have k1 : W.cell? ⟨g, 1, none⟩ = some (.slice so c.strs.length scap) := cell_of_row _ _ 1 _ _ (0, 0) hr0
  have k2 : W.cell? ⟨g, 2, none⟩ = some (.slice fo c.funs.length fcap) := cell_of_row _ _ 2 _ _ (0, 0) hr0
  have k3 : W.cell? ⟨g, 3, none⟩ = some (.int .i64 c.glob) := cell_of_row _ _ 3 _ _ (0, 0) hr0
  have j0 : W.cell? ⟨g + 1, 0, none⟩ = some (.slice io2 c.ins.length icap2) := cell_of_row _ _ 0 _ _ (0, 0) hr1
  have j1 : W.cell? ⟨g + 1, 1, none⟩ = some (.slice so2 c.strs.length scap2) := cell_of_row _ _ 1 _ _ (0, 0) hr1
  have j2 : W.cell? ⟨g + 1, 2, none⟩ = some (.slice fo2 c.funs.length fcap2) := cell_of_row _ _ 2 _ _ (0, 0) hr1
  have j3 : W.cell? ⟨g + 1, 3, none⟩ = some (.int .i64 c.glob) := cell_of_row _ _ 3 _ _ (0, 0) hr1
  clear hbW hsW hr0 hr1 hW hg h1 h2
  go_enter Tryd.func14, Tryd.ntmps14
  go_upto_region 1 with (fail)
  rw [H.out.2.2.2.2.2.2.1, H.out.2.2.2.2.2.2.2]
  go_wp2_with fail
  clear k0 k1 k2 k3 j0 j1 j2 j3
  go_loopw [5] (fun v5 wr => ∃ i : Nat, i ≤ c.ins.length ∧ v5 = .int .i64 (i : Int) ∧ Below W.heap.size W wr) (fun v5 _ => c.ins.length - (intOf v5).toNat)
  case atStart => exact ⟨0, by omega, rfl, Below.refl _ _⟩
  case round =>
    obtain ⟨i, hi, rfl, hbr⟩ := hrel
    have hsW := H.out.2.1
    have hsr := hbr.size
    have hr0 := (hbr.block g (by omega)).trans H.out.2.2.1
    have hr1 := (hbr.block (g + 1) (by omega)).trans H.out.2.2.2.1
    have k0 : wr.cell? ⟨g, 0, none⟩ = some (.slice io c.ins.length icap) := cell_of_row _ _ 0 _ _ (0, 0) hr0
    have j0 : wr.cell? ⟨g + 1, 0, none⟩ = some (.slice io2 c.ins.length icap2) := cell_of_row _ _ 0 _ _ (0, 0) hr1
    have HO := Lib.hid hbr
    clear hbr
    by_cases hlt : i < c.ins.length
    · have hd1 : decide ((i : Int) < (c.ins.length : Int)) = true := decide_eq_true (by omega)
      obtain ⟨ib, fi, rfl, i0, i1, i2⟩ := (H.out.2.2.2.2.1.below HO.out).insAt i hlt
      obtain ⟨ib2, fi2, rfl, l0, l1, l2⟩ := (H.out.2.2.2.2.2.1.below HO.out).insAt i hlt
      obtain ⟨x, hx⟩ : ∃ x, c.ins[i] = x := ⟨_, rfl⟩
      rw [hx] at i0 i1 i2 l0 l1 l2
      obtain ⟨op, a, b⟩ := x
      simp only at i0 i1 i2 l0 l1 l2
      have HC := Lib.hid (And.intro (show wr.drew.cell? ⟨g, 0, none⟩ = _ from k0) (And.intro (show wr.drew.cell? ⟨g + 1, 0, none⟩ = _ from j0) (And.intro (And.intro (show wr.drew.cell? ⟨ib, fi + i * 3, none⟩ = _ from i0) (And.intro (show wr.drew.cell? ⟨ib, fi + i * 3 + 1, none⟩ = _ from i1) (show wr.drew.cell? ⟨ib, fi + i * 3 + 2, none⟩ = _ from i2))) (And.intro (show wr.drew.cell? ⟨ib2, fi2 + i * 3, none⟩ = _ from l0) (And.intro (show wr.drew.cell? ⟨ib2, fi2 + i * 3 + 1, none⟩ = _ from l1) (show wr.drew.cell? ⟨ib2, fi2 + i * 3 + 2, none⟩ = _ from l2))))))
      have hlz : (i : Int) < (c.ins.length : Int) := by omega
      clear hx i0 i1 i2 l0 l1 l2 hr0 hr1
      go_wp2_with fail
      refine seq_start (by kernel_rfl) ?_
      refine seq_take 0 (v := ?_) rfl (by kernel_rfl) (fun _ _ _ h => h) (by rfl) (fun w' hw' => ?_) ?_
      rotate_left
      · go_simp; try with_reducible rfl
      try simp only [List.getElem_toArray, List.getElem_cons_succ, List.getElem_cons_zero, Act.put, List.setIfInBounds_toArray, List.set_cons_zero, List.set_cons_succ]
      refine seq_take 1 rfl (by kernel_rfl) (fun _ _ _ h => h) (by rfl) (seq_ldRI rfl rfl (HC.out.1)) ?_
      try simp only [List.getElem_toArray, List.getElem_cons_succ, List.getElem_cons_zero, Act.put, List.setIfInBounds_toArray, List.set_cons_zero, List.set_cons_succ]
      refine seq_take 2 (v := ?_) rfl (by kernel_rfl) (fun _ _ _ h => h) (by rfl) (fun w' hw' => ?_) ?_
      rotate_left
      · go_simp; try with_reducible rfl
      try simp only [List.getElem_toArray, List.getElem_cons_succ, List.getElem_cons_zero, Act.put, List.setIfInBounds_toArray, List.set_cons_zero, List.set_cons_succ]
      refine seq_take 3 (v := ?_) rfl (by kernel_rfl) (fun _ _ _ h => h) (by rfl) (fun w' hw' => ?_) ?_
      rotate_left
      · go_simp; try with_reducible rfl
      try simp only [List.getElem_toArray, List.getElem_cons_succ, List.getElem_cons_zero, Act.put, List.setIfInBounds_toArray, List.set_cons_zero, List.set_cons_succ]
      refine seq_take 4 rfl (by kernel_rfl) (fun _ _ _ h => h) (by rfl) (seq_ldRIns rfl rfl HC.out.2.2.1.1 HC.out.2.2.1.2.1 HC.out.2.2.1.2.2) ?_
      try simp only [List.getElem_toArray, List.getElem_cons_succ, List.getElem_cons_zero, Act.put, List.setIfInBounds_toArray, List.set_cons_zero, List.set_cons_succ]
      refine seq_take 5 (v := ?_) rfl (by kernel_rfl) (fun _ _ _ h => h) (by rfl) (fun w' hw' => ?_) ?_
      rotate_left
      · go_simp; try with_reducible rfl
      try simp only [List.getElem_toArray, List.getElem_cons_succ, List.getElem_cons_zero, Act.put, List.setIfInBounds_toArray, List.set_cons_zero, List.set_cons_succ]
      refine seq_take 6 rfl (by kernel_rfl) (fun _ _ _ h => h) (by rfl) (seq_ldRI rfl rfl (HC.out.2.1)) ?_
      try simp only [List.getElem_toArray, List.getElem_cons_succ, List.getElem_cons_zero, Act.put, List.setIfInBounds_toArray, List.set_cons_zero, List.set_cons_succ]
      refine seq_take 7 (v := ?_) rfl (by kernel_rfl) (fun _ _ _ h => h) (by rfl) (fun w' hw' => ?_) ?_
      rotate_left
      · go_simp; try with_reducible rfl
      try simp only [List.getElem_toArray, List.getElem_cons_succ, List.getElem_cons_zero, Act.put, List.setIfInBounds_toArray, List.set_cons_zero, List.set_cons_succ]
      refine seq_take 8 (v := ?_) rfl (by kernel_rfl) (fun _ _ _ h => h) (by rfl) (fun w' hw' => ?_) ?_
      rotate_left
      · go_simp; try with_reducible rfl
      try simp only [List.getElem_toArray, List.getElem_cons_succ, List.getElem_cons_zero, Act.put, List.setIfInBounds_toArray, List.set_cons_zero, List.set_cons_succ]
      refine seq_take 9 rfl (by kernel_rfl) (fun _ _ _ h => h) (by rfl) (seq_ldRIns rfl rfl HC.out.2.2.2.1 HC.out.2.2.2.2.1 HC.out.2.2.2.2.2) ?_
      try simp only [List.getElem_toArray, List.getElem_cons_succ, List.getElem_cons_zero, Act.put, List.setIfInBounds_toArray, List.set_cons_zero, List.set_cons_succ]
      refine seq_take 10 (v := ?_) rfl (by kernel_rfl) (fun _ _ _ h => h) (by rfl) (fun w' hw' => ?_) ?_
      rotate_left
      · go_simp; try with_reducible rfl
      try simp only [List.getElem_toArray, List.getElem_cons_succ, List.getElem_cons_zero, Act.put, List.setIfInBounds_toArray, List.set_cons_zero, List.set_cons_succ]
      refine seq_done (by kernel_rfl) ?_
      clear k0 j0
      go_wp2_with fail
      go_roundw
      case rel => exact ⟨i + 1, by omega, by simp, HO.out.drew⟩
      case measure => simp [intOf]; omega
    · obtain rfl : i = c.ins.length := by omega
      have hd1 : decide ((c.ins.length : Int) < (c.ins.length : Int)) = false := decide_eq_false (by omega)
      go_wp2_with fail
      clear k0 j0 hr0 hr1
      go_loopw [6] (fun v6 wr => ∃ i : Nat, i ≤ c.strs.length ∧ v6 = .int .i64 (i : Int) ∧ Below W.heap.size W wr) (fun v6 _ => c.strs.length - (intOf v6).toNat)
      case atStart => exact ⟨0, by omega, rfl, HO.out⟩
      case round =>
        obtain ⟨i, hi, rfl, hbr⟩ := hrel
        have hsr := hbr.size
        have hr0 := (hbr.block g (by omega)).trans H.out.2.2.1
        have hr1 := (hbr.block (g + 1) (by omega)).trans H.out.2.2.2.1
        have k0 : wr.cell? ⟨g, 1, none⟩ = some (.slice so c.strs.length scap) := cell_of_row _ _ 1 _ _ (0, 0) hr0
        have j0 : wr.cell? ⟨g + 1, 1, none⟩ = some (.slice so2 c.strs.length scap2) := cell_of_row _ _ 1 _ _ (0, 0) hr1
        have HO := Lib.hid hbr
        clear hbr
        by_cases hlt : i < c.strs.length
        · have hd1 : decide ((i : Int) < (c.strs.length : Int)) = true := decide_eq_true (by omega)
          obtain ⟨ib, fi, rfl, i0⟩ := (H.out.2.2.2.2.1.below HO.out).strs.exv i (by simpa [strCells] using hlt)
          obtain ⟨ib2, fi2, rfl, l0⟩ := (H.out.2.2.2.2.2.1.below HO.out).strs.exv i (by simpa [strCells] using hlt)
          obtain ⟨x, hx⟩ : ∃ x, c.strs[i] = x := ⟨_, rfl⟩
          have hce : (strCells c.strs)[i]'(by simpa [strCells] using hlt) = .string ⟨x.toArray⟩ := by rw [← hx]; simp [strCells]
          rw [hce] at i0 l0
          have HC := Lib.hid (And.intro (show wr.drew.cell? ⟨g, 1, none⟩ = _ from k0) (And.intro (show wr.drew.cell? ⟨g + 1, 1, none⟩ = _ from j0) (And.intro (show wr.drew.cell? ⟨ib, fi + i, none⟩ = _ from i0) (show wr.drew.cell? ⟨ib2, fi2 + i, none⟩ = _ from l0))))
          have hlz : (i : Int) < (c.strs.length : Int) := by omega
          clear hx hce i0 l0 hr0 hr1
          go_wp2_with fail
          refine seq_start (by kernel_rfl) ?_
          refine seq_take 0 (v := ?_) rfl (by kernel_rfl) (fun _ _ _ h => h) (by rfl) (fun w' hw' => ?_) ?_
          rotate_left
          · go_simp; try with_reducible rfl
          try simp only [List.getElem_toArray, List.getElem_cons_succ, List.getElem_cons_zero, Act.put, List.setIfInBounds_toArray, List.set_cons_zero, List.set_cons_succ]
          refine seq_take 1 rfl (by kernel_rfl) (fun _ _ _ h => h) (by rfl) (seq_ldSS rfl rfl (HC.out.1)) ?_
          try simp only [List.getElem_toArray, List.getElem_cons_succ, List.getElem_cons_zero, Act.put, List.setIfInBounds_toArray, List.set_cons_zero, List.set_cons_succ]
          refine seq_take 2 (v := ?_) rfl (by kernel_rfl) (fun _ _ _ h => h) (by rfl) (fun w' hw' => ?_) ?_
          rotate_left
          · go_simp; try with_reducible rfl
          try simp only [List.getElem_toArray, List.getElem_cons_succ, List.getElem_cons_zero, Act.put, List.setIfInBounds_toArray, List.set_cons_zero, List.set_cons_succ]
          refine seq_take 3 (v := ?_) rfl (by kernel_rfl) (fun _ _ _ h => h) (by rfl) (fun w' hw' => ?_) ?_
          rotate_left
          · go_simp; try with_reducible rfl
          try simp only [List.getElem_toArray, List.getElem_cons_succ, List.getElem_cons_zero, Act.put, List.setIfInBounds_toArray, List.set_cons_zero, List.set_cons_succ]
          refine seq_take 4 rfl (by kernel_rfl) (fun _ _ _ h => h) (by rfl) (seq_lds rfl rfl (HC.out.2.2.1)) ?_
          try simp only [List.getElem_toArray, List.getElem_cons_succ, List.getElem_cons_zero, Act.put, List.setIfInBounds_toArray, List.set_cons_zero, List.set_cons_succ]
          refine seq_take 5 (v := ?_) rfl (by kernel_rfl) (fun _ _ _ h => h) (by rfl) (fun w' hw' => ?_) ?_
          rotate_left
          · go_simp; try with_reducible rfl
          try simp only [List.getElem_toArray, List.getElem_cons_succ, List.getElem_cons_zero, Act.put, List.setIfInBounds_toArray, List.set_cons_zero, List.set_cons_succ]
          refine seq_take 6 rfl (by kernel_rfl) (fun _ _ _ h => h) (by rfl) (seq_ldSS rfl rfl (HC.out.2.1)) ?_
          try simp only [List.getElem_toArray, List.getElem_cons_succ, List.getElem_cons_zero, Act.put, List.setIfInBounds_toArray, List.set_cons_zero, List.set_cons_succ]
          refine seq_take 7 (v := ?_) rfl (by kernel_rfl) (fun _ _ _ h => h) (by rfl) (fun w' hw' => ?_) ?_
          rotate_left
          · go_simp; try with_reducible rfl
          try simp only [List.getElem_toArray, List.getElem_cons_succ, List.getElem_cons_zero, Act.put, List.setIfInBounds_toArray, List.set_cons_zero, List.set_cons_succ]
          refine seq_take 8 (v := ?_) rfl (by kernel_rfl) (fun _ _ _ h => h) (by rfl) (fun w' hw' => ?_) ?_
          rotate_left
          · go_simp; try with_reducible rfl
          try simp only [List.getElem_toArray, List.getElem_cons_succ, List.getElem_cons_zero, Act.put, List.setIfInBounds_toArray, List.set_cons_zero, List.set_cons_succ]
          refine seq_take 9 rfl (by kernel_rfl) (fun _ _ _ h => h) (by rfl) (seq_lds rfl rfl (HC.out.2.2.2)) ?_
          try simp only [List.getElem_toArray, List.getElem_cons_succ, List.getElem_cons_zero, Act.put, List.setIfInBounds_toArray, List.set_cons_zero, List.set_cons_succ]
          refine seq_take 10 (v := ?_) rfl (by kernel_rfl) (fun _ _ _ h => h) (by rfl) (fun w' hw' => ?_) ?_
          rotate_left
          · go_simp; try with_reducible rfl
          try simp only [List.getElem_toArray, List.getElem_cons_succ, List.getElem_cons_zero, Act.put, List.setIfInBounds_toArray, List.set_cons_zero, List.set_cons_succ]
          refine seq_done (by kernel_rfl) ?_
          clear k0 j0
          go_wp2_with fail
          go_roundw
          case rel => exact ⟨i + 1, by omega, by simp, HO.out.drew⟩
          case measure => simp [intOf]; omega
        · obtain rfl : i = c.strs.length := by omega
          have hd1 : decide ((c.strs.length : Int) < (c.strs.length : Int)) = false := decide_eq_false (by omega)
          go_wp2_with fail
          clear k0 j0 hr0 hr1
          go_loopw [7] (fun v7 wr => ∃ i : Nat, i ≤ c.funs.length ∧ v7 = .int .i64 (i : Int) ∧ Below W.heap.size W wr) (fun v7 _ => c.funs.length - (intOf v7).toNat)
          case atStart => exact ⟨0, by omega, rfl, HO.out⟩
          case round =>
            obtain ⟨i, hi, rfl, hbr⟩ := hrel
            have hsr := hbr.size
            have hr0 := (hbr.block g (by omega)).trans H.out.2.2.1
            have hr1 := (hbr.block (g + 1) (by omega)).trans H.out.2.2.2.1
            have k0 : wr.cell? ⟨g, 2, none⟩ = some (.slice fo c.funs.length fcap) := cell_of_row _ _ 2 _ _ (0, 0) hr0
            have j0 : wr.cell? ⟨g + 1, 2, none⟩ = some (.slice fo2 c.funs.length fcap2) := cell_of_row _ _ 2 _ _ (0, 0) hr1
            have HO := Lib.hid hbr
            clear hbr
            by_cases hlt : i < c.funs.length
            · have hd1 : decide ((i : Int) < (c.funs.length : Int)) = true := decide_eq_true (by omega)
              obtain ⟨ib, fi, rfl, i0⟩ := (H.out.2.2.2.2.1.below HO.out).funs.exv i (by simpa [intsV] using hlt)
              obtain ⟨ib2, fi2, rfl, l0⟩ := (H.out.2.2.2.2.2.1.below HO.out).funs.exv i (by simpa [intsV] using hlt)
              obtain ⟨x, hx⟩ : ∃ x, c.funs[i] = x := ⟨_, rfl⟩
              have hce : (intsV c.funs)[i]'(by simpa [intsV] using hlt) = .int .i64 x := by rw [← hx]; simp [intsV]
              rw [hce] at i0 l0
              have HC := Lib.hid (And.intro (show wr.drew.cell? ⟨g, 2, none⟩ = _ from k0) (And.intro (show wr.drew.cell? ⟨g + 1, 2, none⟩ = _ from j0) (And.intro (show wr.drew.cell? ⟨ib, fi + i, none⟩ = _ from i0) (show wr.drew.cell? ⟨ib2, fi2 + i, none⟩ = _ from l0))))
              have hlz : (i : Int) < (c.funs.length : Int) := by omega
              clear hx hce i0 l0 hr0 hr1
              go_wp2_with fail
              refine seq_start (by kernel_rfl) ?_
              refine seq_take 0 (v := ?_) rfl (by kernel_rfl) (fun _ _ _ h => h) (by rfl) (fun w' hw' => ?_) ?_
              rotate_left
              · go_simp; try with_reducible rfl
              try simp only [List.getElem_toArray, List.getElem_cons_succ, List.getElem_cons_zero, Act.put, List.setIfInBounds_toArray, List.set_cons_zero, List.set_cons_succ]
              refine seq_take 1 rfl (by kernel_rfl) (fun _ _ _ h => h) (by rfl) (seq_ldII rfl rfl (HC.out.1)) ?_
              try simp only [List.getElem_toArray, List.getElem_cons_succ, List.getElem_cons_zero, Act.put, List.setIfInBounds_toArray, List.set_cons_zero, List.set_cons_succ]
              refine seq_take 2 (v := ?_) rfl (by kernel_rfl) (fun _ _ _ h => h) (by rfl) (fun w' hw' => ?_) ?_
              rotate_left
              · go_simp; try with_reducible rfl
              try simp only [List.getElem_toArray, List.getElem_cons_succ, List.getElem_cons_zero, Act.put, List.setIfInBounds_toArray, List.set_cons_zero, List.set_cons_succ]
              refine seq_take 3 (v := ?_) rfl (by kernel_rfl) (fun _ _ _ h => h) (by rfl) (fun w' hw' => ?_) ?_
              rotate_left
              · go_simp; try with_reducible rfl
              try simp only [List.getElem_toArray, List.getElem_cons_succ, List.getElem_cons_zero, Act.put, List.setIfInBounds_toArray, List.set_cons_zero, List.set_cons_succ]
              refine seq_take 4 rfl (by kernel_rfl) (fun _ _ _ h => h) (by rfl) (seq_ldi rfl rfl (HC.out.2.2.1)) ?_
              try simp only [List.getElem_toArray, List.getElem_cons_succ, List.getElem_cons_zero, Act.put, List.setIfInBounds_toArray, List.set_cons_zero, List.set_cons_succ]
              refine seq_take 5 (v := ?_) rfl (by kernel_rfl) (fun _ _ _ h => h) (by rfl) (fun w' hw' => ?_) ?_
              rotate_left
              · go_simp; try with_reducible rfl
              try simp only [List.getElem_toArray, List.getElem_cons_succ, List.getElem_cons_zero, Act.put, List.setIfInBounds_toArray, List.set_cons_zero, List.set_cons_succ]
              refine seq_take 6 rfl (by kernel_rfl) (fun _ _ _ h => h) (by rfl) (seq_ldII rfl rfl (HC.out.2.1)) ?_
              try simp only [List.getElem_toArray, List.getElem_cons_succ, List.getElem_cons_zero, Act.put, List.setIfInBounds_toArray, List.set_cons_zero, List.set_cons_succ]
              refine seq_take 7 (v := ?_) rfl (by kernel_rfl) (fun _ _ _ h => h) (by rfl) (fun w' hw' => ?_) ?_
              rotate_left
              · go_simp; try with_reducible rfl
              try simp only [List.getElem_toArray, List.getElem_cons_succ, List.getElem_cons_zero, Act.put, List.setIfInBounds_toArray, List.set_cons_zero, List.set_cons_succ]
              refine seq_take 8 (v := ?_) rfl (by kernel_rfl) (fun _ _ _ h => h) (by rfl) (fun w' hw' => ?_) ?_
              rotate_left
              · go_simp; try with_reducible rfl
              try simp only [List.getElem_toArray, List.getElem_cons_succ, List.getElem_cons_zero, Act.put, List.setIfInBounds_toArray, List.set_cons_zero, List.set_cons_succ]
              refine seq_take 9 rfl (by kernel_rfl) (fun _ _ _ h => h) (by rfl) (seq_ldi rfl rfl (HC.out.2.2.2)) ?_
              try simp only [List.getElem_toArray, List.getElem_cons_succ, List.getElem_cons_zero, Act.put, List.setIfInBounds_toArray, List.set_cons_zero, List.set_cons_succ]
              refine seq_take 10 (v := ?_) rfl (by kernel_rfl) (fun _ _ _ h => h) (by rfl) (fun w' hw' => ?_) ?_
              rotate_left
              · go_simp; try with_reducible rfl
              try simp only [List.getElem_toArray, List.getElem_cons_succ, List.getElem_cons_zero, Act.put, List.setIfInBounds_toArray, List.set_cons_zero, List.set_cons_succ]
              refine seq_done (by kernel_rfl) ?_
              clear k0 j0
              go_wp2_with fail
              go_roundw
              case rel => exact ⟨i + 1, by omega, by simp, HO.out.drew⟩
              case measure => simp [intOf]; omega
            · obtain rfl : i = c.funs.length := by omega
              have hd1 : decide ((c.funs.length : Int) < (c.funs.length : Int)) = false := decide_eq_false (by omega)
              go_wp2_with fail
              go_ret
              exact ⟨rfl, by rw [H.out.2.2.2.2.2.2.2]; exact H.out.1.trans (HO.out.mono (by omega))⟩
open Go.ChangeShapes Go.WideShapes Go.ChangeAt Go.RowKit

section
variable {H : Type} {enc : TypeId × Value → H}
theorem at_of_rows1 {w : World} {ao : Option Addr} {l : List Value} (h : RowsAt w ao 1 (l.map fun v => [v])) : At w ao l := by
  rcases h with h | ⟨b, o, rfl, hc⟩
  · exact .inl (by simpa using h)
  · refine .inr ⟨b, o, rfl, fun j v hj => ?_⟩
    have := hc j [v] (by rw [List.getElem?_map, hj]; rfl) 0 v rfl
    simpa using this
theorem rowsAt_lt {w : World} {b o k : Nat} {rows : List (List Value)} (h : RowsAt w (some ⟨b, o, none⟩) k rows) (hne : rows ≠ []) (hl : ∀ r ∈ rows, r.length = k) (hk : 0 < k) : b < w.heap.size := by
  rcases h with h | ⟨b', o', he, hc⟩
  · exact absurd h hne
  · cases he
    have h0 : 0 < rows.length := List.length_pos_iff.2 hne
    have hr := hl rows[0] (List.getElem_mem h0)
    exact World.block_lt_of_cell? (a := ⟨b, o + (0 * k + 0), none⟩) w (hc 0 rows[0] (List.getElem?_eq_getElem h0) 0 (rows[0][0]'(by omega)) (List.getElem?_eq_getElem _))
/-- Rows of steps. -/
theorem open_ins {w : World} {ti te : TypeId} {f0 f1 f2 : Field} {fuel : Nat} {cs : List Value} {x : DataW H × List MemPlace} (ht : Tryd.prog.underlying ti = some (.slice te)) (hs : Tryd.prog.underlying te = some (.struct #[f0, f1, f2])) (hf : (f0.type, f0.offset, f1.type, f1.offset, f2.type, f2.offset) = (3, 0, 3, 1, 3, 2)) (hc : Tryd.prog.cellsOf te = 3) (hci : Tryd.prog.cellsOf 3 = 1)
    (h : DataW.trod enc Tryd.prog w 0 (fun _ => true) true fuel ti cs = some x) :
    ∃ (ao : Option Addr) (cap : Nat) (l : List InsP), cs = [.slice ao l.length cap] ∧ l.length ≤ cap ∧ cap ≤ 9223372036854775807 ∧ RowsAt w ao 3 (l.map insRow) ∧ ∀ x ∈ l, R64i x.op ∧ R64i x.a ∧ R64i x.b := by
  obtain ⟨ao, cap, rows, rfl, h1, h2, h3, h4⟩ := open_rows0 ht hc (by decide) h
  simp only [Prod.mk.injEq] at hf
  obtain ⟨e1, e2, e3, e4, e5, e6⟩ := hf
  obtain ⟨l, rfl, hl⟩ := rows_map (f := insRow) (p := fun x => R64i x.op ∧ R64i x.a ∧ R64i x.b) (rows := rows) (by
    intro r hr
    obtain ⟨hrl, n, y, hy⟩ := h4 r hr
    match r, hrl with
    | [c0, c1, c2], _ =>
      obtain ⟨m0, y0, d0⟩ := row_field hs hy 0 f0 rfl
      obtain ⟨m1, y1, d1⟩ := row_field hs hy 1 f1 rfl
      obtain ⟨m2, y2, d2⟩ := row_field hs hy 2 f2 rfl
      rw [e1, e2, hci] at d0
      rw [e3, e4, hci] at d1
      rw [e5, e6, hci] at d2
      obtain ⟨z0, z0e, l0, u0⟩ := int_range Tryd.underlying3 d0
      obtain ⟨z1, z1e, l1, u1⟩ := int_range Tryd.underlying3 d1
      obtain ⟨z2, z2e, l2, u2⟩ := int_range Tryd.underlying3 d2
      simp at z0e z1e z2e
      exact ⟨⟨z0, z1, z2⟩, by rw [z0e, z1e, z2e]; rfl, ⟨l0, u0⟩, ⟨l1, u1⟩, ⟨l2, u2⟩⟩)
  rw [List.length_map] at *
  exact ⟨ao, cap, l, rfl, h1, h2, h3, hl⟩
theorem open_strs1 {w : World} {fuel : Nat} {cs : List Value} {x : DataW H × List MemPlace} (hc : Tryd.prog.cellsOf 9 = 1) (h : DataW.trod enc Tryd.prog w 0 (fun _ => true) true fuel 24 cs = some x) :
    ∃ (ao : Option Addr) (cap : Nat) (l : List (List UInt8)), cs = [.slice ao l.length cap] ∧ l.length ≤ cap ∧ cap ≤ 9223372036854775807 ∧ At w ao (strCells l) ∧ (∀ s ∈ l, s.length ≤ 9223372036854775807) ∧ RowsAt w ao 1 ((strCells l).map fun v => [v]) := by
  obtain ⟨ao, cap, rows, rfl, h1, h2, h3, h4⟩ := open_rows0 Tryd.underlying24 hc (by decide) h
  obtain ⟨l, rfl, hl⟩ := rows_map (f := fun s : List UInt8 => [Value.string ⟨s.toArray⟩]) (p := fun s => s.length ≤ 9223372036854775807) (rows := rows) (by
    intro r hr
    obtain ⟨hrl, n, y, hy⟩ := h4 r hr
    obtain ⟨s, e1, _, hs⟩ := DataW.trod_string Tryd.underlying9 hy
    exact ⟨s.data.toList, by rw [e1], by rw [Array.length_toList]; unfold maxLen at hs; exact Nat.le_trans hs (by decide)⟩)
  rw [List.length_map] at *
  have h5 : RowsAt w ao 1 ((strCells l).map fun v => [v]) := by simpa [strCells, Function.comp_def] using h3
  exact ⟨ao, cap, l, rfl, h1, h2, at_of_rows1 h5, hl, h5⟩
theorem open_ints1 {w : World} {fuel : Nat} {cs : List Value} {x : DataW H × List MemPlace} (hc : Tryd.prog.cellsOf 3 = 1) (h : DataW.trod enc Tryd.prog w 0 (fun _ => true) true fuel 22 cs = some x) :
    ∃ (ao : Option Addr) (cap : Nat) (l : List Int), cs = [.slice ao l.length cap] ∧ l.length ≤ cap ∧ cap ≤ 9223372036854775807 ∧ At w ao (intsV l) ∧ (∀ z ∈ l, R64i z) ∧ RowsAt w ao 1 ((intsV l).map fun v => [v]) := by
  obtain ⟨ao, cap, rows, rfl, h1, h2, h3, h4⟩ := open_rows0 Tryd.underlying22 hc (by decide) h
  obtain ⟨l, rfl, hl⟩ := rows_map (f := fun z : Int => [Value.int .i64 z]) (p := R64i) (rows := rows) (by
    intro r hr
    obtain ⟨hrl, n, y, hy⟩ := h4 r hr
    obtain ⟨z, e1, hz⟩ := int_range Tryd.underlying3 hy
    exact ⟨z, e1, hz⟩)
  rw [List.length_map] at *
  have h5 : RowsAt w ao 1 ((intsV l).map fun v => [v]) := by simpa [intsV, Function.comp_def] using h3
  exact ⟨ao, cap, l, rfl, h1, h2, at_of_rows1 h5, hl, h5⟩
set_option maxRecDepth 100000 in
/-- A struct of code, opened. -/
theorem open_code {w : World} {r : Reach} {b0 : Nat} {tc ti te : TypeId} {g0 g1 g2 g3 f0 f1 f2 : Field} {v : Value} {d : DataW H} {ps : List MemPlace} (htc : Tryd.prog.underlying tc = some (.struct #[g0, g1, g2, g3])) (hg : (g0.type, g0.offset, g1.type, g1.offset, g2.type, g2.offset, g3.type, g3.offset) = (ti, 0, 24, 1, 22, 2, 3, 3)) (hc4 : Tryd.prog.cellsOf tc = 4) (hk : Tryd.prog.cellsOf ti = 1 ∧ Tryd.prog.cellsOf 24 = 1 ∧ Tryd.prog.cellsOf 22 = 1 ∧ Tryd.prog.cellsOf 3 = 1 ∧ Tryd.prog.cellsOf 9 = 1)
    (ht : Tryd.prog.underlying ti = some (.slice te)) (hs : Tryd.prog.underlying te = some (.struct #[f0, f1, f2])) (hf : (f0.type, f0.offset, f1.type, f1.offset, f2.type, f2.offset) = (3, 0, 3, 1, 3, 2)) (hc : Tryd.prog.cellsOf te = 3)
    (hval : Value.okWide Tryd.prog w r b0 tc v) (h : DataW.Trod enc Tryd.prog w 0 (fun _ => true) true tc v d ps) :
    ∃ (c : CodeP) (io so fo : Option Addr) (icap scap fcap : Nat), v = .agg #[.slice io c.ins.length icap, .slice so c.strs.length scap, .slice fo c.funs.length fcap, .int .i64 c.glob] ∧ CodeMem w (fun b => b < w.heap.size) c io so fo ∧ c.ins.length ≤ icap ∧ icap ≤ 9223372036854775807 ∧ c.strs.length ≤ scap ∧ scap ≤ 9223372036854775807 ∧ c.funs.length ≤ fcap ∧ fcap ≤ 9223372036854775807 ∧ R64i c.glob := by
  obtain ⟨cs, rfl, hcs⟩ := okWide_struct htc hval
  rw [hc4] at hcs
  obtain ⟨fuel, hfu⟩ := h
  obtain ⟨l⟩ := cs
  simp only [List.size_toArray] at hcs
  simp only [Value.cells] at hfu
  simp only [Prod.mk.injEq] at hg
  obtain ⟨e1, e2, e3, e4, e5, e6, e7, e8⟩ := hg
  obtain ⟨k0, k1, k2, k3, k4⟩ := hk
  match l, hcs with
  | [c0, c1, c2, c3], _ =>
    obtain ⟨m0, y0, d0⟩ := row_field htc hfu 0 g0 rfl
    obtain ⟨m1, y1, d1⟩ := row_field htc hfu 1 g1 rfl
    obtain ⟨m2, y2, d2⟩ := row_field htc hfu 2 g2 rfl
    obtain ⟨m3, y3, d3⟩ := row_field htc hfu 3 g3 rfl
    rw [e1, e2, k0] at d0
    rw [e3, e4, k1] at d1
    rw [e5, e6, k2] at d2
    rw [e7, e8, k3] at d3
    obtain ⟨io, icap, li, i1, i2, i3, i4, i5⟩ := open_ins ht hs hf hc k3 d0
    obtain ⟨so, scap, ls, s1, s2, s3, s4, s5, s6⟩ := open_strs1 k4 d1
    obtain ⟨fo, fcap, lf, f1', f2', f3, f4, f5, f6⟩ := open_ints1 k3 d2
    obtain ⟨z, z1, z2⟩ := int_range Tryd.underlying3 d3
    simp at i1 s1 f1' z1
    refine ⟨⟨li, ls, lf, z⟩, io, so, fo, icap, scap, fcap, by rw [i1, s1, f1', z1], ⟨i4, s4, f4, fun b hb hne => ?_, fun b hb hne => ?_, fun b hb hne => ?_, i5, s5, f5⟩, i2, i3, s2, s3, f2', f3, z2⟩
    · rcases i4 with h | ⟨b', o', rfl, hc'⟩
      · exact absurd (by simpa using h) hne
      · cases hb
        exact rowsAt_lt (.inr ⟨_, _, rfl, hc'⟩) (by simpa using hne) (by intro r hr; obtain ⟨x, _, rfl⟩ := List.mem_map.1 hr; rfl) (by decide)
    · rcases s6 with h | ⟨b', o', rfl, hc'⟩
      · exact absurd (by simpa [strCells] using h) hne
      · cases hb
        exact rowsAt_lt (.inr ⟨_, _, rfl, hc'⟩) (by simpa [strCells] using hne) (by intro r hr; obtain ⟨x, _, rfl⟩ := List.mem_map.1 hr; rfl) (by decide)
    · rcases f6 with h | ⟨b', o', rfl, hc'⟩
      · exact absurd (by simpa [intsV] using h) hne
      · cases hb
        exact rowsAt_lt (.inr ⟨_, _, rfl, hc'⟩) (by simpa [intsV] using hne) (by intro r hr; obtain ⟨x, _, rfl⟩ := List.mem_map.1 hr; rfl) (by decide)
end
end Go.Proofs.YtnhdefaagicejaaDoor
