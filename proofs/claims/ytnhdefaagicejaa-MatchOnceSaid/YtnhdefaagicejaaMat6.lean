/- The walk of match's builder: the tree of rows. -/
import Derived.Test.YtnhdefaagicejaaMat5
import Derived.Test.YtnhdefaagicejaaRegL
namespace Go.Proofs.Ytnhdefaagicejaa
set_option linter.unusedSimpArgs false
set_option linter.unusedVariables false
open Go.RowKit

/-! Plain. -/
/-- A row that is not too great. -/
def Bd (r : RowM) : Prop := sizeC r.cells ≤ 100000 ∧ ∀ c ∈ r.cells, c.path.length + sizeV c.p ≤ 100000
theorem sizeVs_mem : ∀ {ks : List PV} {k : PV}, k ∈ ks → sizeV k ≤ sizeVs ks
  | x :: xs, k, h => by
    rw [sizeVs]
    rcases List.mem_cons.1 h with rfl | h
    · omega
    · have := sizeVs_mem h; omega
theorem Bd.take {path : List Nat} {x : TestM} {r : RowM} {l : List CellM} (hb : Bd r) (h : takeC path x r.cells = some l) : Bd ⟨r.num, l⟩ := by
  refine ⟨Nat.le_trans (takeC_size h).1 hb.1, fun c hc => ?_⟩
  rcases takeC_mem h c hc with ⟨h1, _⟩ | ⟨d, hd, hdp, _, _, hk⟩
  · exact hb.2 c h1
  · obtain ⟨j, hj, e1, e2, _⟩ := kidCells_mem hk
    have h1 := hb.2 d hd
    have h2 := sizeV_kids d.p
    have h3 := sizeVs_mem (List.getElem_mem hj)
    rw [e1, e2, List.length_append, List.length_singleton, ← hdp]
    omega
theorem takeRows_snoc (path : List Nat) (x : TestM) (rows : List RowM) (r : RowM) : takeRows path x (rows ++ [r]) = takeRows path x rows ++ (match takeC path x r.cells with | some l => [⟨r.num, l⟩] | none => []) := by
  unfold takeRows
  rw [List.filterMap_append]
  congr 1
  simp only [List.filterMap_cons, List.filterMap_nil]
  unfold takeR
  cases takeC path x r.cells <;> rfl
theorem restRows_snoc (path : List Nat) (rows : List RowM) (r : RowM) : restRows path (rows ++ [r]) = restRows path rows ++ (match atR r path with | some _ => [] | none => [r]) := by
  unfold restRows
  rw [List.filter_append]
  congr 1
  simp only [List.filter_cons, List.filter_nil]
  cases atR r path <;> rfl
theorem testsOf_snoc (path : List Nat) (rows : List RowM) (r : RowM) : testsOf path (rows ++ [r]) = addTest path (testsOf path rows) r := by simp [testsOf]
theorem takeRows_le (path : List Nat) (x : TestM) (rows : List RowM) : (takeRows path x rows).length ≤ rows.length := List.length_filterMap_le _ _
theorem restRows_le (path : List Nat) (rows : List RowM) : (restRows path rows).length ≤ rows.length := List.length_filter_le _ _
theorem testsOf_le (path : List Nat) (rows : List RowM) : (testsOf path rows).length ≤ rows.length := by
  have := (mem_testsOf path rows []).2.2.2
  simpa [testsOf] using this
theorem takeRows_bd {path : List Nat} {x : TestM} {rows : List RowM} (h : ∀ r ∈ rows, Bd r) : ∀ r ∈ takeRows path x rows, Bd r := by
  intro s hs
  obtain ⟨r, hr, he⟩ := List.mem_filterMap.1 hs
  unfold takeR at he
  obtain ⟨l, hl, rfl⟩ := Option.map_eq_some_iff.1 he
  exact (h r hr).take hl
theorem restRows_bd {path : List Nat} {rows : List RowM} (h : ∀ r ∈ rows, Bd r) : ∀ r ∈ restRows path rows, Bd r := fun s hs => h s (List.mem_filter.1 hs).1
theorem buildM_node (n : Nat) {rows : List RowM} {r : RowM} {rs : List RowM} {c : CellM} {cs : List CellM} (hr : rows = r :: rs) (h : r.cells = c :: cs) : buildM (n + 1) rows = .node c.path (testsOf c.path rows) ((testsOf c.path rows).map (fun x => buildM n (takeRows c.path x rows)) ++ [buildM n (restRows c.path rows)]) := by
  subst hr
  rw [buildM, h]
theorem cntM_node (n : Nat) {rows : List RowM} {r : RowM} {rs : List RowM} {c : CellM} {cs : List CellM} (hr : rows = r :: rs) (h : r.cells = c :: cs) : cntM (n + 1) rows = 1 + (((testsOf c.path rows).map (fun x => cntM n (takeRows c.path x rows))).sum + cntM n (restRows c.path rows)) := by
  subst hr
  rw [cntM, h]

/-! In memory. -/
theorem rowCells {n : Nat} {w : World} {D : Nat → Prop} {ro : Option Addr} {rows : List RowM} (h : InL 2 (RowIn n) w D ro rows) (i : Nat) (hi : i < rows.length) :
    ∃ b o co ccap, ro = some ⟨b, o, none⟩ ∧ w.cell? ⟨b, o + i * 2, none⟩ = some (.int .i64 rows[i].num) ∧ w.cell? ⟨b, o + i * 2 + 1, none⟩ = some (.slice co rows[i].cells.length ccap) ∧ InL 5 (CellIn n) w D co rows[i].cells ∧ (rows[i].cells.length ≤ ccap ∧ ccap ≤ 9223372036854775807) ∧ b < w.heap.size ∧ D b := by
  obtain ⟨b, o, cs, rfl, ⟨cv, hcs, co, ccap, hcv, h1, h2, h3⟩, hc, hd, hlt⟩ := h.get (elemR n) (by decide) i hi
  subst hcs hcv
  exact ⟨b, o, co, ccap, rfl, by have := hc 0 _ rfl; rwa [Nat.add_zero] at this, by have := hc 1 _ rfl; rwa [← Nat.add_assoc] at this, h3, ⟨h1, h2⟩, hlt, hd⟩
theorem seq_ldPs {o : Oper} {x : Operand} {a : Act} {w : World} (ho : o.op = .load 26 x) {ad : Addr} {v : Value} (hx : a.eval x = .pointer (some ad)) (hc : w.cell? ad = some v) :
    ∀ w', Below w.heap.size w w' → (execOp a.eval o).run Try.prog w' = .ok (.value v) w' := by
  intro w' hb
  have hc' : w'.cell? ad = some v := (World.cell?_of_block (hb.block ad.block (World.block_lt_of_cell? (a := ad) w hc))).trans hc
  have hu := Try.underlying26
  unfold execOp
  simp only [ho, hx]
  go_simp
theorem seq_ldTs {o : Oper} {x : Operand} {a : Act} {w : World} (ho : o.op = .load 27 x) {ad : Addr} {v : Value} (hx : a.eval x = .pointer (some ad)) (hc : w.cell? ad = some v) :
    ∀ w', Below w.heap.size w w' → (execOp a.eval o).run Try.prog w' = .ok (.value v) w' := by
  intro w' hb
  have hc' : w'.cell? ad = some v := (World.cell?_of_block (hb.block ad.block (World.block_lt_of_cell? (a := ad) w hc))).trans hc
  have hu := Try.underlying27
  unfold execOp
  simp only [ho, hx]
  go_simp
theorem infoTree : (Try.prog.info? 29).map (fun i => (i.zero, i.size, i.bytes)) = some (some (.agg #[.bool false, .int .i64 0, .slice none 0 0, .slice none 0 0, .slice none 0 0]), 5, 88) := by kernel_rfl
theorem infoRow : (Try.prog.info? 63).map (fun i => (i.zero, i.size, i.bytes)) = some (some (.agg #[.int .i64 0, .slice none 0 0]), 2, 32) := by kernel_rfl
/-- A tree's cells in a block of its own. -/
def TreeAt (w : World) (g : Nat) (c0 c1 c2 c3 c4 : Value) : Prop := w.heap[g]? = some (.cells #[c0, c1, c2, c3, c4] 29 (0, 0))
theorem TreeAt.cells {w : World} {g : Nat} {c0 c1 c2 c3 c4 : Value} (h : TreeAt w g c0 c1 c2 c3 c4) : w.cell? ⟨g, 0, none⟩ = some c0 ∧ w.cell? ⟨g, 1, none⟩ = some c1 ∧ w.cell? ⟨g, 2, none⟩ = some c2 ∧ w.cell? ⟨g, 3, none⟩ = some c3 ∧ w.cell? ⟨g, 4, none⟩ = some c4 ∧ ∀ j, w.frozen? ⟨g, j, none⟩ = false :=
  ⟨cell_of_row _ _ 0 _ _ (0, 0) h, cell_of_row _ _ 1 _ _ (0, 0) h, cell_of_row _ _ 2 _ _ (0, 0) h, cell_of_row _ _ 3 _ _ (0, 0) h, cell_of_row _ _ 4 _ _ (0, 0) h, fun j => frozen_of_row w _ j _ _ h⟩
theorem TreeAt.keeps {X : Nat → Prop} {w w' : World} {g : Nat} {c0 c1 c2 c3 c4 : Value} (h : TreeAt w g c0 c1 c2 c3 c4) (hk : Keeps X w w') (hX : ¬ X g) : TreeAt w' g c0 c1 c2 c3 c4 :=
  (hk.block g (World.block_lt_of_cell? (a := ⟨g, 0, none⟩) w h.cells.1) hX).trans h
theorem TreeAt.put {w : World} {g : Nat} {c0 c1 c2 c3 c4 : Value} (h : TreeAt w g c0 c1 c2 c3 c4) (d0 d1 d2 d3 d4 : Value) :
    TreeAt (((((w.setCell ⟨g, 0, none⟩ d0).setCell ⟨g, 1, none⟩ d1).setCell ⟨g, 2, none⟩ d2).setCell ⟨g, 3, none⟩ d3).setCell ⟨g, 4, none⟩ d4) g d0 d1 d2 d3 d4 :=
  setCell_row0 4 d4 (setCell_row0 3 d3 (setCell_row0 2 d2 (setCell_row0 1 d1 (setCell_row0 0 d0 h))))
theorem keep5 {X : Nat → Prop} (V : World) {g : Nat} (hX : X g) (v0 v1 v2 v3 v4 : Value) : Keeps X V (((((V.setCell ⟨g, 0, none⟩ v0).setCell ⟨g, 1, none⟩ v1).setCell ⟨g, 2, none⟩ v2).setCell ⟨g, 3, none⟩ v3).setCell ⟨g, 4, none⟩ v4) :=
  Keeps.trans' (keep4 V hX v0 v1 v2 v3) (keep1 _ hX v4)
theorem results_build (tmps : Array Value) (W : World) (g : Nat) (k : Bool) (num : Int) (po to_ ko : Option Addr) (pn pcap tn tcap kn kcap : Nat) (hp : tmps[4]?.getD undef = .pointer (some ⟨g, 0, none⟩)) (hc : TreeAt W g (.bool k) (.int .i64 num) (.slice po pn pcap) (.slice to_ tn tcap) (.slice ko kn kcap)) :
    (results Try.f21 tmps).run Try.prog W = .ok (.agg #[.bool k, .int .i64 num, .slice po pn pcap, .slice to_ tn tcap, .slice ko kn kcap]) W := by
  obtain ⟨c0, c1, c2, c3, c4, _⟩ := hc.cells
  have hu := Try.underlying29
  simp only [results, Try.results21]
  go_simp
/-- The builder's two cells. -/
def BldAt (w : World) (B : Nat) (z : Int) (big : Bool) : Prop := w.heap[B]? = some (.cells #[.int .i64 z, .bool big] 66 (0, 0))
theorem BldAt.cells {w : World} {B : Nat} {z : Int} {big : Bool} (h : BldAt w B z big) : w.cell? ⟨B, 0, none⟩ = some (.int .i64 z) ∧ w.cell? ⟨B, 1, none⟩ = some (.bool big) ∧ ∀ j, w.frozen? ⟨B, j, none⟩ = false :=
  ⟨cell_of_row _ _ 0 _ _ (0, 0) h, cell_of_row _ _ 1 _ _ (0, 0) h, fun j => frozen_of_row w _ j _ _ h⟩
theorem BldAt.lt {w : World} {B : Nat} {z : Int} {big : Bool} (h : BldAt w B z big) : B < w.heap.size := World.block_lt_of_cell? (a := ⟨B, 0, none⟩) w h.cells.1
theorem BldAt.keeps {X : Nat → Prop} {w w' : World} {B : Nat} {z : Int} {big : Bool} (h : BldAt w B z big) (hk : Keeps X w w') (hX : ¬ X B) : BldAt w' B z big := (hk.block B h.lt hX).trans h
theorem BldAt.put0 {w : World} {B : Nat} {z : Int} {big : Bool} (h : BldAt w B z big) (z' : Int) : BldAt (w.setCell ⟨B, 0, none⟩ (.int .i64 z')) B z' big := setCell_row0 0 _ h
theorem BldAt.put1 {w : World} {B : Nat} {z : Int} {big : Bool} (h : BldAt w B z big) (b : Bool) : BldAt (w.setCell ⟨B, 1, none⟩ (.bool b)) B z b := setCell_row0 1 _ h
/-- What a call to build leaves. -/
def Builds (N : Nat) (w : World) (D : Nat → Prop) (B : Nat) (z : Int) (big : Bool) (rows : List RowM) (e : Ending) (w' : World) : Prop :=
  ∃ cs t z' big', e = .returned (.agg cs.toArray) ∧ TreeIn w' (fun b => D b ∨ (w.heap.size ≤ b ∧ b < w'.heap.size)) N cs t ∧ BldAt w' B z' big' ∧ Keeps (fun b => b = B) w w' ∧ (big = true → big' = true) ∧ (big' = false → t = buildM N rows) ∧ (0 ≤ z → z + cntM N rows ≤ 200000 → z' = z + cntM N rows ∧ big' = big)
def BuildOk (N : Nat) : Prop := ∀ (rows : List RowM) (w : World) (D : Nat → Prop) (n B : Nat) (z : Int) (big : Bool) (ro : Option Addr) (rcap : Nat),
  measM rows < N → rows.length ≤ 1000 → (∀ r ∈ rows, Bd r) → BldAt w B z big → InL 2 (RowIn n) w D ro rows → (∀ b, D b → b < w.heap.size) → ¬ D B →
  Calls Try.prog 21 #[.pointer (some ⟨B, 0, none⟩), .slice ro rows.length rcap] w (Builds N w D B z big rows)
/-- What stays while a tree is made: the rows, the place. -/
def Env (n : Nat) (V : World) (D : Nat → Prop) (rows : List RowM) (ro : Option Addr) (path : List Nat) (pv : Value) : Prop := InL 2 (RowIn n) V D ro rows ∧ PathIn V D pv path
theorem Env.keeps {n : Nat} {X : Nat → Prop} {V V' : World} {D : Nat → Prop} {rows : List RowM} {ro : Option Addr} {path : List Nat} {pv : Value} (h : Env n V D rows ro path pv) (hk : Keeps X V V') (hX : ∀ b, D b → ¬ X b) : Env n V' D rows ro path pv := ⟨h.1.keeps (elemR n) hk hX, h.2.keeps hk hX⟩
theorem Env.below {n : Nat} {V V' : World} {D : Nat → Prop} {rows : List RowM} {ro : Option Addr} {path : List Nat} {pv : Value} (h : Env n V D rows ro path pv) (hb : Below V.heap.size V V') : Env n V' D rows ro path pv := h.keeps (Keeps.of_below (X := fun _ => False) hb) fun _ _ h => h
/-- The tests of a tree that is being made, in the block g1. -/
def TestsI (V : World) (g1 : Nat) (pv : Value) (ts : List TestM) (wr : World) : Prop :=
  ∃ to_ tcap, TreeAt wr g1 (.bool false) (.int .i64 0) pv (.slice to_ ts.length tcap) (.slice none 0 0) ∧ OwnL 50 4 TestIn wr V.heap.size (fun _ => False) to_ tcap ts ∧ Keeps (fun b => b = g1 ∨ V.heap.size ≤ b) V wr
theorem TestsI.below {V : World} {g1 : Nat} {pv : Value} {ts : List TestM} {wr w' : World} (h : TestsI V g1 pv ts wr) (hb : Below wr.heap.size wr w') : TestsI V g1 pv ts w' := by
  obtain ⟨to_, tcap, h1, h2, h3⟩ := h
  exact ⟨to_, tcap, h1.keeps (Keeps.of_below (X := fun _ => False) hb) (fun h => h), h2.below elemT hb, h3.trans' (Keeps.of_below hb)⟩
theorem tests_step {V wr wa w5 : World} {g1 : Nat} {pv : Value} {ts ts' : List TestM} {to_ ao5 : Option Addr} {tcap cap5 : Nat} (hT : TreeAt wr g1 (.bool false) (.int .i64 0) pv (.slice to_ ts.length tcap) (.slice none 0 0)) (hk : Keeps (fun b => b = g1 ∨ V.heap.size ≤ b) V wr) (hg : g1 < V.heap.size)
    (hto : ∀ j, blk to_ = some j → V.heap.size ≤ j ∧ j < wr.heap.size) (hb : Below wr.heap.size wr wa) (q1 : OwnL 50 4 TestIn w5 V.heap.size (fun _ => False) ao5 cap5 ts') (q2 : Keeps (fun i => blk to_ = some i) wa w5) :
    w5.cell? ⟨g1, 3, none⟩ = some (.slice to_ ts.length tcap) ∧ w5.frozen? ⟨g1, 3, none⟩ = false ∧ TestsI V g1 pv ts' (w5.setCell ⟨g1, 3, none⟩ (.slice ao5 ts'.length cap5)) := by
  have hk2 : Keeps (fun i => blk to_ = some i) wr w5 := (Keeps.of_below hb).trans' q2
  have hT5 := hT.keeps hk2 (fun h => by have := (hto _ h).1; omega)
  have hk6 : Keeps (fun b => b = g1) w5 (w5.setCell ⟨g1, 3, none⟩ (.slice ao5 ts'.length cap5)) := keep1 (X := fun b => b = g1) _ rfl _
  have hlt := q1.lt
  refine ⟨hT5.cells.2.2.2.1, hT5.cells.2.2.2.2.2 3, ao5, cap5, setCell_row0 3 _ hT5, q1.keeps elemT hk6 (fun _ h => h.elim) (fun j hj h => by have := (hlt j hj).1; omega), (hk.trans' (hk2.mono (fun b _ h => .inr (hto b h).1))).trans' (hk6.mono (fun b _ h => .inl h))⟩
theorem own_dd {α : Type} {e k : Nat} {P : World → (Nat → Prop) → List Value → α → Prop} (E : Elem k P) {w W wx wy : World} {base : Nat} {D : Nat → Prop} {ao ao' : Option Addr} {cap : Nat} {xs : List α} (h : OwnL e k P w base (DD D W wx ao) ao' cap xs) (hs : wx.heap.size ≤ wy.heap.size) : OwnL e k P w base (DD D W wy ao') ao' cap xs := by
  refine h.grow E (Nat.le_refl _) (fun b hb => ?_) (fun j hj hd => ?_)
  · rcases hb with hd | hd
    · exact .inl hd
    · exact .inr ⟨hd.1, by omega, fun h' => h.2 b h' (.inr hd)⟩
  · rcases hd with hd | hd
    · exact h.2 j hj (.inl hd)
    · exact hd.2.2 hj
abbrev TreeP (N : Nat) : World → (Nat → Prop) → List Value → TreeM → Prop := fun w D cs t => TreeIn w D N cs t
theorem TreeIn.val {w : World} {D : Nat → Prop} : ∀ {d : Nat} {cs : List Value} {t : TreeM}, TreeIn w D d cs t → ∃ (k : Bool) (num : Int) (po : Option Addr) (pn pc : Nat) (to_ : Option Addr) (tn tc : Nat) (ko : Option Addr) (kn kc : Nat), cs = [.bool k, .int .i64 num, .slice po pn pc, .slice to_ tn tc, .slice ko kn kc]
  | 0, _, _, h => h.elim
  | _ + 1, _, .leaf k, h => ⟨true, k, none, 0, 0, none, 0, 0, none, 0, 0, h⟩
  | _ + 1, _, .node _ _ _, ⟨_, to_, tcap, ko, kcap, _, e, _, ⟨po, pcap, hp, _⟩, _⟩ => by
    subst hp
    exact ⟨false, 0, po, _, pcap, to_, _, tcap, ko, _, kcap, e⟩
/-- The kids of a tree that is being made. -/
def KidsI (N : Nat) (D : Nat → Prop) (V : World) (g1 : Nat) (pv tv : Value) (kids : List TreeM) (wr : World) : Prop :=
  ∃ ko kcap, TreeAt wr g1 (.bool false) (.int .i64 0) pv tv (.slice ko kids.length kcap) ∧ OwnL 29 5 (TreeP N) wr V.heap.size (DD D V wr ko) ko kcap kids
theorem kids_step {N : Nat} {D : Nat → Prop} {V wr wa wL w6 : World} {g1 B : Nat} {pv tv : Value} {kids kids' : List TreeM} {ko ko6 : Option Addr} {kcap kcap6 : Nat} (hT : TreeAt wr g1 (.bool false) (.int .i64 0) pv tv (.slice ko kids.length kcap)) (hg : g1 < V.heap.size) (hDg : ∀ b, D b → b < g1) (hgB : g1 ≠ B)
    (hko : ∀ j, blk ko = some j → V.heap.size ≤ j ∧ j < wr.heap.size) (hsV : V.heap.size ≤ wr.heap.size) (hk : Keeps (fun b => b = B) wr wL) (hs : wa.heap.size ≤ w6.heap.size) (q1 : OwnL 29 5 (TreeP N) w6 V.heap.size (DD D V wa ko) ko6 kcap6 kids') (q2 : Keeps (fun i => blk ko = some i) wL w6) :
    w6.cell? ⟨g1, 4, none⟩ = some (.slice ko kids.length kcap) ∧ w6.frozen? ⟨g1, 4, none⟩ = false ∧ KidsI N D V g1 pv tv kids' (w6.setCell ⟨g1, 4, none⟩ (.slice ko6 kids'.length kcap6)) ∧ Keeps (fun b => b = g1 ∨ b = B ∨ V.heap.size ≤ b) wr (w6.setCell ⟨g1, 4, none⟩ (.slice ko6 kids'.length kcap6)) := by
  have hk2 : Keeps (fun i => i = B ∨ blk ko = some i) wr w6 := (hk.mono (fun _ _ h => .inl h)).trans' (q2.mono (fun _ _ h => .inr h))
  have hT6 := hT.keeps hk2 (fun h => by
    rcases h with h | h
    · exact hgB h
    · have := (hko _ h).1; omega)
  have hk6 : Keeps (fun b => b = g1) w6 (w6.setCell ⟨g1, 4, none⟩ (.slice ko6 kids'.length kcap6)) := keep1 (X := fun b => b = g1) _ rfl _
  have hlt := q1.lt
  refine ⟨hT6.cells.2.2.2.2.1, hT6.cells.2.2.2.2.2 4, ⟨ko6, kcap6, setCell_row0 4 _ hT6, own_dd (elemTr N) (q1.keeps (elemTr N) hk6 (fun b hb h => ?_) (fun j hj h => by have := (hlt j hj).1; omega)) (by have := hk6.size; omega)⟩, (hk2.mono (fun b _ h => ?_)).trans' (hk6.mono (fun _ _ h => .inl h))⟩
  · rcases hb with hb | hb
    · have := hDg b hb; omega
    · omega
  · rcases h with h | h
    · exact .inr (.inl h)
    · exact .inr (.inr (hko b h).1)
/-- The rows that a question leaves, as they are made. -/
def RowsI (n : Nat) (D : Nat → Prop) (V : World) (v : Value) (l : List RowM) (wj : World) : Prop :=
  ∃ lo lcap, v = .slice lo l.length lcap ∧ OwnL 63 2 (RowIn n) wj V.heap.size (DD D V wj lo) lo lcap l ∧ Below V.heap.size V wj
theorem RowsI.below {n : Nat} {D : Nat → Prop} {V wj w' : World} {v : Value} {l : List RowM} (h : RowsI n D V v l wj) (hb : Below wj.heap.size wj w') : RowsI n D V v l w' := by
  obtain ⟨lo, lcap, h1, h2, h3⟩ := h
  exact ⟨lo, lcap, h1, own_dd (elemR n) (h2.below (elemR n) hb) hb.size, h3.trans (hb.mono h3.size)⟩
theorem rows_step {n : Nat} {D : Nat → Prop} {V wj wL w5 : World} {l5 : List RowM} {lo lo5 : Option Addr} {cap5 : Nat} (hbj : Below V.heap.size V wj) (hlt : ∀ j, blk lo = some j → V.heap.size ≤ j ∧ j < wj.heap.size) (hb : Below wj.heap.size wj wL) (q1 : OwnL 63 2 (RowIn n) w5 V.heap.size (DD D V wL lo) lo5 cap5 l5) (q2 : Keeps (fun i => blk lo = some i) wL w5) : RowsI n D V (.slice lo5 l5.length cap5) l5 w5 :=
  ⟨lo5, cap5, rfl, own_dd (elemR n) q1 q2.size, (hbj.trans (hb.mono hbj.size)).trans (q2.below (fun b hb h => by have := (hlt b h).1; omega) (by have := hbj.size; have := hb.size; omega))⟩
def sumN (N : Nat) (path : List Nat) (rows : List RowM) (ts : List TestM) : Nat := (ts.map fun x => cntM N (takeRows path x rows)).sum
theorem sumN_snoc (N : Nat) (path : List Nat) (rows : List RowM) (ts : List TestM) (x : TestM) : sumN N path rows (ts ++ [x]) = sumN N path rows ts + cntM N (takeRows path x rows) := by simp [sumN]
def KidsR (N : Nat) (path : List Nat) (rows : List RowM) (z : Int) (big : Bool) (ts : List TestM) (kids : List TreeM) (z' : Int) (big' : Bool) : Prop :=
  kids.length = ts.length ∧ (big = true → big' = true) ∧ (big' = false → kids = ts.map fun x => buildM N (takeRows path x rows)) ∧ (0 ≤ z → z + 1 + sumN N path rows ts ≤ 200000 → z' = z + 1 + sumN N path rows ts ∧ big' = big)
theorem KidsR.next {N : Nat} {path : List Nat} {rows : List RowM} {z z' z2 : Int} {big big' big2 : Bool} {ts : List TestM} {kids : List TreeM} {x : TestM} {t : TreeM} (h : KidsR N path rows z big ts kids z' big') (h1 : big' = true → big2 = true) (h2 : big2 = false → t = buildM N (takeRows path x rows)) (h3 : 0 ≤ z' → z' + cntM N (takeRows path x rows) ≤ 200000 → z2 = z' + cntM N (takeRows path x rows) ∧ big2 = big') : KidsR N path rows z big (ts ++ [x]) (kids ++ [t]) z2 big2 := by
  obtain ⟨g1, g2, g3, g4⟩ := h
  refine ⟨by simp [g1], fun hb => h1 (g2 hb), fun hb => ?_, fun h0 hs => ?_⟩
  · have hb' : big' = false := by
      cases big' with
      | false => rfl
      | true => rw [h1 rfl] at hb; cases hb
    rw [g3 hb', h2 hb]
    simp
  · rw [sumN_snoc] at hs ⊢
    obtain ⟨e1, e2⟩ := g4 h0 (by omega)
    obtain ⟨e3, e4⟩ := h3 (by omega) (by omega)
    exact ⟨by omega, e4.trans e2⟩
theorem wrap_next (z : Int) (h0 : 0 ≤ z) (h1 : z ≤ 200000) : wrap64 (z + 1) = z + 1 := by
  unfold wrap64
  omega
set_option maxRecDepth 100000 in
set_option maxHeartbeats 20000000 in
theorem build_step (N : Nat) (ih : BuildOk N) : BuildOk (N + 1) := by
  intro rows w D n B z big ro rcap hm hrl hbd hB hro hD hDB
  obtain ⟨g, hg⟩ : ∃ g, w.heap.size = g := ⟨_, rfl⟩
  obtain ⟨z1, hz1⟩ : ∃ z1, wrap64 (z + 1) = z1 := ⟨_, rfl⟩
  have hbA : Below w.heap.size w (w.alloc (.cells #[.bool false, .int .i64 0, .slice none 0 0, .slice none 0 0, .slice none 0 0] 29)) := (Below.refl _ _).alloc (Nat.le_refl _) _
  have hBA := hB.keeps (Keeps.of_below (X := fun _ => False) hbA) (fun h => h)
  have hTA : TreeAt (w.alloc (.cells #[.bool false, .int .i64 0, .slice none 0 0, .slice none 0 0, .slice none 0 0] 29)) w.heap.size (.bool false) (.int .i64 0) (.slice none 0 0) (.slice none 0 0) (.slice none 0 0) := heap_alloc_new w _
  obtain ⟨W, hW⟩ : ∃ W, (w.alloc (.cells #[.bool false, .int .i64 0, .slice none 0 0, .slice none 0 0, .slice none 0 0] 29)).setCell ⟨B, 0, none⟩ (.int .i64 z1) = W := ⟨_, rfl⟩
  have hBg : B < g := by rw [← hg]; exact hB.lt
  have hkA := keep1 (X := fun b => b = B) (w.alloc (.cells #[.bool false, .int .i64 0, .slice none 0 0, .slice none 0 0, .slice none 0 0] 29)) (g := B) (j := 0) rfl (.int .i64 z1)
  have hkW : Keeps (fun b => b = B) w W := by rw [← hW]; exact (Keeps.of_below hbA).trans' hkA
  have hBW : BldAt W B z1 big := by rw [← hW]; exact hBA.put0 z1
  have hTW : TreeAt W g (.bool false) (.int .i64 0) (.slice none 0 0) (.slice none 0 0) (.slice none 0 0) := by
    rw [← hW, ← hg]
    exact hTA.keeps hkA (by omega)
  have hsW : W.heap.size = g + 1 := by rw [← hW, ← hg]; simp
  obtain ⟨b0, b1, bf⟩ := hBA.cells
  have H := Lib.hid (And.intro hkW (And.intro hBW (And.intro hTW (And.intro hsW (And.intro hD (And.intro hDB (And.intro hro (And.intro hm (And.intro hbd (And.intro hg (And.intro hW hz1)))))))))))
  clear hbA hBA hTA hkA hkW hBW hTW hsW hD hDB hro hm hbd hg hW hz1 hB
  go_enter Try.func21, Try.ntmps21
  go_upto_block 0 with (fail)
  rw [H.out.2.2.2.2.2.2.2.2.2.2.2, H.out.2.2.2.2.2.2.2.2.2.2.1, H.out.2.2.2.2.2.2.2.2.2.1]
  clear b0 b1 bf
  obtain ⟨t0, t1, t2, t3, t4, tf⟩ := H.out.2.2.1.cells
  obtain ⟨b0, b1, bf⟩ := H.out.2.1.cells
  have hkg : ∀ V : World, Keeps (fun b => b = g) W V → Keeps (fun b => b = B) w V := fun V hV => H.out.1.trans hV (fun i hi h => by have := H.out.2.2.2.2.2.2.2.2.2.1; omega)
  have HKG := Lib.hid hkg
  clear hkg
  by_cases hL : rows.length = 0
  · have hd0 : decide ((rows.length : Int) = 0) = true := decide_eq_true (by omega)
    have hb0 : ((rows.length : Int) == 0) = true := by simp [hL]
    have HN := Lib.hid (List.eq_nil_of_length_eq_zero hL)
    clear hL
    go_wp2_with fail
    refine bodyPost_ret (v := .agg #[.bool true, .int .i64 (-1), .slice none 0 0, .slice none 0 0, .slice none 0 0]) (results_build _ _ g true (-1) none none none 0 0 0 0 0 0 (by rfl) (H.out.2.2.1.put _ _ _ _ _)) rfl ⟨_, .leaf (-1), z1, big, rfl, rfl, H.out.2.1.keeps (keep5 (X := fun b => b = g) W rfl _ _ _ _ _) (by omega), HKG.out _ (keep5 (X := fun b => b = g) W rfl _ _ _ _ _), fun h => h, fun _ => ?_, fun h0 h1 => ?_⟩
    · rw [HN.out, buildM]
    · have e : cntM (N + 1) rows = 1 := by rw [HN.out, cntM]
      rw [e] at h1 ⊢
      have h2 : z + ((1 : Nat) : Int) ≤ 200000 := h1
      have h3 : z ≤ 200000 := by omega
      rw [← H.out.2.2.2.2.2.2.2.2.2.2.2, wrap_next z h0 h3]
      exact ⟨rfl, rfl⟩
  have hd0 : decide ((rows.length : Int) = 0) = false := decide_eq_false (by omega)
  have hb0 : ((rows.length : Int) == 0) = false := by rw [beq_eq_false_iff_ne]; omega
  have hL0 : 0 < rows.length := by omega
  clear hL
  obtain ⟨rb, ro0, co, ccap, rfl, r0, r1, hc0, hcc, hrlt, hrD⟩ := rowCells H.out.2.2.2.2.2.2.1 0 hL0
  obtain ⟨r, hr⟩ : ∃ r, rows[0] = r := ⟨_, rfl⟩
  rw [hr] at r0 r1 hc0 hcc
  simp only [Nat.zero_mul, Nat.add_zero] at r0 r1
  have hrs : ∃ rs, rows = r :: rs := by
    cases rows with
    | nil => simp at hL0
    | cons x xs => simp at hr; exact ⟨xs, by rw [hr]⟩
  have hDne : ∀ b, D b → b ≠ B := fun b hb h => H.out.2.2.2.2.2.1 (h ▸ hb)
  have q0 : W.cell? ⟨rb, ro0, none⟩ = some (.int .i64 r.num) := keeps_cell H.out.1 (hDne rb hrD) r0
  have q1 : W.cell? ⟨rb, ro0 + 1, none⟩ = some (.slice co r.cells.length ccap) := keeps_cell H.out.1 (hDne rb hrD) r1
  have HR := Lib.hid (And.intro hr (And.intro hrs (And.intro hDne (And.intro hc0 hcc))))
  have hil : (0 : Int) < (rows.length : Int) := by omega
  clear hr hrs hDne hc0 hcc r0 r1
  by_cases hcl : r.cells.length = 0
  · have hd1 : decide ((r.cells.length : Int) = 0) = true := decide_eq_true (by omega)
    have hb1 : ((r.cells.length : Int) == 0) = true := by simp [hcl]
    have HN := Lib.hid (List.eq_nil_of_length_eq_zero hcl)
    clear hcl
    go_wp2_with fail
    refine bodyPost_ret (v := .agg #[.bool true, .int .i64 r.num, .slice none 0 0, .slice none 0 0, .slice none 0 0]) (results_build _ _ g true r.num none none none 0 0 0 0 0 0 (by rfl) (H.out.2.2.1.put _ _ _ _ _)) rfl ⟨_, .leaf r.num, z1, big, rfl, rfl, H.out.2.1.keeps (keep5 (X := fun b => b = g) W rfl _ _ _ _ _) (by omega), HKG.out _ (keep5 (X := fun b => b = g) W rfl _ _ _ _ _), fun h => h, fun _ => ?_, fun h0 h1 => ?_⟩
    · obtain ⟨rs, hrs⟩ := HR.out.2.1
      rw [hrs, buildM, HN.out]
    · obtain ⟨rs, hrs⟩ := HR.out.2.1
      have e : cntM (N + 1) rows = 1 := by rw [hrs, cntM, HN.out]
      rw [e] at h1 ⊢
      have h2 : z + ((1 : Nat) : Int) ≤ 200000 := h1
      have h3 : z ≤ 200000 := by omega
      rw [← H.out.2.2.2.2.2.2.2.2.2.2.2, wrap_next z h0 h3]
      exact ⟨rfl, rfl⟩
  have hd1 : decide ((r.cells.length : Int) = 0) = false := decide_eq_false (by omega)
  have hb1 : ((r.cells.length : Int) == 0) = false := by rw [beq_eq_false_iff_ne]; omega
  have hC0 : 0 < r.cells.length := by omega
  clear hcl
  by_cases hbig : 200000 < z1
  · have hd2 : decide (200000 < z1) = true := decide_eq_true hbig
    go_wp2_with fail
    refine bodyPost_ret (v := .agg #[.bool true, .int .i64 (-1), .slice none 0 0, .slice none 0 0, .slice none 0 0]) (results_build _ _ g true (-1) none none none 0 0 0 0 0 0 (by rfl) ((H.out.2.2.1.keeps (keep1 (X := fun b => b = B) W rfl _) (by omega)).put _ _ _ _ _)) rfl ⟨_, .leaf (-1), z1, true, rfl, rfl, (H.out.2.1.put1 true).keeps (keep5 (X := fun b => b = g) _ rfl _ _ _ _ _) (by omega), ?_, fun _ => rfl, (fun h => by cases h), fun h0 h1 => ?_⟩
    · exact (H.out.1.trans' (keep1 (X := fun b => b = B) W rfl _)).trans (keep5 (X := fun b => b = g) _ rfl _ _ _ _ _) (fun i hi h => by have := H.out.2.2.2.2.2.2.2.2.2.1; omega)
    · exfalso
      rw [← H.out.2.2.2.2.2.2.2.2.2.2.2, wrap_next z h0 (by omega)] at hbig
      obtain ⟨rs, hrs⟩ := HR.out.2.1
      obtain ⟨c, cs, hcs⟩ : ∃ c cs, r.cells = c :: cs := by
        cases h : r.cells with
        | nil => rw [h] at hC0; simp at hC0
        | cons c cs => exact ⟨c, cs, rfl⟩
      rw [cntM_node N hrs hcs] at h1
      omega
  have hd2 : decide (200000 < z1) = false := decide_eq_false hbig
  have HBG := Lib.hid hbig
  clear hbig
  have hilc : (0 : Int) < (r.cells.length : Int) := by omega
  cases n with
  | zero =>
    obtain ⟨_, _, _, _, ⟨_, _, _, _, hv⟩, _⟩ := HR.out.2.2.2.1.get (elemC _) (by decide) 0 hC0
    exact hv.elim
  | succ n' =>
  obtain ⟨cb, cof, pv, k9, m9, t9, kao9, ks9, kcap9, hco, hx9, hp9, hv9, c0, c1, c2, c3, c4, hcb, hDc⟩ := CellsIn.cells (len := 0) (ccap := 0) HR.out.2.2.2.1 0 hC0
  subst hco
  obtain ⟨path, hpath⟩ : ∃ path, r.cells[0].path = path := ⟨_, rfl⟩
  rw [hpath] at hp9
  simp only [Nat.zero_mul, Nat.add_zero] at c0
  obtain ⟨po, pcap, hpv, _⟩ := id hp9
  subst hpv
  have q2 : W.cell? ⟨cb, cof, none⟩ = some (.slice po path.length pcap) := keeps_cell H.out.1 (HR.out.2.2.1 cb hDc) c0
  have HP := Lib.hid (And.intro hpath hp9)
  clear hpath hp9 hv9 hx9 c0 c1 c2 c3 c4
  go_wp2_with fail
  obtain ⟨V, hV⟩ : ∃ V, W.alloc (.cells #[.bool false, .int .i64 0, .slice po path.length pcap, .slice none 0 0, .slice none 0 0] 29) = V := ⟨_, rfl⟩
  have hbV : Below W.heap.size W V := by rw [← hV]; exact (Below.refl _ _).alloc (Nat.le_refl _) _
  have hTV : TreeAt V (g + 1) (.bool false) (.int .i64 0) (.slice po path.length pcap) (.slice none 0 0) (.slice none 0 0) := by
    rw [← hV, ← H.out.2.2.2.1]
    exact heap_alloc_new W _
  have hsV : V.heap.size = g + 2 := by rw [← hV]; simp; exact H.out.2.2.2.1
  have hkV : Keeps (fun b => b = B) w V := H.out.1.trans' (Keeps.of_below hbV)
  have hEV : Env (n' + 1) V D rows (some ⟨rb, ro0, none⟩) path (.slice po path.length pcap) := ⟨H.out.2.2.2.2.2.2.1.keeps (elemR _) hkV HR.out.2.2.1, HP.out.2.keeps hkV HR.out.2.2.1⟩
  have hDg : ∀ b, D b → b < g ∧ b ≠ B := fun b hb => ⟨by have := H.out.2.2.2.2.1 b hb; have := H.out.2.2.2.2.2.2.2.2.2.1; omega, HR.out.2.2.1 b hb⟩
  have hwg : W.heap.size = g + 1 := H.out.2.2.2.1
  rw [hV, hwg]
  have HV := Lib.hid (And.intro (H.out.2.1.keeps (Keeps.of_below (X := fun _ => False) hbV) (fun h => h)) (And.intro hTV (And.intro hsV (And.intro hkV (And.intro hEV (And.intro hDg (H.out.2.2.1.keeps (Keeps.of_below (X := fun _ => False) hbV) (fun h => h))))))))
  have hgV : g + 2 ≤ V.heap.size := by omega
  clear hV hbV hTV hsV hkV hEV hDg hwg t0 t1 t2 t3 t4 tf b0 b1 bf q0 q1 q2 hrD hrlt hcb hDc hilc hd1 hb1 hd2
  go_loopw [68] (fun v68 wr => ∃ i : Nat, i ≤ rows.length ∧ v68 = .int .i64 (i : Int) ∧ TestsI V (g + 1) (.slice po path.length pcap) (testsOf path (rows.take i)) wr) (fun v68 _ => rows.length - (intOf v68).toNat)
  case atStart => exact ⟨0, by omega, rfl, none, 0, HV.out.2.1, OwnL.nil _ _ _, Keeps.refl _ _⟩
  case round =>
    obtain ⟨i, hi, rfl, hI⟩ := hrel
    obtain ⟨ts, hts⟩ : ∃ ts, testsOf path (rows.take i) = ts := ⟨_, rfl⟩
    rw [hts] at hI
    have htl : ts.length ≤ 1000 := by rw [← hts]; have := testsOf_le path (rows.take i); rw [List.length_take] at this; omega
    have HI := Lib.hid (And.intro hI hts)
    obtain ⟨to_, tcap, hT, hown, hk⟩ := hI
    have hsk := hk.size
    have hE := HV.out.2.2.2.2.1.keeps hk (fun b hb h => by have := (HV.out.2.2.2.2.2.1 b hb).1; omega)
    by_cases hlt : i < rows.length
    · have hdi : decide ((i : Int) < (rows.length : Int)) = true := decide_eq_true (by omega)
      obtain ⟨rb2, rof, co2, ccap2, hro2, r0, r1, hc2, hcc2, hrlt2, hrD2⟩ := rowCells hE.1 i hlt
      simp only [Option.some.injEq, Addr.mk.injEq, and_true] at hro2
      obtain ⟨rfl, rfl⟩ := hro2
      obtain ⟨ri, hri⟩ : ∃ ri, rows[i] = ri := ⟨_, rfl⟩
      have hbdi := H.out.2.2.2.2.2.2.2.2.1 _ (List.getElem_mem hlt)
      rw [hri] at r0 r1 hc2 hcc2 hbdi
      have hnx : testsOf path (rows.take (i + 1)) = addTest path ts ri := by rw [List.take_succ_eq_append_getElem hlt, testsOf_snoc, HI.out.2, hri]
      have hbA : Below wr.heap.size wr (wr.alloc (.cells #[.int .i64 ri.num, .slice co2 ri.cells.length ccap2] 63)) := (Below.refl _ _).alloc (Nat.le_refl _) _
      have hat := at_any (ccap := ccap2) (hc2.below (elemC _) hbA) (by have := cells_le_size ri.cells; have := hbdi.1; omega) (fun c hc => by have := hbdi.2 c hc; omega) (hE.2.below hbA)
      have HA := Lib.hid (And.intro hat (And.intro hbA (And.intro hnx (And.intro hT (And.intro hown (And.intro hk hown.lt))))))
      have HRI := Lib.hid hri
      clear hat hbA hnx hT hown hk hE hc2 hcc2 hbdi hri hts
      go_wp2_with fail
      refine HA.out.1.mono ?_
      rintro e w2 ⟨hb2, hres⟩
      have hb12 : Below wr.heap.size wr w2 := HA.out.2.1.trans (hb2.mono HA.out.2.1.size)
      have hs2 := hb2.size
      have hs12 := hb12.size
      rcases hres with ⟨p, pc, hat, rfl, hvp⟩ | ⟨hat, rfl⟩
      · obtain ⟨k, m, t, ks⟩ := p
        obtain ⟨kao, kcap, hpcv, hpce, _, _, _⟩ := hvp.val
        rw [hpcv]
        have hkl : ks.length ≤ 1000000 := by
          obtain ⟨cc, hcm, _, hcp⟩ := atR_some hat
          have h1 := HA.out.2.2.2.2.2.2
          have h2 := H.out.2.2.2.2.2.2.2.2.1 _ (List.getElem_mem hlt)
          rw [HRI.out] at h2
          have h3 := h2.2 cc hcm
          rw [hcp] at h3
          have h4 := sizeV_kids (.mk k m t ks)
          have h5 := kids_le ks
          simp only [PV.kids] at h4
          omega
        unfold patV
        have hbP : Below w2.heap.size w2 (w2.alloc (.cells #[.int .i64 k, .int .i64 m, .string ⟨t.toArray⟩, .slice kao ks.length kcap] 50)) := (Below.refl _ _).alloc (Nat.le_refl _) _
        have hb1P : Below wr.heap.size wr (w2.alloc (.cells #[.int .i64 k, .int .i64 m, .string ⟨t.toArray⟩, .slice kao ks.length kcap] 50)) := hb12.trans (hbP.mono hs12)
        have hTP := HA.out.2.2.2.1.keeps (Keeps.of_below (X := fun _ => False) hb1P) (fun h => h)
        have hcon := containsT_any ts to_ tcap w2.heap.size k m t kao ks.length kcap (by omega) (by omega) _ _ ((HA.out.2.2.2.2.1.inl elemT (by decide)).below elemT hb1P) (PatAt.new w2 k m t kao ks.length kcap 50)
        obtain ⟨x, hx⟩ : ∃ x, testK k m t ks.length = x := ⟨_, rfl⟩
        rw [hx] at hcon
        obtain ⟨t0, t1, t2, t3, t4, tf⟩ := hTP.cells
        have HP2 := Lib.hid (And.intro hcon (And.intro hTP (And.intro hb1P (And.intro (PatAt.new w2 k m t kao ks.length kcap 50) (And.intro hat hx)))))
        clear hcon hTP hb1P hbP hat hvp hpcv hpce hx hb2 hb12
        have hmf : ∀ (fn : Fn) (first cap : Array Value) (w : World), (Instr.makeFunc fn first cap).run Try.prog w = .ok (.func fn first cap) w := fun _ _ _ _ => rfl
        go_wp2_with fail
        refine HP2.out.1.mono ?_
        rintro e w3 ⟨rfl, hb3⟩
        have hb13 : Below wr.heap.size wr w3 := HP2.out.2.2.1.trans (hb3.mono HP2.out.2.2.1.size)
        have HP3 := Lib.hid (And.intro hb13 (HP2.out.2.2.2.1.below hb3))
        clear t0 t1 t2 t3 t4 tf hb3 hb13
        by_cases hin : x ∈ ts
        · rw [decide_eq_true hin]
          have HN := Lib.hid (show testsOf path (rows.take (i + 1)) = ts by rw [HA.out.2.2.1]; unfold addTest; rw [HP2.out.2.2.2.2.1]; simp only; rw [testP_mk, HP2.out.2.2.2.2.2, if_pos hin])
          clear hin
          go_wp2_with fail
          go_roundw
          case rel => exact ⟨i + 1, by omega, by simp, by rw [HN.out]; exact HI.out.1.below HP3.out.1⟩
          case measure => simp [intOf]; omega
        · rw [decide_eq_false hin]
          have HN := Lib.hid (show testsOf path (rows.take (i + 1)) = ts ++ [x] by rw [HA.out.2.2.1]; unfold addTest; rw [HP2.out.2.2.2.2.1]; simp only; rw [testP_mk, HP2.out.2.2.2.2.2, if_neg hin])
          clear hin
          obtain ⟨t0, t1, t2, t3, t4, tf⟩ := (HA.out.2.2.2.1.keeps (Keeps.of_below (X := fun _ => False) HP3.out.1) (fun h => h)).cells
          have ht := test_any k m t kao ks.length kcap (by omega)
          rw [HP2.out.2.2.2.2.2] at ht
          have HT := Lib.hid ht
          clear ht
          go_wp2_with fail
          refine seqk_start (fun b => blk to_ = some b ∨ w3.heap.size ≤ b) [7] (by kernel_rfl) ?_
          refine seqk_take 0 (v := ?_) rfl (by kernel_rfl) (fun _ _ _ h => h) (by rfl) (fun w' hw' => ?_) ?_
          rotate_left
          · go_simp; try with_reducible rfl
          try simp only [List.getElem_toArray, List.getElem_cons_succ, List.getElem_cons_zero, Act.put, List.setIfInBounds_toArray, List.set_cons_zero, List.set_cons_succ]
          refine seqk_take 1 rfl (by kernel_rfl) (fun _ _ _ h => h) (by rfl) (fun w' hw' => (seq_ldPs rfl rfl (keeps_cell hw' (by intro h; rcases h with h | h; (have h2 : wr.heap.size > g + 1 := (HA.out.2.2.2.2.2.2 _ h).2; have h3 : V.heap.size ≤ g + 1 := (HA.out.2.2.2.2.2.2 _ h).1; omega); (have h2 : w3.heap.size ≤ g + 1 := h; have := HP3.out.1.size; omega)) (t3))) w' (Below.refl _ _)) ?_
          try simp only [List.getElem_toArray, List.getElem_cons_succ, List.getElem_cons_zero, Act.put, List.setIfInBounds_toArray, List.set_cons_zero, List.set_cons_succ]
          refine seqk_take 2 rfl (by kernel_rfl) (fun _ _ _ h => h) (by rfl) (fun w' hw' => (seq_ldPat rfl rfl ((show PatAt w3.drew w2.heap.size k m t kao ks.length kcap from HP3.out.2).keeps hw' (fun hx => by rcases hx with h | h; (have h2 : w2.heap.size < wr.heap.size := (HA.out.2.2.2.2.2.2 _ h).2; omega); (have := HP3.out.2.lt; omega)))) w' (Below.refl _ _)) ?_
          try simp only [List.getElem_toArray, List.getElem_cons_succ, List.getElem_cons_zero, Act.put, List.setIfInBounds_toArray, List.set_cons_zero, List.set_cons_succ]
          refine seqk_run 3 rfl (by kernel_rfl) (by rfl) (fun KK hKK => ?_)
          go_wp2_with fail
          refine (HT.out _).mono ?_
          rintro e w4 ⟨⟨ko4, kc4, rfl⟩, hb4⟩
          simp only [World.size_drew] at hb4
          have HB4 := Lib.hid (show Below w3.heap.size w3 w4 from (Below.refl _ w3).drew.trans hb4)
          have HK4 := Lib.hid (show Keeps (fun b => blk to_ = some b ∨ w3.heap.size ≤ b) w3.drew w4 from Keeps.of_below (by simpa using hb4))
          clear hb4 t0 t1 t2 t3 t4 tf
          unfold patV
          go_wp2_with fail
          refine ⟨HK4.out, ?_⟩
          refine seqk_run 4 rfl (by kernel_rfl) (by rfl) (fun KK hKK => ?_)
          go_wp2_with fail
          refine ⟨Keeps.alloc _ _ _, ?_⟩
          have hbL : Below wr.heap.size wr (w4.alloc (.cells #[.int .i64 x.op, .int .i64 x.num, .string ⟨x.text.toArray⟩, .slice ko4 x.n kc4] 50)) := (HP3.out.1.trans (HB4.out.mono HP3.out.1.size)).alloc (by have := HB4.out.size; have := HP3.out.1.size; omega) _
          have HBL := Lib.hid hbL
          clear hbL
          obtain ⟨i0, hi0, hz0, hz1', hz2⟩ := info_parts infoPat
          refine seqk_run 5 rfl (by kernel_rfl) (by rfl) (fun KK hKK => ?_)
          refine wp_own elemT (by decide) _ _ 26 rfl i0 _ 56 Try.underlying26 hi0 hz0 hz1' hz2 rfl (by decide) V.heap.size (fun _ => False) to_ tcap ts.length ts rfl (by rfl) (HA.out.2.2.2.2.1.below elemT HBL.out) [.int .i64 x.op, .int .i64 x.num, .string ⟨x.text.toArray⟩, .slice ko4 x.n kc4] x ⟨ko4, kc4, rfl⟩ w4.heap.size (by rfl) (At.new w4 #[.int .i64 x.op, .int .i64 x.num, .string ⟨x.text.toArray⟩, .slice ko4 x.n kc4] _) (fun _ h => h.elim) (by omega) (by have := HBL.out.size; omega) ?_
          intro ao5 cap5 w5 q1 q2 q3
          refine hKK _ _ ⟨q2.mono (fun b _ h => .inl h), ?_⟩
          have HS5 := Lib.hid (tests_step HA.out.2.2.2.1 HA.out.2.2.2.2.2.1 (by omega) HA.out.2.2.2.2.2.2 HBL.out q1 q2)
          rw [List.length_append, List.length_singleton] at HS5
          have r1 : w5.cell? ⟨g + 1, 3, none⟩ = some (.slice to_ ts.length tcap) := HS5.out.1
          have r2 : w5.frozen? ⟨g + 1, 3, none⟩ = false := HS5.out.2.1
          clear q1 q2 q3
          refine seqk_take 6 (v := ?_) rfl (by kernel_rfl) (fun _ _ _ h => h) (by rfl) (fun w' hw' => ?_) ?_
          rotate_left
          · go_simp; try with_reducible rfl
          try simp only [List.getElem_toArray, List.getElem_cons_succ, List.getElem_cons_zero, Act.put, List.setIfInBounds_toArray, List.set_cons_zero, List.set_cons_succ]
          refine seqk_last 7 rfl (by kernel_rfl) (by kernel_rfl) (by rfl) (fun KK hKK => ?_)
          go_wp2_with fail
          refine seql_done (by kernel_rfl) ?_
          go_wp2_with fail
          go_roundw
          case rel => exact ⟨i + 1, by omega, by simp, by rw [HN.out]; exact HS5.out.2.2⟩
          case measure => simp [intOf]; omega
      · have HN := Lib.hid (show testsOf path (rows.take (i + 1)) = ts by rw [HA.out.2.2.1]; unfold addTest; rw [hat])
        have hbP : Below w2.heap.size w2 (w2.alloc (.cells #[.int .i64 0, .int .i64 0, .string ⟨([] : List UInt8).toArray⟩, .slice none 0 0] 50)) := (Below.refl _ _).alloc (Nat.le_refl _) _
        have HB2 := Lib.hid (hb12.trans (hbP.mono hs12))
        unfold patV
        clear hat hbP hb2 hb12
        go_wp2_with fail
        go_roundw
        case rel => exact ⟨i + 1, by omega, by simp, by rw [HN.out]; exact HI.out.1.below HB2.out⟩
        case measure => simp [intOf]; omega
    · obtain rfl : i = rows.length := by omega
      have hdi : decide ((rows.length : Int) < (rows.length : Int)) = false := decide_eq_false (by omega)
      rw [List.take_of_length_le (Nat.le_refl _)] at hts
      obtain ⟨V2, hV2⟩ : ∃ V2, wr = V2 := ⟨_, rfl⟩
      rw [hV2] at hT hown hk hsk
      have hcap := hown.cap_le
      have hKV2 : Keeps (fun b => b = B) w V2 := HV.out.2.2.2.1.trans hk (fun b hb h => by have := H.out.2.2.2.2.2.2.2.2.2.1; omega)
      have HL1 := Lib.hid (And.intro hT (And.intro ((hown.inl elemT (by decide)).there elemT (by decide)) (And.intro hKV2 (And.intro (HV.out.2.2.2.2.1.keeps hk (fun b hb h => by have := (HV.out.2.2.2.2.2.1 b hb).1; omega)) (And.intro (HV.out.1.keeps hk (fun h => by omega)) (And.intro hts (And.intro hown.lt (And.intro hcap (HV.out.2.2.2.2.2.2.keeps hk (fun h => by omega))))))))))
      obtain ⟨t0, t1, t2, t3, t4, tf⟩ := hT.cells
      rw [hV2]
      clear hT hown hk hE hts hKV2 hV2 HI
      go_wp2_with fail
      go_loopw [97] (fun v97 wr => ∃ (i : Nat) (kids : List TreeM) (z' : Int) (big' : Bool), i ≤ ts.length ∧ v97 = .int .i64 (i : Int) ∧ KidsI N D V2 (g + 1) (.slice po path.length pcap) (.slice to_ ts.length tcap) kids wr ∧ BldAt wr B z' big' ∧ Keeps (fun b => b = g + 1 ∨ b = B ∨ V2.heap.size ≤ b) V2 wr ∧ KidsR N path rows z big (ts.take i) kids z' big') (fun v97 _ => ts.length - (intOf v97).toNat)
      case atStart =>
        refine ⟨0, [], z1, big, by omega, rfl, ⟨none, 0, HL1.out.1, OwnL.nil _ _ _⟩, HL1.out.2.2.2.2.1, Keeps.refl _ _, rfl, fun h => h, fun _ => rfl, fun h0 h1 => ?_⟩
        have h2 : z + 1 + ((sumN N path rows (ts.take 0) : Nat) : Int) ≤ 200000 := h1
        rw [← H.out.2.2.2.2.2.2.2.2.2.2.2, wrap_next z h0 (by omega)]
        exact ⟨by simp [sumN], rfl⟩
      case round =>
        obtain ⟨i, kids, z', big', hi2, rfl, hK, hBr, hkr, hR⟩ := hrel
        have HK := Lib.hid (And.intro hK (And.intro hBr (And.intro hkr hR)))
        have hskr := hkr.size
        by_cases hlt : i < ts.length
        · have hdi2 : decide ((i : Int) < (ts.length : Int)) = true := decide_eq_true (by omega)
          obtain ⟨wo, hwo⟩ : ∃ wo : World, wo = wr := ⟨_, rfl⟩
          subst hwo
          have hEo := HL1.out.2.2.2.1.keeps hkr (fun b hb h => by have := HV.out.2.2.2.2.2.1 b hb; omega)
          obtain ⟨tb, tof, xo, xcap, hto2, e0, e1, e2, e3, htb⟩ := testCells (HL1.out.2.1.keeps elemT hkr (fun b hb h => by
            have h1 := hb.2
            rcases hb.1 with h2 | h2
            · exact h2
            · have h3 : V.heap.size ≤ b := (HL1.out.2.2.2.2.2.2.1 b h2).1
              omega)) i hlt
          obtain ⟨x, hx⟩ : ∃ x, ts[i] = x := ⟨_, rfl⟩
          rw [hx] at e0 e1 e2 e3
          subst hto2
          obtain ⟨V3, hV3⟩ : ∃ V3, wo.alloc (.cells #[.int .i64 x.op, .int .i64 x.num, .string ⟨x.text.toArray⟩, .slice xo x.n xcap] 50) = V3 := ⟨_, rfl⟩
          have hb3 : Below wo.heap.size wo V3 := by rw [← hV3]; exact (Below.refl _ _).alloc (Nat.le_refl _) _
          have hp3 : PatAt V3 wo.heap.size x.op x.num x.text xo x.n xcap := by rw [← hV3]; exact PatAt.new wo x.op x.num x.text xo x.n xcap _
          have hs3 := hb3.size
          have HV3 := Lib.hid (And.intro hV3 (And.intro hb3 (And.intro hp3 (And.intro (hEo.below hb3) hx))))
          have hmm : x ∈ testsOf path rows := by rw [HL1.out.2.2.2.2.2.1, ← hx]; exact List.getElem_mem hlt
          have HMX := Lib.hid hmm
          clear hV3 hb3 hp3 hEo hK hBr hkr hR hx hmm t0 t1 t2 t3 t4 tf
          go_upto_block 5 with (fail)
          rw [HV3.out.1]
          clear e0 e1 e2 e3 htb
          go_wp2_with fail
          go_loopw [13, 103] (fun v13 v103 wj => ∃ j : Nat, j ≤ rows.length ∧ v103 = .int .i64 (j : Int) ∧ RowsI (n' + 1) D V3 v13 (takeRows path x (rows.take j)) wj) (fun _ v103 _ => rows.length - (intOf v103).toNat)
          case atStart => exact ⟨0, by omega, rfl, none, 0, rfl, OwnL.nil _ _ _, Below.refl _ _⟩
          case round =>
            obtain ⟨j, hj, rfl, hRI⟩ := hrel
            have HRI := Lib.hid hRI
            obtain ⟨l, hl⟩ : ∃ l, takeRows path x (rows.take j) = l := ⟨_, rfl⟩
            rw [hl] at hRI
            obtain ⟨lo, lcap, rfl, hown, hbj⟩ := hRI
            have hsj := hbj.size
            have hll : l.length ≤ 1000 := by rw [← hl]; have := takeRows_le path x (rows.take j); rw [List.length_take] at this; omega
            by_cases hjl : j < rows.length
            · have hdj : decide ((j : Int) < (rows.length : Int)) = true := decide_eq_true (by omega)
              obtain ⟨rb2, rof, co2, ccap2, hro2, r0, r1, hc2, hcc2, hrlt2, hrD2⟩ := rowCells (HV3.out.2.2.2.1.below hbj).1 j hjl
              simp only [Option.some.injEq, Addr.mk.injEq, and_true] at hro2
              obtain ⟨rfl, rfl⟩ := hro2
              obtain ⟨rj, hrj⟩ : ∃ rj, rows[j] = rj := ⟨_, rfl⟩
              have hbdj := H.out.2.2.2.2.2.2.2.2.1 _ (List.getElem_mem hjl)
              rw [hrj] at r0 r1 hc2 hcc2 hbdj
              have hnx : takeRows path x (rows.take (j + 1)) = l ++ (match takeC path x rj.cells with | some l => [⟨rj.num, l⟩] | none => []) := by rw [List.take_succ_eq_append_getElem hjl, takeRows_snoc, hl, hrj]
              have hbA : Below wr.heap.size wr (wr.alloc (.cells #[.int .i64 rj.num, .slice co2 rj.cells.length ccap2] 63)) := (Below.refl _ _).alloc (Nat.le_refl _) _
              have hta := take_any (ccap := ccap2) (hc2.below (elemC _) hbA) (fun b hb => by have := (HV.out.2.2.2.2.2.1 b hb).1; have := hbA.size; omega) hbdj.1 hbdj.2 ((HV3.out.2.2.2.1.below hbj).2.below hbA) (by have h1 := H.out.2.2.2.2.2.2.2.2.1 _ (List.getElem_mem hL0); rw [HR.out.1] at h1; have h2 := h1.2 _ (List.getElem_mem hC0); rw [HP.out.1] at h2; omega) x xo xcap
              unfold patV at hta
              obtain ⟨c0, c1, c2, c3⟩ := (HV3.out.2.2.1.below hbj).below hbA
              have HA := Lib.hid (And.intro hta (And.intro hbA (And.intro hnx (And.intro hown (And.intro hbj hown.lt)))))
              clear hta hbA hnx hown hbj hc2 hcc2 hbdj hl
              go_wp2_with fail
              refine HA.out.1.mono ?_
              rintro e w2 ⟨hb2, hres⟩
              have hb12 : Below wr.heap.size wr w2 := HA.out.2.1.trans (hb2.mono HA.out.2.1.size)
              have hs2 := hb2.size
              have hs12 := hb12.size
              clear c0 c1 c2 c3
              rcases hres with ⟨l', cv, htk, rfl, hcv⟩ | ⟨htk, rfl⟩
              · obtain ⟨co3, ccap3, hcve, hcl3, hcc3, hci3⟩ := id hcv
                subst hcve
                have HN := Lib.hid (show takeRows path x (rows.take (j + 1)) = l ++ [⟨rj.num, l'⟩] by rw [HA.out.2.2.1, htk])
                have hbL : Below w2.heap.size w2 ((w2.alloc (.cells #[.int .i64 rj.num, .slice co3 l'.length ccap3] 63)).alloc (.cells #[.int .i64 rj.num, .slice co3 l'.length ccap3] 63)) := ((Below.refl _ _).alloc (Nat.le_refl _) _).alloc (by simp) _
                have HB := Lib.hid (And.intro hbL (And.intro (hb12.trans (hbL.mono hs12)) (And.intro hcv (show w2.heap.size + 2 = ((w2.alloc (.cells #[.int .i64 rj.num, .slice co3 l'.length ccap3] 63)).alloc (.cells #[.int .i64 rj.num, .slice co3 l'.length ccap3] 63)).heap.size by simp))))
                obtain ⟨i0, hi0, hz0, hz1', hz2⟩ := info_parts infoRow
                clear hb2 hb12 htk hcv hbL hcl3 hcc3 hci3
                go_wp2_with (refine app_own (elemR (n' + 1)) (by decide) rfl _ _ 58 rfl i0 _ 32 Try.underlying58 hi0 hz0 hz1' hz2 rfl (by decide) V3.heap.size (DD D V3 ((w2.alloc (.cells #[.int .i64 rj.num, .slice co3 l'.length ccap3] 63)).alloc (.cells #[.int .i64 rj.num, .slice co3 l'.length ccap3] 63)) lo) lo lcap l.length l rfl rfl (own_dd (elemR _) (HA.out.2.2.2.1.below (elemR _) HB.out.2.1) HB.out.2.1.size) [.int .i64 rj.num, .slice co3 l'.length ccap3] ⟨rj.num, l'⟩ ⟨_, rfl, (HB.out.2.2.1.below HB.out.1).mono (fun b hb => by rcases hb with h | h; exact .inl h; exact .inr ⟨by have := HA.out.2.2.2.2.1.size; have h3 := h.1; rw [World.size_alloc] at h3; omega, by have := HB.out.2.2.2; have := h.2; omega, fun h' => by have h4 := (HA.out.2.2.2.2.2 b h').2; have h3 := h.1; rw [World.size_alloc] at h3; omega⟩)⟩ (w2.heap.size + 1) rfl (At.newk (w2.alloc (.cells #[.int .i64 rj.num, .slice co3 l'.length ccap3] 63)) #[.int .i64 rj.num, .slice co3 l'.length ccap3] _ (0, 0) (by simp)) (fun b hb => by rcases hb with h | h; (have := (HV.out.2.2.2.2.2.1 b h).1; have := HB.out.2.2.2; omega); exact h.2.1) (by omega) (by have := HB.out.2.2.2; omega) ?_; rintro lo5 lcap5 w5 q1 q2 q3; have HS5 := Lib.hid (rows_step HA.out.2.2.2.2.1 HA.out.2.2.2.2.2 HB.out.2.1 q1 q2); clear q1 q2 q3)
                go_roundw
                case rel => exact ⟨j + 1, by omega, by simp, by rw [HN.out]; have := HS5.out; rw [List.length_append] at this; exact this⟩
                case measure => simp [intOf]; omega
              · have HN := Lib.hid (show takeRows path x (rows.take (j + 1)) = l by rw [HA.out.2.2.1, htk, List.append_nil])
                have hbP : Below w2.heap.size w2 (w2.alloc (.cells #[.int .i64 0, .slice none 0 0] 63)) := (Below.refl _ _).alloc (Nat.le_refl _) _
                have HRI2 := Lib.hid (show RowsI (n' + 1) D V3 (.slice lo l.length lcap) l (w2.alloc (.cells #[.int .i64 0, .slice none 0 0] 63)) from RowsI.below ⟨lo, lcap, rfl, HA.out.2.2.2.1, HA.out.2.2.2.2.1⟩ (hb12.trans (hbP.mono hs12)))
                clear hb2 hb12 htk hbP
                go_wp2_with fail
                go_roundw
                case rel => exact ⟨j + 1, by omega, by simp, by rw [HN.out]; exact HRI2.out⟩
                case measure => simp [intOf]; omega
            · obtain rfl : j = rows.length := by omega
              have hdj : decide ((rows.length : Int) < (rows.length : Int)) = false := decide_eq_false (by omega)
              rw [List.take_of_length_le (Nat.le_refl _)] at hl
              obtain ⟨V4, hV4⟩ : ∃ V4, wr = V4 := ⟨_, rfl⟩
              rw [hV4] at hown hbj hsj ⊢
              have hbo4 : Below wo.heap.size wo V4 := HV3.out.2.1.trans (hbj.mono hs3)
              obtain ⟨ko, kcap, hT, hownK⟩ := HK.out.1
              have hkolt := hownK.lt
              have t4 := (hT.keeps (Keeps.of_below (X := fun _ => False) hbo4) (fun h => h)).cells.2.2.2.2.1
              have hkl : kids.length ≤ 1000 := by rw [HK.out.2.2.2.1, List.length_take]; omega
              have hB4 : BldAt V4.drew B z' big' := HK.out.2.1.keeps (Keeps.of_below (X := fun _ => False) hbo4.drew) (fun h => h)
              have hlolt := hown.lt
              have hcall := ih l V4.drew (fun b => DD D V3 V4 lo b ∨ blk lo = some b) (n' + 1) B z' big' lo lcap (by
                have h1 := take_lt HMX.out
                have h2 := H.out.2.2.2.2.2.2.2.1
                rw [← hl]
                omega) hll (by rw [← hl]; exact takeRows_bd H.out.2.2.2.2.2.2.2.2.1) hB4 ((hown.inl (elemR _) (by decide)).below (elemR _) ((Below.refl _ _).drew)) (fun b hb => by
                rcases hb with (hb | hb) | hb
                · have := (HV.out.2.2.2.2.2.1 b hb).1; simp; omega
                · simp; exact hb.2.1
                · have := (hlolt b hb).2; simp; exact this) (fun hb => by
                rcases hb with (hb | hb) | hb
                · exact (HV.out.2.2.2.2.2.1 B hb).2 rfl
                · omega
                · have := (hlolt B hb).1; omega)
              have HC := Lib.hid (And.intro hcall (And.intro hbo4 (And.intro hT (And.intro hownK (And.intro hkolt (And.intro hlolt hl))))))
              clear hcall hbo4 hT hownK hB4 hown hbj hV4 hl HRI
              go_wp2_with fail
              refine seqk_start (fun b => b = B ∨ blk ko = some b ∨ V4.heap.size ≤ b) [8] (by kernel_rfl) ?_
              refine seqk_take 0 (v := ?_) rfl (by kernel_rfl) (fun _ _ _ h => h) (by rfl) (fun w' hw' => ?_) ?_
              rotate_left
              · go_simp; try with_reducible rfl
              try simp only [List.getElem_toArray, List.getElem_cons_succ, List.getElem_cons_zero, Act.put, List.setIfInBounds_toArray, List.set_cons_zero, List.set_cons_succ]
              refine seqk_take 1 rfl (by kernel_rfl) (fun _ _ _ h => h) (by rfl) (fun w' hw' => (seq_ldTs rfl rfl (keeps_cell hw' (by intro h; rcases h with h | h | h; (have h2 : g + 1 = B := h; omega); (have h2 : V2.heap.size ≤ g + 1 := (hkolt _ h).1; omega); (have h2 : V4.heap.size ≤ g + 1 := h; omega)) (t4))) w' (Below.refl _ _)) ?_
              try simp only [List.getElem_toArray, List.getElem_cons_succ, List.getElem_cons_zero, Act.put, List.setIfInBounds_toArray, List.set_cons_zero, List.set_cons_succ]
              refine seqk_take 2 (v := ?_) rfl (by kernel_rfl) (fun _ _ _ h => h) (by rfl) (fun w' hw' => ?_) ?_
              rotate_left
              · go_simp; try with_reducible rfl
              try simp only [List.getElem_toArray, List.getElem_cons_succ, List.getElem_cons_zero, Act.put, List.setIfInBounds_toArray, List.set_cons_zero, List.set_cons_succ]
              refine seqk_take 3 (v := ?_) rfl (by kernel_rfl) (fun _ _ _ h => h) (by rfl) (fun w' hw' => ?_) ?_
              rotate_left
              · go_simp; try with_reducible rfl
              try simp only [List.getElem_toArray, List.getElem_cons_succ, List.getElem_cons_zero, Act.put, List.setIfInBounds_toArray, List.set_cons_zero, List.set_cons_succ]
              refine seqk_run 4 rfl (by kernel_rfl) (by rfl) (fun KK hKK => ?_)
              go_wp2_with fail
              refine HC.out.1.mono ?_
              rintro e w5 ⟨cs, t, z2, big2, rfl, ht, hB5, hk5, h1, h2, h3⟩
              obtain ⟨y0, y1, y2o, y2n, y2c, y3o, y3n, y3c, y4o, y4n, y4c, rfl⟩ := ht.val
              simp only [World.size_drew] at ht
              have hs5 := hk5.size
              have hk45 : Keeps (fun b => b = B) V4 w5 := (Keeps.of_below ((Below.refl _ _).drew)).trans' hk5
              have HR5 := Lib.hid (And.intro ht (And.intro hB5 (And.intro hk5 (And.intro hk45 (And.intro h1 (And.intro h2 h3))))))
              clear ht hB5 hk5 h1 h2 h3 hk45 t4
              simp only [World.size_drew] at hs5
              go_wp2_with fail
              refine ⟨HR5.out.2.2.1.mono (fun b _ h => .inl h), ?_⟩
              refine seqk_run 5 rfl (by kernel_rfl) (by rfl) (fun KK hKK => ?_)
              go_wp2_with fail
              refine ⟨Keeps.alloc _ _ _, ?_⟩
              obtain ⟨i0, hi0, hz0, hz1', hz2⟩ := info_parts infoTree
              have hbL : Below w5.heap.size w5 (w5.alloc (.cells #[.bool y0, .int .i64 y1, .slice y2o y2n y2c, .slice y3o y3n y3c, .slice y4o y4n y4c] 29)) := (Below.refl _ _).alloc (Nat.le_refl _) _
              have HL := Lib.hid (And.intro hbL (show w5.heap.size + 1 = (w5.alloc (.cells #[.bool y0, .int .i64 y1, .slice y2o y2n y2c, .slice y3o y3n y3c, .slice y4o y4n y4c] 29)).heap.size by simp))
              have hkoL : Keeps (fun b => b = B) wo (w5.alloc (.cells #[.bool y0, .int .i64 y1, .slice y2o y2n y2c, .slice y3o y3n y3c, .slice y4o y4n y4c] 29)) := ((Keeps.of_below HC.out.2.1).trans' HR5.out.2.2.2.1).trans' (Keeps.of_below hbL)
              have HKO := Lib.hid hkoL
              clear hbL hkoL
              refine seqk_run 6 rfl (by kernel_rfl) (by rfl) (fun KK hKK => ?_)
              refine wp_own (elemTr N) (by decide) _ _ 27 rfl i0 _ 88 Try.underlying27 hi0 hz0 hz1' hz2 rfl (by decide) V2.heap.size (DD D V2 (w5.alloc (.cells #[.bool y0, .int .i64 y1, .slice y2o y2n y2c, .slice y3o y3n y3c, .slice y4o y4n y4c] 29)) ko) ko kcap kids.length kids rfl (by rfl)
                (own_dd (elemTr N) (HC.out.2.2.2.1.keeps (elemTr N) HKO.out (fun b hb h => by
                  rcases hb with hb | hb
                  · exact (HV.out.2.2.2.2.2.1 b hb).2 h
                  · omega) (fun j hj h => by have := (HC.out.2.2.2.2.1 j hj).1; omega)) HKO.out.size)
                [.bool y0, .int .i64 y1, .slice y2o y2n y2c, .slice y3o y3n y3c, .slice y4o y4n y4c] t ((HR5.out.1.keeps (Keeps.of_below (X := fun _ => False) HL.out.1) (fun _ _ h => h)).mono (fun b hb => by
                  have h4 := HL.out.2
                  rcases hb with ((hb | hb) | hb) | hb
                  · exact .inl hb
                  · exact .inr ⟨by omega, by omega, fun h => by have := (HC.out.2.2.2.2.1 b h).2; omega⟩
                  · have h5 := HC.out.2.2.2.2.2.1 b hb
                    exact .inr ⟨by omega, by omega, fun h => by have := (HC.out.2.2.2.2.1 b h).2; omega⟩
                  · exact .inr ⟨by omega, by omega, fun h => by have := (HC.out.2.2.2.2.1 b h).2; omega⟩)) w5.heap.size (by rfl) (At.new w5 #[.bool y0, .int .i64 y1, .slice y2o y2n y2c, .slice y3o y3n y3c, .slice y4o y4n y4c] _) (fun b hb => by
                  have h4 := HL.out.2
                  rcases hb with hb | hb
                  · have := (HV.out.2.2.2.2.2.1 b hb).1; omega
                  · exact hb.2.1) (by omega) (by have := HL.out.2; omega) ?_
              intro ko6 kcap6 w6 q1 q2 q3
              refine hKK _ _ ⟨q2.mono (fun b _ h => .inr (.inl h)), ?_⟩
              have HS6 := Lib.hid (kids_step (B := B) HC.out.2.2.1 (by omega) (fun b hb => by have := (HV.out.2.2.2.2.2.1 b hb).1; omega) (by omega) HC.out.2.2.2.2.1 (by omega) HKO.out q2.size q1 q2)
              have HB6 := Lib.hid (((HR5.out.2.1.keeps (Keeps.of_below (X := fun _ => False) HL.out.1) (fun h => h)).keeps q2 (fun h => by have := (HC.out.2.2.2.2.1 B h).1; omega)).keeps (keep1 (X := fun b => b = g + 1) w6 (g := g + 1) (j := 4) rfl (.slice ko6 (kids ++ [t]).length kcap6)) (by omega))
              rw [List.length_append, List.length_singleton] at HS6 HB6
              have r1 : w6.cell? ⟨g + 1, 4, none⟩ = some (.slice ko kids.length kcap) := HS6.out.1
              have r2 : w6.frozen? ⟨g + 1, 4, none⟩ = false := HS6.out.2.1
              clear q1 q2 q3
              refine seqk_take 7 (v := ?_) rfl (by kernel_rfl) (fun _ _ _ h => h) (by rfl) (fun w' hw' => ?_) ?_
              rotate_left
              · go_simp; try with_reducible rfl
              try simp only [List.getElem_toArray, List.getElem_cons_succ, List.getElem_cons_zero, Act.put, List.setIfInBounds_toArray, List.set_cons_zero, List.set_cons_succ]
              refine seqk_last 8 rfl (by kernel_rfl) (by kernel_rfl) (by rfl) (fun KK hKK => ?_)
              go_wp2_with fail
              refine seql_done (by kernel_rfl) ?_
              go_wp2_with fail
              go_roundw
              case rel => exact ⟨i + 1, kids ++ [t], z2, big2, by omega, by simp, HS6.out.2.2.1, HB6.out, HK.out.2.2.1.trans' HS6.out.2.2.2, by
                rw [List.take_succ_eq_append_getElem hlt, HV3.out.2.2.2.2]
                exact HK.out.2.2.2.next HR5.out.2.2.2.2.1 (by rw [HC.out.2.2.2.2.2.2]; exact HR5.out.2.2.2.2.2.1) (by rw [HC.out.2.2.2.2.2.2]; exact HR5.out.2.2.2.2.2.2)⟩
              case measure => simp [intOf]; omega
        · obtain rfl : i = ts.length := by omega
          have hdi2 : decide ((ts.length : Int) < (ts.length : Int)) = false := decide_eq_false (by omega)
          rw [List.take_of_length_le (Nat.le_refl _)] at hR
          obtain ⟨V5, hV5⟩ : ∃ V5, wr = V5 := ⟨_, rfl⟩
          rw [hV5] at hK hBr hkr hskr ⊢
          have HK5 := Lib.hid (And.intro hK (And.intro hBr (And.intro hkr hR)))
          have hE5 := HL1.out.2.2.2.1.keeps hkr (fun b hb h => by have := HV.out.2.2.2.2.2.1 b hb; omega)
          have HE5 := Lib.hid hE5
          have HMR := Lib.hid (show measM (restRows path rows) < measM rows by
            obtain ⟨rs, hrs⟩ := HR.out.2.1
            obtain ⟨c, cs, hcs⟩ : ∃ c cs, r.cells = c :: cs := by
              cases h : r.cells with
              | nil => have h1 := hC0; rw [h] at h1; simp at h1
              | cons c cs => exact ⟨c, cs, rfl⟩
            have h1 := rest_lt (rs := rs) hcs
            have h2 : r.cells[0].path = c.path := by simp [hcs]
            rw [← hrs, ← h2, HP.out.1] at h1
            exact h1)
          clear hK hBr hkr hR hE5 hV5 HK t0 t1 t2 t3 t4 tf
          go_wp2_with fail
          go_loopw [18, 131] (fun v18 v131 wj => ∃ j : Nat, j ≤ rows.length ∧ v131 = .int .i64 (j : Int) ∧ RowsI (n' + 1) D V5 v18 (restRows path (rows.take j)) wj) (fun _ v131 _ => rows.length - (intOf v131).toNat)
          case atStart => exact ⟨0, by omega, rfl, none, 0, rfl, OwnL.nil _ _ _, Below.refl _ _⟩
          case round =>
            obtain ⟨j, hj, rfl, hRI⟩ := hrel
            have HRI := Lib.hid hRI
            obtain ⟨l, hl⟩ : ∃ l, restRows path (rows.take j) = l := ⟨_, rfl⟩
            rw [hl] at hRI
            obtain ⟨lo, lcap, rfl, hown, hbj⟩ := hRI
            have hsj := hbj.size
            have hll : l.length ≤ 1000 := by rw [← hl]; have := restRows_le path (rows.take j); rw [List.length_take] at this; omega
            by_cases hjl : j < rows.length
            · have hdj : decide ((j : Int) < (rows.length : Int)) = true := decide_eq_true (by omega)
              obtain ⟨rb2, rof, co2, ccap2, hro2, r0, r1, hc2, hcc2, hrlt2, hrD2⟩ := rowCells (HE5.out.below hbj).1 j hjl
              simp only [Option.some.injEq, Addr.mk.injEq, and_true] at hro2
              obtain ⟨rfl, rfl⟩ := hro2
              obtain ⟨rj, hrj⟩ : ∃ rj, rows[j] = rj := ⟨_, rfl⟩
              have hbdj := H.out.2.2.2.2.2.2.2.2.1 _ (List.getElem_mem hjl)
              rw [hrj] at r0 r1 hc2 hcc2 hbdj
              have hnx : restRows path (rows.take (j + 1)) = l ++ (match atR rj path with | some _ => [] | none => [rj]) := by rw [List.take_succ_eq_append_getElem hjl, restRows_snoc, hl, hrj]
              have hbA : Below wr.heap.size wr (wr.alloc (.cells #[.int .i64 rj.num, .slice co2 rj.cells.length ccap2] 63)) := (Below.refl _ _).alloc (Nat.le_refl _) _
              have hat := at_any (ccap := ccap2) (hc2.below (elemC _) hbA) (by have := cells_le_size rj.cells; have := hbdj.1; omega) (fun c hc => by have := hbdj.2 c hc; omega) ((HE5.out.below hbj).2.below hbA)
              have hrow : (wr.alloc (.cells #[.int .i64 rj.num, .slice co2 rj.cells.length ccap2] 63)).heap[wr.heap.size]? = some (.cells #[.int .i64 rj.num, .slice co2 rj.cells.length ccap2] 63 (0, 0)) := heap_alloc_new wr _
              have HA := Lib.hid (And.intro hat (And.intro hbA (And.intro hnx (And.intro hown (And.intro hbj (And.intro hown.lt (And.intro hrow (And.intro (hc2.there (elemC _) (by decide)) hcc2))))))))
              clear hat hbA hnx hown hbj hc2 hcc2 hbdj hl hrow
              go_wp2_with fail
              refine HA.out.1.mono ?_
              rintro e w2 ⟨hb2, hres⟩
              have hb12 : Below wr.heap.size wr w2 := HA.out.2.1.trans (hb2.mono HA.out.2.1.size)
              have hs2 := hb2.size
              have hs12 := hb12.size
              have hrow2 : w2.heap[wr.heap.size]? = _ := (hb2.block wr.heap.size (by simp)).trans HA.out.2.2.2.2.2.2.1
              have y0 : w2.cell? ⟨wr.heap.size, 0, none⟩ = some (.int .i64 rj.num) := cell_of_row _ _ 0 _ _ (0, 0) hrow2
              have y1 : w2.cell? ⟨wr.heap.size, 1, none⟩ = some (.slice co2 rj.cells.length ccap2) := cell_of_row _ _ 1 _ _ (0, 0) hrow2
              clear hrow2
              rcases hres with ⟨p, pc, hat, rfl, hvp⟩ | ⟨hat, rfl⟩
              · obtain ⟨k, m, t, ks⟩ := p
                obtain ⟨kao, kcap, hpcv, hpce, _, _, _⟩ := hvp.val
                rw [hpcv]
                unfold patV
                have HN := Lib.hid (show restRows path (rows.take (j + 1)) = l by rw [HA.out.2.2.1, hat, List.append_nil])
                have hbP : Below w2.heap.size w2 (w2.alloc (.cells #[.int .i64 k, .int .i64 m, .string ⟨t.toArray⟩, .slice kao ks.length kcap] 50)) := (Below.refl _ _).alloc (Nat.le_refl _) _
                have HRI2 := Lib.hid (show RowsI (n' + 1) D V5 (.slice lo l.length lcap) l (w2.alloc (.cells #[.int .i64 k, .int .i64 m, .string ⟨t.toArray⟩, .slice kao ks.length kcap] 50)) from RowsI.below ⟨lo, lcap, rfl, HA.out.2.2.2.1, HA.out.2.2.2.2.1⟩ (hb12.trans (hbP.mono hs12)))
                clear hb2 hb12 hat hbP hvp hpcv hpce y0 y1
                go_wp2_with fail
                go_roundw
                case rel => exact ⟨j + 1, by omega, by simp, by rw [HN.out]; exact HRI2.out⟩
                case measure => simp [intOf]; omega
              · have HN := Lib.hid (show restRows path (rows.take (j + 1)) = l ++ [rj] by rw [HA.out.2.2.1, hat])
                unfold patV
                have hbL : Below w2.heap.size w2 ((w2.alloc (.cells #[.int .i64 0, .int .i64 0, .string ⟨([] : List UInt8).toArray⟩, .slice none 0 0] 50)).alloc (.cells #[.int .i64 rj.num, .slice co2 rj.cells.length ccap2] 63)) := ((Below.refl _ _).alloc (Nat.le_refl _) _).alloc (by simp) _
                have HB := Lib.hid (And.intro hbL (And.intro (hb12.trans (hbL.mono hs12)) (show w2.heap.size + 2 = ((w2.alloc (.cells #[.int .i64 0, .int .i64 0, .string ⟨([] : List UInt8).toArray⟩, .slice none 0 0] 50)).alloc (.cells #[.int .i64 rj.num, .slice co2 rj.cells.length ccap2] 63)).heap.size by simp)))
                have hbp0 : Below w2.heap.size w2 (w2.alloc (.cells #[.int .i64 0, .int .i64 0, .string ⟨([] : List UInt8).toArray⟩, .slice none 0 0] 50)) := (Below.refl _ _).alloc (Nat.le_refl _) _
                have y0p : (w2.alloc (.cells #[.int .i64 0, .int .i64 0, .string ⟨([] : List UInt8).toArray⟩, .slice none 0 0] 50)).cell? ⟨wr.heap.size, 0, none⟩ = some (.int .i64 rj.num) := (World.cell?_of_block (a := ⟨wr.heap.size, 0, none⟩) (hbp0.block wr.heap.size (World.block_lt_of_cell? (a := ⟨wr.heap.size, 0, none⟩) w2 y0))).trans y0
                have y1p : (w2.alloc (.cells #[.int .i64 0, .int .i64 0, .string ⟨([] : List UInt8).toArray⟩, .slice none 0 0] 50)).cell? ⟨wr.heap.size, 1, none⟩ = some (.slice co2 rj.cells.length ccap2) := (World.cell?_of_block (a := ⟨wr.heap.size, 1, none⟩) (hbp0.block wr.heap.size (World.block_lt_of_cell? (a := ⟨wr.heap.size, 0, none⟩) w2 y0))).trans y1
                obtain ⟨i0, hi0, hz0, hz1', hz2⟩ := info_parts infoRow
                clear hb2 hb12 hat hbL y0 y1 hbp0
                go_wp2_with (refine app_own (elemR (n' + 1)) (by decide) rfl _ _ 58 rfl i0 _ 32 Try.underlying58 hi0 hz0 hz1' hz2 rfl (by decide) V5.heap.size (DD D V5 ((w2.alloc (.cells #[.int .i64 0, .int .i64 0, .string ⟨([] : List UInt8).toArray⟩, .slice none 0 0] 50)).alloc (.cells #[.int .i64 rj.num, .slice co2 rj.cells.length ccap2] 63)) lo) lo lcap l.length l rfl rfl (own_dd (elemR _) (HA.out.2.2.2.1.below (elemR _) HB.out.2.1) HB.out.2.1.size) [.int .i64 rj.num, .slice co2 rj.cells.length ccap2] rj ⟨_, rfl, co2, ccap2, rfl, HA.out.2.2.2.2.2.2.2.2.1, HA.out.2.2.2.2.2.2.2.2.2, ((HA.out.2.2.2.2.2.2.2.1.below (elemC _) HB.out.2.1).mono (elemC _) (fun b hb => .inl hb.1))⟩ (w2.heap.size + 1) rfl (At.newk (w2.alloc (.cells #[.int .i64 0, .int .i64 0, .string ⟨([] : List UInt8).toArray⟩, .slice none 0 0] 50)) #[.int .i64 rj.num, .slice co2 rj.cells.length ccap2] _ (0, 0) (by simp)) (fun b hb => by rcases hb with h | h; (have := (HV.out.2.2.2.2.2.1 b h).1; have := HB.out.2.2; omega); exact h.2.1) (by omega) (by have := HB.out.2.2; omega) ?_; rintro lo5 lcap5 w5 q1 q2 q3; have HS5 := Lib.hid (rows_step HA.out.2.2.2.2.1 HA.out.2.2.2.2.2.1 HB.out.2.1 q1 q2); clear q1 q2 q3)
                go_roundw
                case rel => exact ⟨j + 1, by omega, by simp, by rw [HN.out]; have := HS5.out; rw [List.length_append] at this; exact this⟩
                case measure => simp [intOf]; omega
            · obtain rfl : j = rows.length := by omega
              have hdj : decide ((rows.length : Int) < (rows.length : Int)) = false := decide_eq_false (by omega)
              rw [List.take_of_length_le (Nat.le_refl _)] at hl
              obtain ⟨V4, hV4⟩ : ∃ V4, wr = V4 := ⟨_, rfl⟩
              rw [hV4] at hown hbj hsj ⊢
              have hbo4 : Below V5.heap.size V5 V4 := hbj
              obtain ⟨ko, kcap, hT, hownK⟩ := HK5.out.1
              have hkolt := hownK.lt
              have t4 := (hT.keeps (Keeps.of_below (X := fun _ => False) hbo4) (fun h => h)).cells.2.2.2.2.1
              have hkl : kids.length ≤ 1000 := by rw [HK5.out.2.2.2.1]; omega
              have hB4 : BldAt V4.drew B z' big' := HK5.out.2.1.keeps (Keeps.of_below (X := fun _ => False) hbo4.drew) (fun h => h)
              have hlolt := hown.lt
              have hcall := ih l V4.drew (fun b => DD D V5 V4 lo b ∨ blk lo = some b) (n' + 1) B z' big' lo lcap (by
                have h1 := HMR.out
                have h2 := H.out.2.2.2.2.2.2.2.1
                rw [← hl]
                omega) hll (by rw [← hl]; exact restRows_bd H.out.2.2.2.2.2.2.2.2.1) hB4 ((hown.inl (elemR _) (by decide)).below (elemR _) ((Below.refl _ _).drew)) (fun b hb => by
                rcases hb with (hb | hb) | hb
                · have := (HV.out.2.2.2.2.2.1 b hb).1; simp; omega
                · simp; exact hb.2.1
                · have := (hlolt b hb).2; simp; exact this) (fun hb => by
                rcases hb with (hb | hb) | hb
                · exact (HV.out.2.2.2.2.2.1 B hb).2 rfl
                · omega
                · have := (hlolt B hb).1; omega)
              have HC := Lib.hid (And.intro hcall (And.intro hbo4 (And.intro hT (And.intro hownK (And.intro hkolt (And.intro hlolt hl))))))
              clear hcall hbo4 hT hownK hB4 hown hbj hV4 hl HRI
              go_wp2_with fail
              refine seqk_start (fun b => b = B ∨ blk ko = some b ∨ V4.heap.size ≤ b) [8] (by kernel_rfl) ?_
              refine seqk_take 0 (v := ?_) rfl (by kernel_rfl) (fun _ _ _ h => h) (by rfl) (fun w' hw' => ?_) ?_
              rotate_left
              · go_simp; try with_reducible rfl
              try simp only [List.getElem_toArray, List.getElem_cons_succ, List.getElem_cons_zero, Act.put, List.setIfInBounds_toArray, List.set_cons_zero, List.set_cons_succ]
              refine seqk_take 1 rfl (by kernel_rfl) (fun _ _ _ h => h) (by rfl) (fun w' hw' => (seq_ldTs rfl rfl (keeps_cell hw' (by intro h; rcases h with h | h | h; (have h2 : g + 1 = B := h; omega); (have h2 : V2.heap.size ≤ g + 1 := (hkolt _ h).1; omega); (have h2 : V4.heap.size ≤ g + 1 := h; omega)) (t4))) w' (Below.refl _ _)) ?_
              try simp only [List.getElem_toArray, List.getElem_cons_succ, List.getElem_cons_zero, Act.put, List.setIfInBounds_toArray, List.set_cons_zero, List.set_cons_succ]
              refine seqk_take 2 (v := ?_) rfl (by kernel_rfl) (fun _ _ _ h => h) (by rfl) (fun w' hw' => ?_) ?_
              rotate_left
              · go_simp; try with_reducible rfl
              try simp only [List.getElem_toArray, List.getElem_cons_succ, List.getElem_cons_zero, Act.put, List.setIfInBounds_toArray, List.set_cons_zero, List.set_cons_succ]
              refine seqk_take 3 (v := ?_) rfl (by kernel_rfl) (fun _ _ _ h => h) (by rfl) (fun w' hw' => ?_) ?_
              rotate_left
              · go_simp; try with_reducible rfl
              try simp only [List.getElem_toArray, List.getElem_cons_succ, List.getElem_cons_zero, Act.put, List.setIfInBounds_toArray, List.set_cons_zero, List.set_cons_succ]
              refine seqk_run 4 rfl (by kernel_rfl) (by rfl) (fun KK hKK => ?_)
              go_wp2_with fail
              refine HC.out.1.mono ?_
              rintro e w5 ⟨cs, t, z2, big2, rfl, ht, hB5, hk5, h1, h2, h3⟩
              obtain ⟨y0, y1, y2o, y2n, y2c, y3o, y3n, y3c, y4o, y4n, y4c, rfl⟩ := ht.val
              simp only [World.size_drew] at ht
              have hs5 := hk5.size
              have hk45 : Keeps (fun b => b = B) V4 w5 := (Keeps.of_below ((Below.refl _ _).drew)).trans' hk5
              have HR5 := Lib.hid (And.intro ht (And.intro hB5 (And.intro hk5 (And.intro hk45 (And.intro h1 (And.intro h2 h3))))))
              clear ht hB5 hk5 h1 h2 h3 hk45 t4
              simp only [World.size_drew] at hs5
              go_wp2_with fail
              refine ⟨HR5.out.2.2.1.mono (fun b _ h => .inl h), ?_⟩
              refine seqk_run 5 rfl (by kernel_rfl) (by rfl) (fun KK hKK => ?_)
              go_wp2_with fail
              refine ⟨Keeps.alloc _ _ _, ?_⟩
              obtain ⟨i0, hi0, hz0, hz1', hz2⟩ := info_parts infoTree
              have hbL : Below w5.heap.size w5 (w5.alloc (.cells #[.bool y0, .int .i64 y1, .slice y2o y2n y2c, .slice y3o y3n y3c, .slice y4o y4n y4c] 29)) := (Below.refl _ _).alloc (Nat.le_refl _) _
              have HL := Lib.hid (And.intro hbL (show w5.heap.size + 1 = (w5.alloc (.cells #[.bool y0, .int .i64 y1, .slice y2o y2n y2c, .slice y3o y3n y3c, .slice y4o y4n y4c] 29)).heap.size by simp))
              have hkoL : Keeps (fun b => b = B) V5 (w5.alloc (.cells #[.bool y0, .int .i64 y1, .slice y2o y2n y2c, .slice y3o y3n y3c, .slice y4o y4n y4c] 29)) := ((Keeps.of_below HC.out.2.1).trans' HR5.out.2.2.2.1).trans' (Keeps.of_below hbL)
              have HKO := Lib.hid hkoL
              clear hbL hkoL
              refine seqk_run 6 rfl (by kernel_rfl) (by rfl) (fun KK hKK => ?_)
              refine wp_own (elemTr N) (by decide) _ _ 27 rfl i0 _ 88 Try.underlying27 hi0 hz0 hz1' hz2 rfl (by decide) V2.heap.size (DD D V2 (w5.alloc (.cells #[.bool y0, .int .i64 y1, .slice y2o y2n y2c, .slice y3o y3n y3c, .slice y4o y4n y4c] 29)) ko) ko kcap kids.length kids rfl (by rfl)
                (own_dd (elemTr N) (HC.out.2.2.2.1.keeps (elemTr N) HKO.out (fun b hb h => by
                  rcases hb with hb | hb
                  · exact (HV.out.2.2.2.2.2.1 b hb).2 h
                  · omega) (fun j hj h => by have := (HC.out.2.2.2.2.1 j hj).1; omega)) HKO.out.size)
                [.bool y0, .int .i64 y1, .slice y2o y2n y2c, .slice y3o y3n y3c, .slice y4o y4n y4c] t ((HR5.out.1.keeps (Keeps.of_below (X := fun _ => False) HL.out.1) (fun _ _ h => h)).mono (fun b hb => by
                  have h4 := HL.out.2
                  rcases hb with ((hb | hb) | hb) | hb
                  · exact .inl hb
                  · exact .inr ⟨by omega, by omega, fun h => by have := (HC.out.2.2.2.2.1 b h).2; omega⟩
                  · have h5 := HC.out.2.2.2.2.2.1 b hb
                    exact .inr ⟨by omega, by omega, fun h => by have := (HC.out.2.2.2.2.1 b h).2; omega⟩
                  · exact .inr ⟨by omega, by omega, fun h => by have := (HC.out.2.2.2.2.1 b h).2; omega⟩)) w5.heap.size (by rfl) (At.new w5 #[.bool y0, .int .i64 y1, .slice y2o y2n y2c, .slice y3o y3n y3c, .slice y4o y4n y4c] _) (fun b hb => by
                  have h4 := HL.out.2
                  rcases hb with hb | hb
                  · have := (HV.out.2.2.2.2.2.1 b hb).1; omega
                  · exact hb.2.1) (by omega) (by have := HL.out.2; omega) ?_
              intro ko6 kcap6 w6 q1 q2 q3
              refine hKK _ _ ⟨q2.mono (fun b _ h => .inr (.inl h)), ?_⟩
              have HS6 := Lib.hid (kids_step (B := B) HC.out.2.2.1 (by omega) (fun b hb => by have := (HV.out.2.2.2.2.2.1 b hb).1; omega) (by omega) HC.out.2.2.2.2.1 (by omega) HKO.out q2.size q1 q2)
              have HB6 := Lib.hid (((HR5.out.2.1.keeps (Keeps.of_below (X := fun _ => False) HL.out.1) (fun h => h)).keeps q2 (fun h => by have := (HC.out.2.2.2.2.1 B h).1; omega)).keeps (keep1 (X := fun b => b = g + 1) w6 (g := g + 1) (j := 4) rfl (.slice ko6 (kids ++ [t]).length kcap6)) (by omega))
              rw [List.length_append, List.length_singleton] at HS6 HB6
              have r1 : w6.cell? ⟨g + 1, 4, none⟩ = some (.slice ko kids.length kcap) := HS6.out.1
              have r2 : w6.frozen? ⟨g + 1, 4, none⟩ = false := HS6.out.2.1
              clear q1 q2 q3
              refine seqk_take 7 (v := ?_) rfl (by kernel_rfl) (fun _ _ _ h => h) (by rfl) (fun w' hw' => ?_) ?_
              rotate_left
              · go_simp; try with_reducible rfl
              try simp only [List.getElem_toArray, List.getElem_cons_succ, List.getElem_cons_zero, Act.put, List.setIfInBounds_toArray, List.set_cons_zero, List.set_cons_succ]
              refine seqk_last 8 rfl (by kernel_rfl) (by kernel_rfl) (by rfl) (fun KK hKK => ?_)
              go_wp2_with fail
              refine seql_done (by kernel_rfl) ?_
              obtain ⟨w7, hw7⟩ : ∃ w7, w6.setCell ⟨g + 1, 4, none⟩ (.slice ko6 (kids.length + 1) kcap6) = w7 := ⟨_, rfl⟩
              rw [hw7] at HS6 HB6 ⊢
              obtain ⟨ko7, kcap7, hT7, hown7⟩ := HS6.out.2.2.1
              have hcap7 := hown7.cap_le
              have hT4 := (HL1.out.2.2.2.2.2.2.2.2.keeps HK5.out.2.2.1 (fun h => by omega)).keeps HS6.out.2.2.2 (fun h => by omega)
              obtain ⟨ks7, hks7⟩ : ∃ ks7, kids ++ [t] = ks7 := ⟨_, rfl⟩
              rw [hks7] at hT7 hown7 hcap7
              obtain ⟨x0, x1, x2, x3, x4, xf⟩ := hT7.cells
              obtain ⟨y0', y1', y2', y3', y4', yf⟩ := hT4.cells
              have hs7 := HS6.out.2.2.2.size
              have HE := Lib.hid (And.intro hT4 (And.intro hown7 (And.intro hcap7 hks7)))
              clear hT7 hown7 hcap7 hT4 hks7 r1 r2
              go_wp2_with fail
              have hlt7 := HE.out.2.1.lt
              have hk8 := keep5 (X := fun b => b = g) w7 (g := g) rfl (.bool false) (.int .i64 0) (.slice po path.length pcap) (.slice to_ ts.length tcap) (.slice ko7 ks7.length kcap7)
              have hk28 := HK5.out.2.2.1.trans' HS6.out.2.2.2
              have hw2 : w.heap.size = g := H.out.2.2.2.2.2.2.2.2.2.1
              have hkW : Keeps (fun b => b = B) w w7 := HL1.out.2.2.1.trans hk28 (fun b hb h => by omega)
              have hkF := hkW.trans hk8 (fun b hb h => by omega)
              refine bodyPost_ret (v := .agg #[.bool false, .int .i64 0, .slice po path.length pcap, .slice to_ ts.length tcap, .slice ko7 ks7.length kcap7]) (results_build _ _ g false 0 po to_ ko7 path.length pcap ts.length tcap ks7.length kcap7 (by rfl) (HE.out.1.put _ _ _ _ _)) rfl ⟨_, .node path ts ks7, z2, big2, rfl, ?_, HB6.out.keeps hk8 (by omega), hkF, fun hb => HR5.out.2.2.2.2.1 (HK5.out.2.2.2.2.1 hb), fun hb => ?_, fun h0 h1 => ?_⟩
              · refine TreeIn.node.2 ⟨_, to_, tcap, ko7, kcap7, rfl, ⟨HL1.out.2.2.2.2.2.2.2.1.1, HL1.out.2.2.2.2.2.2.2.1.2, HE.out.2.2.1.1, HE.out.2.2.1.2⟩, (HP.out.2.keeps hkF HR.out.2.2.1).mono (fun b hb => .inl hb), ?_, ?_⟩
                · refine ((HL1.out.2.1.keeps elemT hk28 (fun b hb h => ?_)).keeps elemT hk8 (fun b hb h => ?_)).mono elemT (fun b hb => ?_)
                  · rcases hb.1 with h2 | h2
                    · exact h2
                    · have h3 := HL1.out.2.2.2.2.2.2.1 b h2
                      have := hb.2
                      omega
                  · rcases hb.1 with h2 | h2
                    · exact h2
                    · have h3 := HL1.out.2.2.2.2.2.2.1 b h2
                      omega
                  · rcases hb.1 with h2 | h2
                    · exact h2.elim
                    · have h3 := HL1.out.2.2.2.2.2.2.1 b h2
                      have := hk8.size
                      exact .inr ⟨by omega, Nat.lt_of_lt_of_le (by have := hb.2; omega) hk8.size⟩
                · refine ((HE.out.2.1.inl (elemTr N) (by decide)).keeps (elemTr N) hk8 (fun b hb h => ?_)).mono (elemTr N) (fun b hb => ?_)
                  · rcases hb with (hb | hb) | hb
                    · have := (HV.out.2.2.2.2.2.1 b hb).1; omega
                    · omega
                    · have := (hlt7 b hb).1; omega
                  · rcases hb with (hb | hb) | hb
                    · exact .inl hb
                    · exact .inr ⟨by omega, Nat.lt_of_lt_of_le hb.2.1 hk8.size⟩
                    · have := hlt7 b hb
                      exact .inr ⟨by omega, Nat.lt_of_lt_of_le this.2 hk8.size⟩
              · obtain ⟨rs, hrs⟩ := HR.out.2.1
                obtain ⟨c, cs, hcs⟩ : ∃ c cs, r.cells = c :: cs := by
                  cases h : r.cells with
                  | nil => have h1 := hC0; rw [h] at h1; simp at h1
                  | cons c cs => exact ⟨c, cs, rfl⟩
                have h2 : c.path = path := by rw [← HP.out.1]; simp [hcs]
                have hb' : big' = false := by
                  cases hbb : big' with
                  | false => rfl
                  | true => rw [HR5.out.2.2.2.2.1 hbb] at hb; cases hb
                rw [buildM_node N hrs hcs, h2, HL1.out.2.2.2.2.2.1, ← HE.out.2.2.2, HK5.out.2.2.2.2.2.1 hb', HR5.out.2.2.2.2.2.1 hb, HC.out.2.2.2.2.2.2]
              · obtain ⟨rs, hrs⟩ := HR.out.2.1
                obtain ⟨c, cs, hcs⟩ : ∃ c cs, r.cells = c :: cs := by
                  cases h : r.cells with
                  | nil => have h1 := hC0; rw [h] at h1; simp at h1
                  | cons c cs => exact ⟨c, cs, rfl⟩
                have h2 : c.path = path := by rw [← HP.out.1]; simp [hcs]
                have hcn : cntM (N + 1) rows = 1 + (sumN N path rows ts + cntM N l) := by
                  rw [cntM_node N hrs hcs, h2, HL1.out.2.2.2.2.2.1, HC.out.2.2.2.2.2.2]
                  rfl
                rw [hcn] at h1 ⊢
                have h1' : z + ((1 + (sumN N path rows ts + cntM N l) : Nat) : Int) ≤ 200000 := h1
                have h0' : 0 ≤ z := h0
                obtain ⟨e1, e2⟩ := HK5.out.2.2.2.2.2.2 h0' (by omega)
                obtain ⟨e3, e4⟩ := HR5.out.2.2.2.2.2.2 (by omega) (by omega)
                exact ⟨by omega, e4.trans e2⟩
theorem build_any : ∀ N : Nat, BuildOk N
  | 0 => fun _ _ _ _ _ _ _ _ _ h => by omega
  | N + 1 => build_step N (build_any N)
end Go.Proofs.Ytnhdefaagicejaa
