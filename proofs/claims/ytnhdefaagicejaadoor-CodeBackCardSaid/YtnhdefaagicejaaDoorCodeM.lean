/- Code, frames and what a checker holds, in memory; two frames compared. -/
import Derived.Test.YtnhdefaagicejaaDoorCodeA
import Derived.Test.YtnhdefaagicejaaDoorMap
namespace Go.Proofs.YtnhdefaagicejaaDoor
set_option linter.unusedSimpArgs false
set_option linter.unusedVariables false
open Go.RowKit

def strCells (l : List (List UInt8)) : List Value := l.map fun s => .string ⟨s.toArray⟩
def insRow (x : InsP) : List Value := [.int .i64 x.op, .int .i64 x.a, .int .i64 x.b]
def R64i (z : Int) : Prop := -9223372036854775808 ≤ z ∧ z ≤ 9223372036854775807
/-- The code's three rows; they lie in the blocks D. -/
structure CodeMem (w : World) (D : Nat → Prop) (c : CodeP) (io so fo : Option Addr) : Prop where
  ins : RowsAt w io 3 (c.ins.map insRow)
  strs : At w so (strCells c.strs)
  funs : At w fo (intsV c.funs)
  insD : ∀ b, blk io = some b → c.ins ≠ [] → D b
  strD : ∀ b, blk so = some b → c.strs ≠ [] → D b
  funD : ∀ b, blk fo = some b → c.funs ≠ [] → D b
  insR : ∀ x ∈ c.ins, R64i x.op ∧ R64i x.a ∧ R64i x.b
  strR : ∀ s ∈ c.strs, s.length ≤ 9223372036854775807
  funR : ∀ z ∈ c.funs, R64i z
theorem CodeMem.keeps {X : Nat → Prop} {w w' : World} {D : Nat → Prop} {c : CodeP} {io so fo : Option Addr} (h : CodeMem w D c io so fo) (hk : Keeps X w w') (hX : ∀ b, D b → ¬ X b) : CodeMem w' D c io so fo :=
  ⟨h.ins.keeps hk (fun b hb hne => hX b (h.insD b hb (fun e => hne (by rw [e]; rfl)))), h.strs.keeps hk (fun b hb hne => hX b (h.strD b hb (fun e => hne (by rw [e]; rfl)))), h.funs.keeps hk (fun b hb hne => hX b (h.funD b hb (fun e => hne (by rw [e]; rfl)))), h.insD, h.strD, h.funD, h.insR, h.strR, h.funR⟩
theorem CodeMem.below {w w' : World} {D : Nat → Prop} {c : CodeP} {io so fo : Option Addr} (h : CodeMem w D c io so fo) (hb : Below w.heap.size w w') : CodeMem w' D c io so fo := h.keeps (X := fun _ => False) (Keeps.of_below hb) (fun _ _ h => h)
theorem CodeMem.mono {w : World} {D E : Nat → Prop} {c : CodeP} {io so fo : Option Addr} (h : CodeMem w D c io so fo) (hDE : ∀ b, D b → E b) : CodeMem w E c io so fo :=
  ⟨h.ins, h.strs, h.funs, fun b h1 h2 => hDE b (h.insD b h1 h2), fun b h1 h2 => hDE b (h.strD b h1 h2), fun b h1 h2 => hDE b (h.funD b h1 h2), h.insR, h.strR, h.funR⟩
theorem CodeMem.insAt {w : World} {D : Nat → Prop} {c : CodeP} {io so fo : Option Addr} (h : CodeMem w D c io so fo) (i : Nat) (hi : i < c.ins.length) :
    ∃ b o, io = some ⟨b, o, none⟩ ∧ w.cell? ⟨b, o + i * 3, none⟩ = some (.int .i64 c.ins[i].op) ∧ w.cell? ⟨b, o + i * 3 + 1, none⟩ = some (.int .i64 c.ins[i].a) ∧ w.cell? ⟨b, o + i * 3 + 2, none⟩ = some (.int .i64 c.ins[i].b) := by
  obtain ⟨b, o, rfl, hc⟩ := h.ins.cell i (by simpa using hi)
  have he : (c.ins.map insRow)[i]'(by simpa using hi) = insRow c.ins[i] := by simp
  rw [he] at hc
  exact ⟨b, o, rfl, by have := hc 0 _ rfl; rwa [Nat.add_zero] at this, by have := hc 1 _ rfl; rwa [← Nat.add_assoc] at this, by have := hc 2 _ rfl; rwa [← Nat.add_assoc] at this⟩
/-- A frame's value; the row of its brackets lies in the blocks O. -/
def FrV (w : World) (O : Nat → Prop) (v : Value) (f : FrP) : Prop :=
  ∃ oo ocap, v = .agg #[.int .i64 (f.fn : Int), .int .i64 f.h, .slice oo f.op.length ocap] ∧ f.op.length ≤ ocap ∧ ocap ≤ 9223372036854775807 ∧ At w oo (intsV f.op) ∧ ∀ b, blk oo = some b → O b
theorem FrV.keeps {X : Nat → Prop} {w w' : World} {O : Nat → Prop} {v : Value} {f : FrP} (h : FrV w O v f) (hk : Keeps X w w') (hX : ∀ b, O b → ¬ X b) : FrV w' O v f := by
  obtain ⟨oo, ocap, h1, h2, h3, h4, h5⟩ := h
  exact ⟨oo, ocap, h1, h2, h3, h4.keeps hk (fun b hb _ => hX b (h5 b hb)), h5⟩
theorem FrV.below {w w' : World} {O : Nat → Prop} {v : Value} {f : FrP} (h : FrV w O v f) (hb : Below w.heap.size w w') : FrV w' O v f := h.keeps (X := fun _ => False) (Keeps.of_below hb) (fun _ _ h => h)
theorem FrV.mono {w : World} {O E : Nat → Prop} {v : Value} {f : FrP} (h : FrV w O v f) (hOE : ∀ b, O b → E b) : FrV w E v f := by
  obtain ⟨oo, ocap, h1, h2, h3, h4, h5⟩ := h
  exact ⟨oo, ocap, h1, h2, h3, h4, fun b hb => hOE b (h5 b hb)⟩
/-- The frames that are seen. -/
def SeenAt (w : World) (O : Nat → Prop) (mb : Nat) (S : Int → Option FrP) : Prop :=
  ∃ V, MapAt w mb V ∧ (∀ z, S z = none → V z = none) ∧ ∀ z f, S z = some f → ∃ v, V z = some v ∧ FrV w O v f
theorem SeenAt.keeps {X : Nat → Prop} {w w' : World} {O : Nat → Prop} {mb : Nat} {S : Int → Option FrP} (h : SeenAt w O mb S) (hk : Keeps X w w') (hm : ¬ X mb) (hX : ∀ b, O b → ¬ X b) : SeenAt w' O mb S := by
  obtain ⟨V, h1, h2, h3⟩ := h
  exact ⟨V, h1.keeps hk hm, h2, fun z f hz => by obtain ⟨v, h4, h5⟩ := h3 z f hz; exact ⟨v, h4, h5.keeps hk hX⟩⟩
theorem SeenAt.mono {w : World} {O E : Nat → Prop} {mb : Nat} {S : Int → Option FrP} (h : SeenAt w O mb S) (hOE : ∀ b, O b → E b) : SeenAt w E mb S := by
  obtain ⟨V, h1, h2, h3⟩ := h
  exact ⟨V, h1, h2, fun z f hz => by obtain ⟨v, h4, h5⟩ := h3 z f hz; exact ⟨v, h4, h5.mono hOE⟩⟩
/-- Where a checker's parts lie. -/
structure CS where
  cb : Nat
  mb : Nat
  io : Option Addr
  so : Option Addr
  fo : Option Addr
  lo : Option Addr
  icap : Nat
  scap : Nat
  fcap : Nat
  lcap : Nat
/-- The blocks that a checker writes. -/
def CS.X (s : CS) (wo : Option Addr) (b : Nat) : Prop := b = s.cb ∨ b = s.mb ∨ blk wo = some b
/-- A checker at work. -/
structure ChkAt (B : Nat) (A : Nat → Prop) (w : World) (c : CodeP) (L : List Int) (s : CS) (wo : Option Addr) (S : Int → Option FrP) (W : List Int) : Prop where
  row : ∃ wcap, w.heap[s.cb]? = some (.cells #[.slice s.io c.ins.length s.icap, .slice s.so c.strs.length s.scap, .slice s.fo c.funs.length s.fcap, .int .i64 c.glob, .slice s.lo L.length s.lcap, .map (some s.mb), .slice wo W.length wcap] 56 (0, 0)) ∧ QueueAt w B wo wcap W
  code : CodeMem w (fun b => b < B) c s.io s.so s.fo
  frees : At w s.lo (intsV L)
  seen : SeenAt w (fun b => ¬ s.X wo b ∧ b < w.heap.size ∧ A b) s.mb S
  cb : B ≤ s.cb
  mb : B ≤ s.mb ∧ s.mb < w.heap.size
  ne : s.cb ≠ s.mb
  wc : blk wo ≠ some s.cb ∧ blk wo ≠ some s.mb
  lf : ∀ b, blk s.lo = some b → L ≠ [] → ¬ s.X wo b ∧ b < w.heap.size ∧ A b
theorem ChkAt.cbl {B : Nat} {A : Nat → Prop} {w : World} {c : CodeP} {L : List Int} {s : CS} {wo : Option Addr} {S : Int → Option FrP} {W : List Int} (h : ChkAt B A w c L s wo S W) : s.cb < w.heap.size := by
  obtain ⟨_, h1, _⟩ := h.row
  exact (Array.getElem?_eq_some_iff.1 h1).1
theorem ChkAt.wol {B : Nat} {A : Nat → Prop} {w : World} {c : CodeP} {L : List Int} {s : CS} {wo : Option Addr} {S : Int → Option FrP} {W : List Int} (h : ChkAt B A w c L s wo S W) : ∀ b, blk wo = some b → B ≤ b ∧ b < w.heap.size := by
  obtain ⟨_, _, h1⟩ := h.row
  exact h1.2.2.1
theorem ChkAt.Xl {B : Nat} {A : Nat → Prop} {w : World} {c : CodeP} {L : List Int} {s : CS} {wo : Option Addr} {S : Int → Option FrP} {W : List Int} (h : ChkAt B A w c L s wo S W) : ∀ b, s.X wo b → B ≤ b ∧ b < w.heap.size := by
  intro b hb
  rcases hb with rfl | rfl | hb
  · exact ⟨h.cb, h.cbl⟩
  · exact h.mb
  · exact h.wol b hb
theorem ChkAt.keeps {B : Nat} {A Y : Nat → Prop} {w w' : World} {c : CodeP} {L : List Int} {s : CS} {wo : Option Addr} {S : Int → Option FrP} {W : List Int} (h : ChkAt B A w c L s wo S W) (hk : Keeps Y w w') (hY : ∀ b, b < w.heap.size → ¬ Y b) : ChkAt B A w' c L s wo S W := by
  have hX := h.Xl
  have hs := hk.size
  obtain ⟨wcap, h1, h2⟩ := h.row
  refine ⟨⟨wcap, (hk.block s.cb h.cbl (hY _ h.cbl)).trans h1, h2.keeps hk (fun b hb => hY b (h2.2.2.1 b hb).2)⟩, h.code.keeps hk (fun b hb hy => ?_), h.frees.keeps hk (fun b hb hne => hY b (h.lf b hb (fun e => hne (by rw [e]; rfl))).2.1), (h.seen.keeps hk (hY _ h.mb.2) (fun b hb => hY b hb.2.1)).mono (fun b hb => ⟨hb.1, by have := hb.2.1; omega, hb.2.2⟩), h.cb, ⟨h.mb.1, by have := h.mb.2; omega⟩, h.ne, h.wc, fun b hb hne => ⟨(h.lf b hb hne).1, by have := (h.lf b hb hne).2.1; omega, (h.lf b hb hne).2.2⟩⟩
  have := h.cbl
  have := h.cb
  exact hY b (by omega) hy
/-- Other blocks that the brackets may lie in. -/
theorem ChkAt.mono {B : Nat} {A E : Nat → Prop} {w : World} {c : CodeP} {L : List Int} {s : CS} {wo : Option Addr} {S : Int → Option FrP} {W : List Int} (h : ChkAt B A w c L s wo S W) (hAE : ∀ b, b < w.heap.size → A b → E b) : ChkAt B E w c L s wo S W :=
  ⟨h.row, h.code, h.frees, h.seen.mono (fun b hb => ⟨hb.1, hb.2.1, hAE b hb.2.1 hb.2.2⟩), h.cb, h.mb, h.ne, h.wc, fun b hb hne => ⟨(h.lf b hb hne).1, (h.lf b hb hne).2.1, hAE b (h.lf b hb hne).2.1 (h.lf b hb hne).2.2⟩⟩
/-- A block is written that is none of the checker's, nor one of its brackets'. -/
theorem ChkAt.put {B : Nat} {A Y : Nat → Prop} {w w' : World} {c : CodeP} {L : List Int} {s : CS} {wo : Option Addr} {S : Int → Option FrP} {W : List Int} (h : ChkAt B A w c L s wo S W) (hk : Keeps Y w w') (hY : ∀ b, Y b → B ≤ b ∧ ¬ s.X wo b ∧ ¬ A b) : ChkAt B A w' c L s wo S W := by
  have hs := hk.size
  obtain ⟨wcap, h1, h2⟩ := h.row
  refine ⟨⟨wcap, (hk.block s.cb h.cbl (fun hy => (hY _ hy).2.1 (.inl rfl))).trans h1, h2.keeps hk (fun b hb hy => (hY b hy).2.1 (.inr (.inr hb)))⟩, h.code.keeps hk (fun b hb hy => by have := (hY b hy).1; omega), h.frees.keeps hk (fun b hb hne hy => (hY b hy).2.2 (h.lf b hb (fun e => hne (by rw [e]; rfl))).2.2), (h.seen.keeps hk (fun hy => (hY _ hy).2.1 (.inr (.inl rfl))) (fun b hb hy => (hY b hy).2.2 hb.2.2)).mono (fun b hb => ⟨hb.1, by have := hb.2.1; omega, hb.2.2⟩), h.cb, ⟨h.mb.1, by have := h.mb.2; omega⟩, h.ne, h.wc, fun b hb hne => ⟨(h.lf b hb hne).1, by have := (h.lf b hb hne).2.1; omega, (h.lf b hb hne).2.2⟩⟩
theorem ChkAt.below {B : Nat} {A : Nat → Prop} {w w' : World} {c : CodeP} {L : List Int} {s : CS} {wo : Option Addr} {S : Int → Option FrP} {W : List Int} (h : ChkAt B A w c L s wo S W) (hb : Below w.heap.size w w') : ChkAt B A w' c L s wo S W := h.keeps (Y := fun _ => False) (Keeps.of_below hb) (fun _ _ h => h)

/-- A frame's cells. -/
def FrCell (w : World) (g : Nat) (fn h : Int) (oo : Option Addr) (n cap : Nat) : Prop := w.cell? ⟨g, 0, none⟩ = some (.int .i64 fn) ∧ w.cell? ⟨g, 1, none⟩ = some (.int .i64 h) ∧ w.cell? ⟨g, 2, none⟩ = some (.slice oo n cap)
theorem FrCell.below {w w' : World} {g : Nat} {fn h : Int} {oo : Option Addr} {n cap : Nat} (hc : FrCell w g fn h oo n cap) (hb : Below w.heap.size w w') : FrCell w' g fn h oo n cap := by
  have hl := World.block_lt_of_cell? (a := ⟨g, 0, none⟩) w hc.1
  exact ⟨(World.cell?_of_block (hb.block g hl)).trans hc.1, (World.cell?_of_block (hb.block g hl)).trans hc.2.1, (World.cell?_of_block (hb.block g hl)).trans hc.2.2⟩
theorem FrCell.new (w : World) (fn h : Int) (oo : Option Addr) (n cap : Nat) : FrCell (w.alloc (.cells #[.int .i64 fn, .int .i64 h, .slice oo n cap] 87)) w.heap.size fn h oo n cap := by
  have hrow : (w.alloc (.cells #[.int .i64 fn, .int .i64 h, .slice oo n cap] 87)).heap[w.heap.size]? = _ := heap_alloc_new w _
  exact ⟨cell_of_row _ _ 0 _ _ (0, 0) hrow, cell_of_row _ _ 1 _ _ (0, 0) hrow, cell_of_row _ _ 2 _ _ (0, 0) hrow⟩
theorem seq_ldf {o : Oper} {x : Operand} {a : Act} {w : World} (ho : o.op = .load 87 x) {g : Nat} {fn h : Int} {oo : Option Addr} {n cap : Nat} (hx : a.eval x = .pointer (some ⟨g, 0, none⟩)) (hc : FrCell w g fn h oo n cap) :
    ∀ w', Below w.heap.size w w' → (execOp a.eval o).run Tryd.prog w' = .ok (.value (.agg #[.int .i64 fn, .int .i64 h, .slice oo n cap])) w' := by
  intro w' hb
  obtain ⟨c0, c1, c2⟩ := hc.below hb
  have hu := Tryd.underlying87
  unfold execOp
  simp only [ho, hx]
  go_simp
set_option maxRecDepth 100000 in
set_option maxHeartbeats 1000000 in
theorem fsame_any (f g : FrP) (v u : Value) (O : Nat → Prop) (hf : f.op.length ≤ 1000000) (hg : g.op.length ≤ 1000000) (w : World) (hv : FrV w O v f) (hu : FrV w O u g) :
    Calls Tryd.prog 45 #[v, u] w (fun e w' => e = .returned (.bool (decide (f = g))) ∧ Below w.heap.size w w') := by
  obtain ⟨fn, h, o⟩ := f
  obtain ⟨gn, k, p⟩ := g
  obtain ⟨oo, ocap, rfl, h2, h3, h4, _⟩ := hv
  obtain ⟨po, pcap, rfl, g2, g3, g4, _⟩ := hu
  simp only at *
  have hb : Below w.heap.size w ((w.alloc (.cells #[.int .i64 (fn : Int), .int .i64 h, .slice oo o.length ocap] 87)).alloc (.cells #[.int .i64 (gn : Int), .int .i64 k, .slice po p.length pcap] 87)) := ((Below.refl w.heap.size w).alloc (Nat.le_refl _) _).alloc (by simp) _
  have H := Lib.hid (And.intro hb (equalI_any o p oo po ocap pcap (by omega) _ (h4.below hb) (g4.below hb)))
  clear h4 g4 hb h2 h3 g2 g3
  by_cases e1 : fn = gn
  · subst e1
    by_cases e2 : h = k
    · subst e2
      have he : decide ((⟨fn, h, o⟩ : FrP) = ⟨fn, h, p⟩) = decide (o = p) := by simp
      have HE := Lib.hid he
      clear he
      go_enter Tryd.func45, Tryd.ntmps45
      go_wp2_with fail
      refine H.out.2.mono ?_
      rintro e w2 ⟨rfl, hb2⟩
      have H2 := Lib.hid (H.out.1.trans (hb2.mono H.out.1.size))
      clear hb2
      go_wp2_with fail
      go_ret
      exact ⟨by rw [HE.out]; rfl, H2.out⟩
    · have he : decide ((⟨fn, h, o⟩ : FrP) = ⟨fn, k, p⟩) = false := by simp [e2]
      have hd : decide (h = k) = false := decide_eq_false e2
      have hd2 : (h == k) = false := by simp [e2]
      have HE := Lib.hid he
      clear he
      go_enter Tryd.func45, Tryd.ntmps45
      go_wp2_with fail
      go_ret
      exact ⟨by rw [HE.out]; rfl, H.out.1⟩
  · have he : decide ((⟨fn, h, o⟩ : FrP) = ⟨gn, k, p⟩) = false := by simp [e1]
    have hd : decide ((fn : Int) = (gn : Int)) = false := decide_eq_false (by omega)
    have hd2 : ((fn : Int) == (gn : Int)) = false := by simp; omega
    have HE := Lib.hid he
    clear he
    go_enter Tryd.func45, Tryd.ntmps45
    go_wp2_with fail
    go_ret
    exact ⟨by rw [HE.out]; rfl, H.out.1⟩
end Go.Proofs.YtnhdefaagicejaaDoor
