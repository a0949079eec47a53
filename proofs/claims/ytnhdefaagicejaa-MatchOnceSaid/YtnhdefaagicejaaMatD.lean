/- What patterns are taken apart into, in memory: cells, rows, tests, trees. No program in sight. -/
import Derived.Test.YtnhdefaagicejaaOwnL
import Derived.Test.YtnhdefaagicejaaMatchP
namespace Go.Proofs.Ytnhdefaagicejaa
set_option linter.unusedSimpArgs false
set_option linter.unusedVariables false
open Go.RowKit

theorem VIn.one {w : World} {D : Nat → Prop} : ∀ {n : Nat} {cs : List Value} {x : PV}, VIn w D n cs x → ∀ v ∈ cs, v.oneCell' = true
  | 0, _, _, h => h.elim
  | _ + 1, _, .mk _ _ _ _, ⟨ao, cap, _, e, _⟩ => by
    intro v hv
    rw [e] at hv
    simp at hv
    rcases hv with rfl | rfl | rfl | rfl <;> first | rfl | (cases ao <;> rfl)
theorem elemV (n : Nat) : Elem 4 (fun w D cs (x : PV) => VIn w D n cs x) :=
  ⟨fun h => h.len, fun h => h.one, fun h hk hX => h.keeps hk hX, fun h hDE => h.mono hDE, fun h => h.there⟩
/-- A place's numbers. -/
def natsV (l : List Nat) : List Value := l.map fun (i : Nat) => Value.int .i64 (i : Int)
theorem natsV_length (l : List Nat) : (natsV l).length = l.length := by simp [natsV]
/-- A place that lies somewhere. -/
def PathIn (w : World) (D : Nat → Prop) (v : Value) (p : List Nat) : Prop := ∃ po pcap, v = .slice po p.length pcap ∧ p.length ≤ pcap ∧ pcap ≤ 9223372036854775807 ∧ At w po (natsV p) ∧ (p ≠ [] → ∀ b, blk po = some b → D b ∧ b < w.heap.size)
theorem PathIn.keeps {X : Nat → Prop} {w w' : World} {D : Nat → Prop} {v : Value} {p : List Nat} (h : PathIn w D v p) (hk : Keeps X w w') (hX : ∀ b, D b → ¬ X b) : PathIn w' D v p := by
  obtain ⟨po, pcap, h1, h2, h3, h4, h5⟩ := h
  exact ⟨po, pcap, h1, h2, h3, h4.keeps hk (fun b hb hne => hX b (h5 (by rintro rfl; exact hne rfl) b hb).1), fun hne b hb => ⟨(h5 hne b hb).1, Nat.lt_of_lt_of_le (h5 hne b hb).2 hk.size⟩⟩
theorem PathIn.below {w w' : World} {D : Nat → Prop} {v : Value} {p : List Nat} (h : PathIn w D v p) (hb : Below w.heap.size w w') : PathIn w' D v p := h.keeps (Keeps.of_below (X := fun _ => False) hb) fun _ _ h => h
theorem PathIn.mono {w : World} {D E : Nat → Prop} {v : Value} {p : List Nat} (h : PathIn w D v p) (hDE : ∀ b, D b → E b) : PathIn w E v p := by
  obtain ⟨po, pcap, h1, h2, h3, h4, h5⟩ := h
  exact ⟨po, pcap, h1, h2, h3, h4, fun hne b hb => ⟨hDE b (h5 hne b hb).1, (h5 hne b hb).2⟩⟩
theorem PathIn.there {w : World} {D : Nat → Prop} {v : Value} {p : List Nat} (h : PathIn w D v p) : PathIn w (fun b => D b ∧ b < w.heap.size) v p := by
  obtain ⟨po, pcap, h1, h2, h3, h4, h5⟩ := h
  exact ⟨po, pcap, h1, h2, h3, h4, fun hne b hb => ⟨h5 hne b hb, (h5 hne b hb).2⟩⟩
theorem PathIn.one {w : World} {D : Nat → Prop} {v : Value} {p : List Nat} (h : PathIn w D v p) : v.oneCell' = true := by
  obtain ⟨po, pcap, rfl, _⟩ := h
  cases po <;> rfl
/-- A row of places. -/
theorem elemP : Elem 1 (fun w D cs (p : List Nat) => ∃ v, cs = [v] ∧ PathIn w D v p) :=
  ⟨fun ⟨_, h, _⟩ => by rw [h]; rfl, fun ⟨v, h, hp⟩ u hu => (by rw [h] at hu; rw [List.mem_singleton.1 hu]; exact hp.one), fun ⟨v, h, hp⟩ hk hX => ⟨v, h, hp.keeps hk hX⟩, fun ⟨v, h, hp⟩ hDE => ⟨v, h, hp.mono hDE⟩, fun ⟨v, h, hp⟩ => ⟨v, h, hp.there⟩⟩
/-- A cell: a place, and a pattern. -/
def CellIn (n : Nat) (w : World) (D : Nat → Prop) (cs : List Value) (c : CellM) : Prop := ∃ pv pc, cs = pv :: pc ∧ PathIn w D pv c.path ∧ VIn w D n pc c.p
theorem elemC (n : Nat) : Elem 5 (CellIn n) :=
  ⟨fun ⟨_, _, h, _, h2⟩ => by rw [h, List.length_cons, h2.len], fun ⟨pv, pc, h, h1, h2⟩ u hu => (by
    rw [h] at hu
    rcases List.mem_cons.1 hu with rfl | hu
    · exact h1.one
    · exact h2.one u hu), fun ⟨pv, pc, h, h1, h2⟩ hk hX => ⟨pv, pc, h, h1.keeps hk hX, h2.keeps hk hX⟩, fun ⟨pv, pc, h, h1, h2⟩ hDE => ⟨pv, pc, h, h1.mono hDE, h2.mono hDE⟩, fun ⟨pv, pc, h, h1, h2⟩ => ⟨pv, pc, h, h1.there, h2.there⟩⟩
/-- A row of cells, as a slice. -/
def CellsIn (n : Nat) (w : World) (D : Nat → Prop) (v : Value) (cs : List CellM) : Prop := ∃ co ccap, v = .slice co cs.length ccap ∧ cs.length ≤ ccap ∧ ccap ≤ 9223372036854775807 ∧ InL 5 (CellIn n) w D co cs
theorem CellsIn.keeps {n : Nat} {X : Nat → Prop} {w w' : World} {D : Nat → Prop} {v : Value} {cs : List CellM} (h : CellsIn n w D v cs) (hk : Keeps X w w') (hX : ∀ b, D b → ¬ X b) : CellsIn n w' D v cs := by
  obtain ⟨co, ccap, h1, h2, h3, h4⟩ := h
  exact ⟨co, ccap, h1, h2, h3, h4.keeps (elemC n) hk hX⟩
theorem CellsIn.below {n : Nat} {w w' : World} {D : Nat → Prop} {v : Value} {cs : List CellM} (h : CellsIn n w D v cs) (hb : Below w.heap.size w w') : CellsIn n w' D v cs := h.keeps (Keeps.of_below (X := fun _ => False) hb) fun _ _ h => h
theorem CellsIn.mono {n : Nat} {w : World} {D E : Nat → Prop} {v : Value} {cs : List CellM} (h : CellsIn n w D v cs) (hDE : ∀ b, D b → E b) : CellsIn n w E v cs := by
  obtain ⟨co, ccap, h1, h2, h3, h4⟩ := h
  exact ⟨co, ccap, h1, h2, h3, h4.mono (elemC n) hDE⟩
theorem CellsIn.there {n : Nat} {w : World} {D : Nat → Prop} {v : Value} {cs : List CellM} (h : CellsIn n w D v cs) : CellsIn n w (fun b => D b ∧ b < w.heap.size) v cs := by
  obtain ⟨co, ccap, h1, h2, h3, h4⟩ := h
  exact ⟨co, ccap, h1, h2, h3, h4.there (elemC n) (by decide)⟩
/-- A row. -/
def RowIn (n : Nat) (w : World) (D : Nat → Prop) (cs : List Value) (r : RowM) : Prop := ∃ cv, cs = [.int .i64 r.num, cv] ∧ CellsIn n w D cv r.cells
theorem elemR (n : Nat) : Elem 2 (RowIn n) :=
  ⟨fun ⟨_, h, _⟩ => by rw [h]; rfl, fun ⟨cv, h, h1⟩ u hu => (by
    rw [h] at hu
    simp at hu
    obtain ⟨co, ccap, rfl, _⟩ := h1
    rcases hu with rfl | rfl
    · rfl
    · cases co <;> rfl), fun ⟨cv, h, h1⟩ hk hX => ⟨cv, h, h1.keeps hk hX⟩, fun ⟨cv, h, h1⟩ hDE => ⟨cv, h, h1.mono hDE⟩, fun ⟨cv, h, h1⟩ => ⟨cv, h, h1.there⟩⟩
/-- A test: of its parts only how many they are. -/
def TestIn (_ : World) (_ : Nat → Prop) (cs : List Value) (x : TestM) : Prop := ∃ ko kcap, cs = [.int .i64 x.op, .int .i64 x.num, .string ⟨x.text.toArray⟩, .slice ko x.n kcap]
theorem elemT : Elem 4 TestIn :=
  ⟨fun ⟨_, _, h⟩ => by rw [h]; rfl, fun ⟨ko, _, h⟩ u hu => (by
    rw [h] at hu
    simp at hu
    rcases hu with rfl | rfl | rfl | rfl <;> first | rfl | (cases ko <;> rfl)), fun h _ _ => h, fun h _ => h, fun h => h⟩
/-- A tree: d: no deeper. -/
def TreeIn (w : World) (D : Nat → Prop) : Nat → List Value → TreeM → Prop
  | 0, _, _ => False
  | _ + 1, cs, .leaf k => cs = [.bool true, .int .i64 k, .slice none 0 0, .slice none 0 0, .slice none 0 0]
  | d + 1, cs, .node path tests kids => ∃ pv to_ tcap ko kcap rows, cs = [.bool false, .int .i64 0, pv, .slice to_ tests.length tcap, .slice ko kids.length kcap] ∧ (tests.length ≤ tcap ∧ tcap ≤ 9223372036854775807 ∧ kids.length ≤ kcap ∧ kcap ≤ 9223372036854775807) ∧ PathIn w D pv path ∧ InL 4 TestIn w D to_ tests ∧ RowsAt w ko 5 rows ∧ (kids ≠ [] → ∀ b, blk ko = some b → D b) ∧ All2 (fun r t => TreeIn w D d r t) rows kids
theorem TreeIn.len {w : World} {D : Nat → Prop} : ∀ {d : Nat} {cs : List Value} {t : TreeM}, TreeIn w D d cs t → cs.length = 5
  | 0, _, _, h => h.elim
  | _ + 1, cs, .leaf k, h => by rw [show cs = _ from h]; rfl
  | _ + 1, _, .node _ _ _, ⟨_, _, _, _, _, _, e, _⟩ => by rw [e]; rfl
theorem TreeIn.one {w : World} {D : Nat → Prop} : ∀ {d : Nat} {cs : List Value} {t : TreeM}, TreeIn w D d cs t → ∀ v ∈ cs, v.oneCell' = true
  | 0, _, _, h => h.elim
  | _ + 1, cs, .leaf k, h => by
    intro v hv
    rw [show cs = _ from h] at hv
    simp at hv
    rcases hv with rfl | rfl | rfl <;> rfl
  | _ + 1, _, .node _ _ _, ⟨_, to_, _, ko, _, _, e, _, hp, _⟩ => by
    intro v hv
    rw [e] at hv
    simp at hv
    rcases hv with rfl | rfl | rfl | rfl | rfl
    · rfl
    · rfl
    · exact hp.one
    · cases to_ <;> rfl
    · cases ko <;> rfl
theorem TreeIn.succ {w : World} {D : Nat → Prop} : ∀ {d : Nat} {cs : List Value} {t : TreeM}, TreeIn w D d cs t → TreeIn w D (d + 1) cs t
  | 0, _, _, h => h.elim
  | _ + 1, _, .leaf _, h => h
  | _ + 1, _, .node _ _ _, ⟨pv, to_, tcap, ko, kcap, rows, e, h1, h2, h3, h4, h5, h6⟩ => ⟨pv, to_, tcap, ko, kcap, rows, e, h1, h2, h3, h4, h5, h6.mono fun _ _ _ h => TreeIn.succ h⟩
theorem TreeIn.deep {w : World} {D : Nat → Prop} {d m : Nat} {cs : List Value} {t : TreeM} (h : TreeIn w D d cs t) (hm : d ≤ m) : TreeIn w D m cs t := by
  induction m with
  | zero => obtain rfl : d = 0 := by omega
            exact h
  | succ m ih =>
    rcases Nat.lt_or_ge m d with hlt | hge
    · obtain rfl : d = m + 1 := by omega
      exact h
    · exact (ih hge).succ
theorem TreeIn.keeps {X : Nat → Prop} {w w' : World} {D : Nat → Prop} (hk : Keeps X w w') (hX : ∀ b, D b → ¬ X b) : ∀ {d : Nat} {cs : List Value} {t : TreeM}, TreeIn w D d cs t → TreeIn w' D d cs t
  | 0, _, _, h => h.elim
  | _ + 1, _, .leaf _, h => h
  | _ + 1, _, .node _ _ kids, ⟨pv, to_, tcap, ko, kcap, rows, e, h1, h2, h3, h4, h5, h6⟩ => by
    refine ⟨pv, to_, tcap, ko, kcap, rows, e, h1, h2.keeps hk hX, h3.keeps elemT hk hX, h4.keeps hk fun b hb hne => hX b (h5 ?_ b hb), h5, h6.mono fun _ _ _ h => TreeIn.keeps hk hX h⟩
    rintro rfl
    exact hne (List.eq_nil_of_length_eq_zero (by rw [h6.1]; rfl))
theorem TreeIn.mono {w : World} {D E : Nat → Prop} (hDE : ∀ b, D b → E b) : ∀ {d : Nat} {cs : List Value} {t : TreeM}, TreeIn w D d cs t → TreeIn w E d cs t
  | 0, _, _, h => h.elim
  | _ + 1, _, .leaf _, h => h
  | _ + 1, _, .node _ _ _, ⟨pv, to_, tcap, ko, kcap, rows, e, h1, h2, h3, h4, h5, h6⟩ => ⟨pv, to_, tcap, ko, kcap, rows, e, h1, h2.mono hDE, h3.mono elemT hDE, h4, fun hne b hb => hDE b (h5 hne b hb), h6.mono fun _ _ _ h => TreeIn.mono hDE h⟩
theorem TreeIn.there {w : World} {D : Nat → Prop} : ∀ {d : Nat} {cs : List Value} {t : TreeM}, TreeIn w D d cs t → TreeIn w (fun b => D b ∧ b < w.heap.size) d cs t
  | 0, _, _, h => h.elim
  | _ + 1, _, .leaf _, h => h
  | d + 1, _, .node _ _ kids, ⟨pv, to_, tcap, ko, kcap, rows, e, h1, h2, h3, h4, h5, h6⟩ => by
    refine ⟨pv, to_, tcap, ko, kcap, rows, e, h1, h2.there, h3.there elemT (by decide), h4, fun hne b hb => ⟨h5 hne b hb, ?_⟩, h6.mono fun _ _ _ h => TreeIn.there h⟩
    have hp : 0 < rows.length := by
      rw [h6.1]
      exact List.length_pos_iff.2 hne
    obtain ⟨b', o, rfl, hc⟩ := h4.cell 0 hp
    obtain ⟨x, hx⟩ : ∃ x, kids[0]? = some x := ⟨kids[0]'(by rw [← h6.1]; exact hp), List.getElem?_eq_getElem _⟩
    have hl := (h6.2 0 rows[0] x (List.getElem?_eq_getElem hp) hx).len
    have hcc := hc 0 rows[0][0] (List.getElem?_eq_getElem (by omega))
    have hlt := World.block_lt_of_cell? (a := ⟨b', o + (0 * 5 + 0), none⟩) w hcc
    cases hb
    exact hlt
theorem elemTr (d : Nat) : Elem 5 (fun w D cs (t : TreeM) => TreeIn w D d cs t) :=
  ⟨fun h => h.len, fun h => h.one, fun h hk hX => h.keeps hk hX, fun h hDE => h.mono hDE, fun h => h.there⟩
theorem TreeIn.node {w : World} {D : Nat → Prop} {d : Nat} {cs : List Value} {path : List Nat} {tests : List TestM} {kids : List TreeM} : TreeIn w D (d + 1) cs (.node path tests kids) ↔ ∃ pv to_ tcap ko kcap, cs = [.bool false, .int .i64 0, pv, .slice to_ tests.length tcap, .slice ko kids.length kcap] ∧ (tests.length ≤ tcap ∧ tcap ≤ 9223372036854775807 ∧ kids.length ≤ kcap ∧ kcap ≤ 9223372036854775807) ∧ PathIn w D pv path ∧ InL 4 TestIn w D to_ tests ∧ InL 5 (fun w D cs (t : TreeM) => TreeIn w D d cs t) w D ko kids := by
  constructor
  · rintro ⟨pv, to_, tcap, ko, kcap, rows, e, h1, h2, h3, h4, h5, h6⟩
    exact ⟨pv, to_, tcap, ko, kcap, e, h1, h2, h3, rows, h4, h5, h6⟩
  · rintro ⟨pv, to_, tcap, ko, kcap, e, h1, h2, h3, rows, h4, h5, h6⟩
    exact ⟨pv, to_, tcap, ko, kcap, rows, e, h1, h2, h3, h4, h5, h6⟩
end Go.Proofs.Ytnhdefaagicejaa
