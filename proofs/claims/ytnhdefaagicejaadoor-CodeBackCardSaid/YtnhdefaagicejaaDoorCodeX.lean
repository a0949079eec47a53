/- The walk of the document's step: what it answers, and the ways that it leaves. -/
import Derived.Test.YtnhdefaagicejaaDoorCodeC
namespace Go.Proofs.YtnhdefaagicejaaDoor
set_option linter.unusedSimpArgs false
set_option linter.unusedVariables false
open Go.RowKit

/-- A way in a row of ways; it and its brackets lie in the blocks O. -/
def WayAt (w : World) (O : Nat → Prop) (ao : Option Addr) (i : Nat) (wy : Int × FrP) : Prop :=
  ∃ b o oo ocap, ao = some ⟨b, o, none⟩ ∧ O b ∧ w.cell? ⟨b, o + i * 5, none⟩ = some (.int .i64 wy.1) ∧ w.cell? ⟨b, o + i * 5 + 1, none⟩ = some (.bool true) ∧ w.cell? ⟨b, o + i * 5 + 2, none⟩ = some (.int .i64 (wy.2.fn : Int)) ∧ w.cell? ⟨b, o + i * 5 + 3, none⟩ = some (.int .i64 wy.2.h) ∧ w.cell? ⟨b, o + i * 5 + 4, none⟩ = some (.slice oo wy.2.op.length ocap) ∧ wy.2.op.length ≤ ocap ∧ ocap ≤ 9223372036854775807 ∧ At w oo (intsV wy.2.op) ∧ ∀ b, blk oo = some b → O b
theorem WayAt.keeps {X : Nat → Prop} {w w' : World} {O : Nat → Prop} {ao : Option Addr} {i : Nat} {wy : Int × FrP} (h : WayAt w O ao i wy) (hk : Keeps X w w') (hX : ∀ b, O b → ¬ X b) : WayAt w' O ao i wy := by
  obtain ⟨b, o, oo, ocap, h1, h2, h3, h4, h5, h6, h7, h8, h9, h10, h11⟩ := h
  have hn := hX b h2
  exact ⟨b, o, oo, ocap, h1, h2, keeps_cell hk hn h3, keeps_cell hk hn h4, keeps_cell hk hn h5, keeps_cell hk hn h6, keeps_cell hk hn h7, h8, h9, h10.keeps hk (fun b hb _ => hX b (h11 b hb)), h11⟩
theorem WayAt.mono {w : World} {O E : Nat → Prop} {ao : Option Addr} {i : Nat} {wy : Int × FrP} (h : WayAt w O ao i wy) (hOE : ∀ b, O b → E b) : WayAt w E ao i wy := by
  obtain ⟨b, o, oo, ocap, h1, h2, h3, h4, h5, h6, h7, h8, h9, h10, h11⟩ := h
  exact ⟨b, o, oo, ocap, h1, hOE b h2, h3, h4, h5, h6, h7, h8, h9, h10, fun b hb => hOE b (h11 b hb)⟩
def wayRow (wy : Int × FrP) (oo : Option Addr) (ocap : Nat) : List Value := [.int .i64 wy.1, .bool true, .int .i64 (wy.2.fn : Int), .int .i64 wy.2.h, .slice oo wy.2.op.length ocap]
theorem WayAt.of {w : World} {O : Nat → Prop} {b o : Nat} {xs : List Value} (h : At w (some ⟨b, o, none⟩) xs) (hb : O b) (i : Nat) (wy : Int × FrP) (oo : Option Addr) (ocap : Nat) (hx : ∀ j v, (wayRow wy oo ocap)[j]? = some v → xs[i * 5 + j]? = some v) (h1 : wy.2.op.length ≤ ocap) (h2 : ocap ≤ 9223372036854775807) (h3 : At w oo (intsV wy.2.op)) (h4 : ∀ b, blk oo = some b → O b) : WayAt w O (some ⟨b, o, none⟩) i wy := by
  refine ⟨b, o, oo, ocap, rfl, hb, ?_, ?_, ?_, ?_, ?_, h1, h2, h3, h4⟩
  · exact h.cell (i * 5) _ (hx 0 _ rfl)
  · rw [Nat.add_assoc]; exact h.cell (i * 5 + 1) _ (hx 1 _ rfl)
  · rw [Nat.add_assoc]; exact h.cell (i * 5 + 2) _ (hx 2 _ rfl)
  · rw [Nat.add_assoc]; exact h.cell (i * 5 + 3) _ (hx 3 _ rfl)
  · rw [Nat.add_assoc]; exact h.cell (i * 5 + 4) _ (hx 4 _ rfl)
theorem infoWay : (Tryd.prog.info? 68).map (fun i => (i.zero, i.size, i.bytes)) = some (some (.agg #[.int .i64 0, .bool false, .int .i64 0, .int .i64 0, .slice none 0 0]), 5, 56) := by kernel_rfl
/-- A way more. -/
theorem app_way {w : World} {ops : Array Oper} {rest : List Oper} {o : Oper} {a : Act} {Q : Exit → Act → World → Prop} (hgd : Region.wanted o (yielded ops a.tmps) = true) (s x : Operand)
    (ho : o.op = .call { callee := .builtin .append, args := #[s, x], argTypes := #[64, 64] })
    (base : Nat) (ao : Option Addr) (cap n : Nat) (xs : List Value) (hs : a.eval s = .slice ao n cap) (hown : w.ownsRow base 68 5 (.slice ao n cap) n xs)
    (wy : Int × FrP) (oo : Option Addr) (ocap g : Nat) (hx : a.eval x = .slice (some ⟨g, 0, none⟩) 1 1) (hat : At w (some ⟨g, 0, none⟩) (wayRow wy oo ocap)) (hb : n ≤ 1000) (hbase : base ≤ w.heap.size)
    (h : ∀ ao' cap' w', w'.ownsRow base 68 5 (.slice ao' (n + 1) cap') (n + 1) (xs ++ wayRow wy oo ocap) → w.grownBy w' (blk ao) → wpList Tryd.prog ops Q rest (a.put o.dst (.slice ao' (n + 1) cap')) w') : wpList Tryd.prog ops Q (o :: rest) a w :=
  wpList_go hgd fun _ hK => by
    obtain ⟨i0, hi, hz0, hz1, hz2⟩ := info_parts infoWay
    refine wp_append s x 64 64 ho base 68 i0 (.agg #[.int .i64 0, .bool false, .int .i64 0, .int .i64 0, .slice none 0 0]) 5 56 Tryd.underlying64 hi hz0 hz1 hz2 rfl _ n xs hs hown _ 1 (wayRow wy oo ocap) hx
      (hat.src Tryd.underlying64 rfl (by intro y hy; simp [wayRow] at hy; rcases hy with rfl | rfl | rfl | rfl | rfl <;> rfl) (by decide)) (by unfold maxLen; omega) (by omega) hbase ?_
    intro ao' cap' w' g1 g2 g3
    rw [own_slice] at g2
    exact hK _ _ (h ao' cap' w' g1 g2)
/-- 's[:k]' of ints. -/
theorem op_hiI {w : World} {ops : Array Oper} {rest : List Oper} {o : Oper} {a : Act} {Q : Exit → Act → World → Prop} (hgd : Region.wanted o (yielded ops a.tmps) = true) (x hi : Operand) (ho : o.op = .slice 22 x none (some hi) none)
    (ao : Option Addr) (n cap k : Nat) (hx : a.eval x = .slice ao n cap) (hl : a.eval hi = .int .i64 (k : Int)) (hk : k ≤ cap)
    (h : wpList Tryd.prog ops Q rest (a.put o.dst (.slice ao k cap)) w) : wpList Tryd.prog ops Q (o :: rest) a w := by
  refine wpList_go hgd fun K hK => ?_
  have hr := yields_slice_hi (P := Tryd.prog) (w := w) ho (by kernel_rfl) (by kernel_rfl) hx hl hk w (Below.refl _ _)
  unfold Oper.wp
  rw [hr]
  exact hK _ _ h
/-- What a call to the document's step leaves. -/
def RSteps (w : World) (c : CodeP) (L : List Int) (O : Nat → Prop) (z : Int) (x : InsP) (f : FrP) (e : Ending) (w' : World) : Prop :=
  Below w.heap.size w w' ∧ ((∃ ao cap, (fitsP flC c L x f).1 = true ∧ (x.op = 24 → 0 ≤ x.a ∧ x.a < c.ins.length) ∧ e = .returned (.tuple #[.slice ao (waysP z x f (fitsP flC c L x f).2).length cap, .bool true]) ∧ ∀ i wy, (waysP z x f (fitsP flC c L x f).2)[i]? = some wy → WayAt w' (fun b => O b ∨ (w.heap.size ≤ b ∧ b < w'.heap.size)) ao i wy) ∨
    (((fitsP flC c L x f).1 = false ∨ x.op = 24 ∧ ¬ (0 ≤ x.a ∧ x.a < c.ins.length)) ∧ e = .returned (.tuple #[.slice none 0 0, .bool false])))
theorem intF (a : Int) : (wrap63 a == a) = int63 a ∧ decide (wrap63 a = a) = int63 a := by
  constructor
  · unfold int63
    rw [Bool.eq_iff_iff, beq_iff_eq, wrap63_iff, decide_eq_true_iff]
  · unfold int63
    rw [Bool.eq_iff_iff, decide_eq_true_iff, wrap63_iff, decide_eq_true_iff]
theorem rsteps_no {w W : World} {c : CodeP} {L : List Int} {O : Nat → Prop} {z : Int} {x : InsP} {f : FrP} {e : Ending} (hb : Below w.heap.size w W) (hf : (fitsP flC c L x f).1 = false) (he : e = .returned (.tuple #[.slice none 0 0, .bool false])) : RSteps w c L O z x f e W := ⟨hb, .inr ⟨.inl hf, he⟩⟩
theorem rsteps_none {w W : World} {c : CodeP} {L : List Int} {O : Nat → Prop} {z : Int} {x : InsP} {f : FrP} {e : Ending} (hb : Below w.heap.size w W) (hf : (fitsP flC c L x f).1 = true) (h24 : x.op ≠ 24) (hw : waysP z x f (fitsP flC c L x f).2 = []) (he : e = .returned (.tuple #[.slice none 0 0, .bool true])) : RSteps w c L O z x f e W :=
  ⟨hb, .inl ⟨none, 0, hf, fun h => absurd h h24, by rw [hw]; exact he, fun i wy h => by rw [hw] at h; cases h⟩⟩
theorem owns_some {w : World} {base : Nat} {e : TypeId} {size : Nat} {ao : Option Addr} {n cap : Nat} {xs : List Value} (h : w.ownsRow base e size (.slice ao n cap) n xs) (hn : 0 < n) : ∃ g, ao = some ⟨g, 0, none⟩ ∧ (base ≤ g ∧ g < w.heap.size) := by
  rcases h.2 with ⟨hv, hn0⟩ | ⟨g, cap', cur, hv, hb, hgr, _⟩
  · omega
  · have := Value.slice.inj hv
    exact ⟨g, this.1, hb, (Array.getElem?_eq_some_iff.1 hgr).1⟩
theorem rsteps_one {w W : World} {c : CodeP} {L : List Int} {O : Nat → Prop} {z : Int} {x : InsP} {f : FrP} {e : Ending} {ao oo : Option Addr} {cap ocap : Nat} {wy : Int × FrP} (hb : Below w.heap.size w W) (hf : (fitsP flC c L x f).1 = true) (h24 : x.op ≠ 24) (hw : waysP z x f (fitsP flC c L x f).2 = [wy])
    (hown : W.ownsRow w.heap.size 68 5 (.slice ao (0 + 1) cap) (0 + 1) ([] ++ wayRow wy oo ocap)) (h1 : wy.2.op.length ≤ ocap) (h2 : ocap ≤ 9223372036854775807) (hat : At W oo (intsV wy.2.op)) (hO : ∀ b, blk oo = some b → O b ∨ (w.heap.size ≤ b ∧ b < W.heap.size))
    (he : e = .returned (.tuple #[.slice ao 1 cap, .bool true])) : RSteps w c L O z x f e W := by
  obtain ⟨g, rfl, hg⟩ := owns_some hown (by decide)
  refine ⟨hb, .inl ⟨_, cap, hf, fun h => absurd h h24, by rw [hw]; exact he, fun i wy' hi => ?_⟩⟩
  rw [hw] at hi
  cases i with
  | zero =>
    cases hi
    exact WayAt.of (At.own hown) (.inr hg) 0 _ oo ocap (fun j v hj => by simpa using hj) h1 h2 hat hO
  | succ i => simp at hi
theorem rsteps_two {w W : World} {c : CodeP} {L : List Int} {O : Nat → Prop} {z : Int} {x : InsP} {f : FrP} {e : Ending} {ao oo po : Option Addr} {cap ocap pcap : Nat} {wy wz : Int × FrP} (hb : Below w.heap.size w W) (hf : (fitsP flC c L x f).1 = true) (h24 : x.op = 24 → 0 ≤ x.a ∧ x.a < c.ins.length) (hw : waysP z x f (fitsP flC c L x f).2 = [wy, wz])
    (hown : W.ownsRow w.heap.size 68 5 (.slice ao (0 + 1 + 1) cap) (0 + 1 + 1) (([] ++ wayRow wy oo ocap) ++ wayRow wz po pcap)) (h1 : wy.2.op.length ≤ ocap) (h2 : ocap ≤ 9223372036854775807) (hat : At W oo (intsV wy.2.op)) (hO : ∀ b, blk oo = some b → O b ∨ (w.heap.size ≤ b ∧ b < W.heap.size))
    (g1 : wz.2.op.length ≤ pcap) (g2 : pcap ≤ 9223372036854775807) (gat : At W po (intsV wz.2.op)) (gO : ∀ b, blk po = some b → O b ∨ (w.heap.size ≤ b ∧ b < W.heap.size))
    (he : e = .returned (.tuple #[.slice ao 2 cap, .bool true])) : RSteps w c L O z x f e W := by
  obtain ⟨g, rfl, hg⟩ := owns_some hown (by decide)
  refine ⟨hb, .inl ⟨_, cap, hf, h24, by rw [hw]; exact he, fun i wy' hi => ?_⟩⟩
  rw [hw] at hi
  cases i with
  | zero =>
    cases hi
    refine WayAt.of (At.own hown) (.inr hg) 0 _ oo ocap (fun j v hj => ?_) h1 h2 hat hO
    rw [List.nil_append, List.getElem?_append_left (by have := (List.getElem?_eq_some_iff.1 hj).1; omega)]
    simpa using hj
  | succ i =>
    cases i with
    | zero =>
      cases hi
      refine WayAt.of (At.own hown) (.inr hg) 1 _ po pcap (fun j v hj => ?_) g1 g2 gat gO
      rw [List.nil_append, List.getElem?_append_right (by simp [wayRow])]
      simpa [wayRow] using hj
    | succ i => simp at hi
end Go.Proofs.YtnhdefaagicejaaDoor
