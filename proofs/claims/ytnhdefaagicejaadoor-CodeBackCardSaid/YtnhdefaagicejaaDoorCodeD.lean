/- The document's spots in memory: how steps are come to, one place a step. -/
import Derived.Test.YtnhdefaagicejaaDoorCodeZ
import Derived.Deep.MidRow
namespace Go.Proofs.YtnhdefaagicejaaDoor
set_option linter.unusedSimpArgs false
set_option linter.unusedVariables false
open Go.RowKit

theorem Keeps.setCells (b : Nat) : ∀ (vs : List Value) (o : Nat) (w : World), Keeps (fun i => i = b) w (w.setCells b o vs)
  | [], _, w => Keeps.refl _ w
  | v :: r, o, w => (Keeps.of_grown (X := fun i => i = b) (setCell_grown0 w b o v) rfl).trans' (Keeps.setCells b r (o + 1) _)
def spotRow (f : FrP) (oo : Option Addr) (ocap : Nat) : List Value := [.bool true, .int .i64 (f.fn : Int), .int .i64 f.h, .slice oo f.op.length ocap]
/-- What lies at a place that is taken. -/
def SpotIs (w : World) (O : Nat → Prop) (sb i : Nat) (f : FrP) : Prop := ∃ oo ocap, w.rangeAt sb (i * 4) (spotRow f oo ocap) ∧ f.op.length ≤ ocap ∧ ocap ≤ 9223372036854775807 ∧ At w oo (intsV f.op) ∧ ∀ b, blk oo = some b → O b
/-- The spots of n steps, in the block sb; their brackets lie in the blocks O. -/
structure SpotsAt (w : World) (sb n : Nat) (O : Nat → Prop) (S : Int → Option FrP) : Prop where
  there : ∀ i, i < n → w.there sb (i * 4) 4
  no : ∀ i : Nat, i < n → S i = none → w.cell? ⟨sb, i * 4, none⟩ = some (.bool false)
  yes : ∀ (i : Nat) f, i < n → S i = some f → SpotIs w O sb i f
  dom : ∀ z f, S z = some f → 0 ≤ z ∧ z < n
  lt : sb < w.heap.size
  off : ∀ b, O b → b ≠ sb
theorem rangeAt_keeps {X : Nat → Prop} {w w' : World} {b o : Nat} {cs : List Value} (h : w.rangeAt b o cs) (hk : Keeps X w w') (hX : ¬ X b) : w'.rangeAt b o cs := fun j v hv => keeps_cell hk hX (h j v hv)
theorem SpotIs.keeps {X : Nat → Prop} {w w' : World} {O : Nat → Prop} {sb i : Nat} {f : FrP} (h : SpotIs w O sb i f) (hk : Keeps X w w') (hs : ¬ X sb) (hX : ∀ b, O b → ¬ X b) : SpotIs w' O sb i f := by
  obtain ⟨oo, ocap, h1, h2, h3, h4, h5⟩ := h
  exact ⟨oo, ocap, rangeAt_keeps h1 hk hs, h2, h3, h4.keeps hk (fun b hb _ => hX b (h5 b hb)), h5⟩
theorem SpotsAt.keeps {X : Nat → Prop} {w w' : World} {sb n : Nat} {O : Nat → Prop} {S : Int → Option FrP} (h : SpotsAt w sb n O S) (hk : Keeps X w w') (hs : ¬ X sb) (hX : ∀ b, O b → ¬ X b) : SpotsAt w' sb n O S := by
  have hb := hk.block sb h.lt hs
  exact ⟨fun i hi j hj => ⟨by rw [World.cell?_of_block (a := ⟨sb, i * 4 + j, none⟩) hb]; exact (h.there i hi j hj).1, by rw [World.frozen?_of_block (a := ⟨sb, i * 4 + j, none⟩) hb]; exact (h.there i hi j hj).2⟩, fun i hi hn => (World.cell?_of_block (a := ⟨sb, i * 4, none⟩) hb).trans (h.no i hi hn), fun i f hi hf => (h.yes i f hi hf).keeps hk hs hX, h.dom, Nat.lt_of_lt_of_le h.lt hk.size, h.off⟩
theorem SpotsAt.below {w w' : World} {sb n : Nat} {O : Nat → Prop} {S : Int → Option FrP} (h : SpotsAt w sb n O S) (hb : Below w.heap.size w w') : SpotsAt w' sb n O S := h.keeps (X := fun _ => False) (Keeps.of_below hb) (fun h => h) (fun _ _ h => h)
theorem SpotsAt.mono {w : World} {sb n : Nat} {O E : Nat → Prop} {S : Int → Option FrP} (h : SpotsAt w sb n O S) (hOE : ∀ b, O b → E b) (hE : ∀ b, E b → b ≠ sb) : SpotsAt w sb n E S :=
  ⟨h.there, h.no, fun i f hi hf => by obtain ⟨oo, ocap, h1, h2, h3, h4, h5⟩ := h.yes i f hi hf; exact ⟨oo, ocap, h1, h2, h3, h4, fun b hb => hOE b (h5 b hb)⟩, h.dom, h.lt, hE⟩
/-- A place more is taken. -/
theorem SpotsAt.put {w : World} {sb n : Nat} {O : Nat → Prop} {S : Int → Option FrP} (h : SpotsAt w sb n O S) (k : Nat) (hk : k < n) (g : FrP) (oo : Option Addr) (ocap : Nat) (h1 : g.op.length ≤ ocap) (h2 : ocap ≤ 9223372036854775807) (h3 : At w oo (intsV g.op)) (h4 : ∀ b, blk oo = some b → O b) :
    SpotsAt (w.setCells sb (k * 4) (spotRow g oo ocap)) sb n O (fun z => if z = (k : Int) then some g else S z) := by
  have hkp := Keeps.setCells sb (spotRow g oo ocap) (k * 4) w
  have hat : ∀ {oo : Option Addr} {xs : List Value}, At w oo xs → (∀ b, blk oo = some b → O b) → At (w.setCells sb (k * 4) (spotRow g oo ocap)) oo xs := by
    intro po xs ha hO
    exact ha.keeps (Keeps.setCells sb _ (k * 4) w) (fun b hb _ he => h.off b (hO b hb) he)
  refine ⟨fun i hi => World.there_setCells (h.there i hi) _ _ _, fun i hi hn => ?_, fun i f hi hf => ?_, fun z f hz => ?_, Nat.lt_of_lt_of_le h.lt hkp.size, h.off⟩
  · try simp only at hn
    split at hn
    · cases hn
    · rename_i hne
      rw [World.cell?_setCells_out _ _ _ _ _ (fun _ _ => by show i * 4 < k * 4 ∨ k * 4 + 4 ≤ i * 4; omega)]
      exact h.no i hi hn
  · try simp only at hf
    split at hf
    · rename_i he
      cases hf
      obtain rfl : i = k := by omega
      exact ⟨oo, ocap, World.rangeAt_setCells_same _ _ _ _ (h.there i hi), h1, h2, h3.keeps hkp (fun b hb _ he => h.off b (h4 b hb) he), h4⟩
    · rename_i hne
      obtain ⟨po, pcap, g1, g2, g3, g4, g5⟩ := h.yes i f hi hf
      exact ⟨po, pcap, World.rangeAt_setCells_apart g1 _ _ _ (.inr (by show i * 4 + 4 ≤ k * 4 ∨ k * 4 + 4 ≤ i * 4; omega)), g2, g3, g4.keeps hkp (fun b hb _ he => h.off b (g5 b hb) he), g5⟩
  · try simp only at hz
    split at hz
    · rename_i he
      omega
    · exact h.dom z f hz
theorem SpotIs.val {w : World} {O : Nat → Prop} {sb i : Nat} {f : FrP} (h : SpotIs w O sb i f) : ∃ oo ocap, SpV w O (.agg #[.bool true, .int .i64 (f.fn : Int), .int .i64 f.h, .slice oo f.op.length ocap]) f ∧ w.rangeAt sb (i * 4) (spotRow f oo ocap) := by
  obtain ⟨oo, ocap, h1, h2, h3, h4, h5⟩ := h
  exact ⟨oo, ocap, ⟨oo, ocap, rfl, h2, h3, h4, h5⟩, h1⟩
theorem infoSpot : (Tryd.prog.info? 62).map (fun i => (i.zero, i.size, i.bytes)) = some (some (.agg #[.bool false, .int .i64 0, .int .i64 0, .slice none 0 0]), 4, 48) := by kernel_rfl
theorem made_get (z : Array Value) (m j : Nat) (hj : j < m) : (madeCells z m)[j]? = some (z[j % z.size]!) := by
  unfold madeCells
  rw [Array.getElem?_map, Array.getElem?_range, if_pos hj]
  rfl
theorem made_first (i n : Nat) (hi : i < n) : (madeCells (Value.agg #[.bool false, .int .i64 0, .int .i64 0, .slice none 0 0]).cells (n * 4))[i * 4]? = some (.bool false) := by
  rw [made_get _ _ _ (by omega), show i * 4 % (Value.agg #[.bool false, .int .i64 0, .int .i64 0, .slice none 0 0]).cells.size = 0 from (by show i * 4 % 4 = 0; omega)]
  rfl
/-- 'make([]spot, n)'. -/
theorem op_makeS {w : World} {ops : Array Oper} {rest : List Oper} {o : Oper} {a : Act} {Q : Exit → Act → World → Prop} (hgd : Region.wanted o (yielded ops a.tmps) = true) (x y : Operand) (ho : o.op = .makeSlice 60 x y) (n : Nat) (hx : a.eval x = .int .i64 (n : Int)) (hy : a.eval y = .int .i64 (n : Int)) (hn : n ≤ 1000000000)
    (h : ∀ w', SpotsAt w' w.heap.size n (fun b => b ≠ w.heap.size) (fun _ => none) → w.grownBy w' none → wpList Tryd.prog ops Q rest (a.put o.dst (.slice (some ⟨w.heap.size, 0, none⟩) n n)) w') : wpList Tryd.prog ops Q (o :: rest) a w :=
  wpList_go hgd fun _ hK => by
    obtain ⟨i0, hi, hz0, hz1, hz2⟩ := info_parts infoSpot
    obtain ⟨w', hr, h2, h3⟩ := run_make_full (P := Tryd.prog) w w.heap.size 60 62 i0 _ 4 Tryd.underlying60 hi hz0 hz1 .i64 .i64 n (by rw [hz2]; omega) (by unfold maxLen; omega) (Nat.le_refl _)
    have hrow : ∃ cs : Array Value, w'.heap[w.heap.size]? = some (.cells cs 62 (0, 0)) ∧ cs.size = n * 4 ∧ ∀ i, i < n → cs[i * 4]? = some (.bool false) := by
      rcases h2.2 with ⟨hh, _⟩ | ⟨g', cap, cur, hv, _, hg, hnc, _, hcs, htk⟩
      · cases hh
      · have := Value.slice.inj hv
        obtain ⟨h1, _, rfl⟩ := this
        cases h1
        refine ⟨cur, hg, hcs, fun i hi' => ?_⟩
        rw [List.take_of_length_le (by rw [Array.length_toList]; omega)] at htk
        rw [← Array.getElem?_toList, htk, Array.getElem?_toList]
        exact made_first i n hi'
    obtain ⟨cs, hg, hsz, hc⟩ := hrow
    unfold Oper.wp execOp
    simp only [ho, hx, hy, hr, Sem.run_bind, Sem.run_pure, Result.andThen_ok]
    refine hK _ _ (h w' ⟨fun i hi' j hj => ⟨?_, frozen_of_row _ _ _ _ _ hg⟩, fun i hi' _ => (cell_of_row _ _ (i * 4) _ _ (0, 0) hg).trans (hc i hi'), fun i f _ hf => (by cases hf), fun z f hf => (by cases hf), (Array.getElem?_eq_some_iff.1 hg).1, fun b hb => hb⟩ h3)
    rw [cell_of_row _ _ (i * 4 + j) _ _ (0, 0) hg, Array.getElem?_eq_getElem (by omega)]
    rfl
theorem SpotsAt.empty {w : World} {sb n : Nat} {O E : Nat → Prop} (h : SpotsAt w sb n O (fun _ => none)) (hE : ∀ b, E b → b ≠ sb) : SpotsAt w sb n E (fun _ => none) :=
  ⟨h.there, h.no, fun i f _ hf => (by cases hf), fun z f hf => (by cases hf), h.lt, hE⟩
theorem seq_ldRI {o : Oper} {x : Operand} {a : Act} {w : World} (ho : o.op = .load 23 x) {ad : Addr} {v : Value} (hx : a.eval x = .pointer (some ad)) (hc : w.cell? ad = some v) :
    ∀ w', Below w.heap.size w w' → (execOp a.eval o).run Tryd.prog w' = .ok (.value v) w' := by
  intro w' hb
  have hc' := (World.cell?_of_block (hb.block ad.block (World.block_lt_of_cell? (a := ad) w hc))).trans hc
  have hu := Tryd.underlying23
  unfold execOp
  simp only [ho, hx]
  go_simp
/-- A whole spot, loaded. -/
theorem seq_ldSp {o : Oper} {x : Operand} {a : Act} {w : World} (ho : o.op = .load 62 x) {b f : Nat} {c0 c1 c2 c3 : Value} (hx : a.eval x = .pointer (some ⟨b, f, none⟩)) (hc : w.rangeAt b f [c0, c1, c2, c3]) :
    ∀ w', Below w.heap.size w w' → (execOp a.eval o).run Tryd.prog w' = .ok (.value (.agg #[c0, c1, c2, c3])) w' := by
  intro w' hb
  have hc' : w'.rangeAt b f [c0, c1, c2, c3] := fun j v hv => (World.cell?_of_block (a := ⟨b, f + j, none⟩) (hb.block b (World.block_lt_of_cell? (a := ⟨b, f + j, none⟩) w (hc j v hv)))).trans (hc j v hv)
  unfold execOp
  simp only [ho, hx, run_loadAt_mid w' b f 62 [c0, c1, c2, c3] _ hc' Tryd.underlying62 rfl (by kernel_rfl), Sem.run_bind, Sem.run_pure, Result.andThen_ok]
theorem range_row {w : World} {b f : Nat} {c0 c1 c2 c3 : Value} (h0 : w.cell? ⟨b, f, none⟩ = some c0) (h1 : w.cell? ⟨b, f + 1, none⟩ = some c1) (h2 : w.cell? ⟨b, f + 2, none⟩ = some c2) (h3 : w.cell? ⟨b, f + 3, none⟩ = some c3) : w.rangeAt b f [c0, c1, c2, c3] := by
  intro j v hv
  match j, hv with
  | 0, hv => cases hv; exact h0
  | 1, hv => cases hv; exact h1
  | 2, hv => cases hv; exact h2
  | 3, hv => cases hv; exact h3
  | j + 4, hv => simp at hv
theorem runWays_snoc (c : CodeP) : ∀ (ws : List (Int × FrP)) (wy : Int × FrP) (S : Int → Option FrP) (W : List Int) (S' : Int → Option FrP) (W' : List Int), runWays c ws S W = some (S', W') →
    runWays c (ws ++ [wy]) S W = if comeOk c S' wy.1 wy.2 = true then some (comeS S' wy.1 wy.2, comeW S' W' wy.1) else none
  | [], wy, S, W, S', W', h => by
    simp only [runWays, Option.some.injEq, Prod.mk.injEq] at h
    obtain ⟨rfl, rfl⟩ := h
    simp only [List.nil_append, runWays]
  | (d, g) :: ws, wy, S, W, S', W', h => by
    simp only [List.cons_append, runWays] at h ⊢
    split at h
    · rename_i hok
      rw [if_pos hok]
      exact runWays_snoc c ws wy _ _ S' W' h
    · cases h
theorem runWays_none (c : CodeP) : ∀ (ws vs : List (Int × FrP)) (S : Int → Option FrP) (W : List Int), runWays c ws S W = none → runWays c (ws ++ vs) S W = none
  | [], _, _, _, h => by simp [runWays] at h
  | (d, g) :: ws, vs, S, W, h => by
    simp only [List.cons_append, runWays] at h ⊢
    split at h
    · rename_i hok
      rw [if_pos hok]
      exact runWays_none c ws vs _ _ h
    · rename_i hok
      rw [if_neg hok]
theorem runWays_fail {c : CodeP} {ws : List (Int × FrP)} {i : Nat} (hi : i < ws.length) {S : Int → Option FrP} {W : List Int} {S' : Int → Option FrP} {W' : List Int} (h : runWays c (ws.take i) S W = some (S', W')) (hno : comeOk c S' ws[i].1 ws[i].2 = false) : runWays c ws S W = none := by
  have h1 := runWays_snoc c (ws.take i) ws[i] S W S' W' h
  rw [hno] at h1
  have h2 := runWays_none c _ (ws.drop (i + 1)) S W h1
  rwa [← List.take_succ_eq_append_getElem hi, List.take_append_drop] at h2
theorem ways_len {z : Int} {x : InsP} {f : FrP} {by_ : Int} : ∀ wy ∈ waysP z x f by_, wy.2.op.length ≤ f.op.length + 1 := by
  intro wy hw
  unfold waysP at hw
  split at hw <;> simp at hw <;> (try rcases hw with rfl | rfl) <;> (try subst hw) <;> simp <;> omega
theorem ways_few {z : Int} {x : InsP} {f : FrP} {by_ : Int} : (waysP z x f by_).length ≤ 2 := by
  unfold waysP
  split <;> simp
/-- The whole code, loaded. -/
theorem seq_ldCo {o : Oper} {x : Operand} {a : Act} {w : World} (ho : o.op = .load 26 x) {b f : Nat} {c0 c1 c2 c3 : Value} (hx : a.eval x = .pointer (some ⟨b, f, none⟩)) (hc : w.rangeAt b f [c0, c1, c2, c3]) :
    ∀ w', Below w.heap.size w w' → (execOp a.eval o).run Tryd.prog w' = .ok (.value (.agg #[c0, c1, c2, c3])) w' := by
  intro w' hb
  have hc' : w'.rangeAt b f [c0, c1, c2, c3] := fun j v hv => (World.cell?_of_block (a := ⟨b, f + j, none⟩) (hb.block b (World.block_lt_of_cell? (a := ⟨b, f + j, none⟩) w (hc j v hv)))).trans (hc j v hv)
  unfold execOp
  simp only [ho, hx, run_loadAt_mid w' b f 26 [c0, c1, c2, c3] _ hc' Tryd.underlying26 rfl (by kernel_rfl), Sem.run_bind, Sem.run_pure, Result.andThen_ok]
end Go.Proofs.YtnhdefaagicejaaDoor
