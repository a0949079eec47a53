/- Maps whose keys are ints, their elements any value of one cell: what they hold, a look-up, a store. No program in sight. -/
import Derived.Test.YtnhdefaagicejaaDoorKeeps
import Derived.MapKept
import Derived.Maps.Own
import Derived.Maps.OwnOps
namespace Go.Proofs.YtnhdefaagicejaaDoor
set_option linter.unusedSimpArgs false
set_option linter.unusedVariables false
open Go.RowKit

/-- What a map's entries say. -/
def MapIs (es : Array MapEntry) (f : Int → Option Value) : Prop :=
  (∀ e ∈ es.toList, ∃ z, e.key = .int .i64 z) ∧ (es.toList.map (·.key)).Nodup ∧ ∀ z v, f z = some v ↔ ∃ e ∈ es.toList, e.key = .int .i64 z ∧ e.val = v
/-- A map lies in a block. -/
def MapAt (w : World) (b : Nat) (f : Int → Option Value) : Prop := ∃ es clock, w.heap[b]? = some (.map es clock) ∧ MapIs es f
theorem MapAt.lt {w : World} {b : Nat} {f : Int → Option Value} (h : MapAt w b f) : b < w.heap.size := by
  obtain ⟨es, c, h, _⟩ := h
  exact (Array.getElem?_eq_some_iff.1 h).1
theorem MapAt.keep {w w' : World} {b : Nat} {f : Int → Option Value} (h : MapAt w b f) (hk : w'.heap[b]? = w.heap[b]?) : MapAt w' b f := by
  obtain ⟨es, c, h, hm⟩ := h
  exact ⟨es, c, hk.trans h, hm⟩
theorem MapAt.below {w w' : World} {b : Nat} {f : Int → Option Value} (h : MapAt w b f) (hb : Below w.heap.size w w') : MapAt w' b f := h.keep (hb.block b h.lt)
theorem MapAt.keeps {X : Nat → Prop} {w w' : World} {b : Nat} {f : Int → Option Value} (h : MapAt w b f) (hk : Keeps X w w') (hX : ¬ X b) : MapAt w' b f := h.keep (hk.block b h.lt hX)
theorem MapAt.made (w : World) : MapAt (w.alloc (.map #[] 0)) w.heap.size (fun _ => none) :=
  ⟨#[], 0, heap_alloc_new w _, by simp [MapIs]⟩
/-- The map with one element more, or another one. -/
def putM (f : Int → Option Value) (n : Int) (v : Value) : Int → Option Value := fun z => if z = n then some v else f z

theorem mapIs_push {es : Array MapEntry} {f : Int → Option Value} (h : MapIs es f) (n : Int) (v : Value) (c : Nat) (hn : ∀ x ∈ es.toList, x.key ≠ .int .i64 n) : MapIs (es.push { key := .int .i64 n, val := v, born := c }) (putM f n v) := by
  obtain ⟨h1, h2, h3⟩ := h
  refine ⟨?_, ?_, ?_⟩
  · intro e he
    rw [Array.toList_push, List.mem_append, List.mem_singleton] at he
    rcases he with he | rfl
    · exact h1 e he
    · exact ⟨n, rfl⟩
  · rw [Array.toList_push, List.map_append, List.nodup_append]
    refine ⟨h2, by simp, ?_⟩
    intro a ha b hb
    obtain ⟨e, he, rfl⟩ := List.mem_map.1 ha
    simp at hb
    rw [hb]
    exact hn e he
  · intro z u
    simp only [putM, Array.toList_push, List.mem_append, List.mem_singleton]
    by_cases hz : z = n
    · rw [if_pos hz]
      subst hz
      constructor
      · rintro ⟨rfl⟩; exact ⟨_, .inr rfl, rfl, rfl⟩
      · rintro ⟨e, he | rfl, hk, hv⟩
        · exact absurd hk (hn e he)
        · simpa using hv
    · rw [if_neg hz, h3]
      constructor
      · rintro ⟨e, he, hk⟩; exact ⟨e, .inl he, hk⟩
      · rintro ⟨e, he | rfl, hk, hv⟩
        · exact ⟨e, he, hk, hv⟩
        · simp at hk; exact absurd hk.symm hz
theorem nodup_idx {α : Type} {l : List α} (h : l.Nodup) {i j : Nat} {x : α} (hi : l[i]? = some x) (hj : l[j]? = some x) : i = j := by
  obtain ⟨h1, e1⟩ := List.getElem?_eq_some_iff.1 hi
  obtain ⟨h2, e2⟩ := List.getElem?_eq_some_iff.1 hj
  exact (List.getElem_inj h).1 (e1.trans e2.symm)
theorem mapIs_modify {es : Array MapEntry} {f : Int → Option Value} (h : MapIs es f) (n : Int) (v : Value) (j : Nat) (e0 : MapEntry) (hj : es[j]? = some e0) (hk0 : e0.key = .int .i64 n) : MapIs (es.modify j fun e => { e with key := .int .i64 n, val := v }) (putM f n v) := by
  obtain ⟨h1, h2, h3⟩ := h
  have hkeys : (es.modify j fun e => { e with key := .int .i64 n, val := v }).toList.map (·.key) = es.toList.map (·.key) := by
    apply List.ext_getElem?
    intro i
    rw [List.getElem?_map, List.getElem?_map, Array.getElem?_toList, Array.getElem?_toList, Array.getElem?_modify]
    split
    · rename_i hij; subst hij; rw [hj]; simp [hk0]
    · rfl
  have hget : ∀ i e, (es.modify j fun e => { e with key := .int .i64 n, val := v })[i]? = some e ↔ (i = j ∧ e = { e0 with key := .int .i64 n, val := v }) ∨ (i ≠ j ∧ es[i]? = some e) := by
    intro i e
    rw [Array.getElem?_modify]
    by_cases hij : j = i
    · subst hij; rw [if_pos rfl, hj]; simp [eq_comm]
    · rw [if_neg hij]; simp [Ne.symm hij]
  refine ⟨?_, by rw [hkeys]; exact h2, ?_⟩
  · intro e he
    have : e.key ∈ es.toList.map (·.key) := by rw [← hkeys]; exact List.mem_map_of_mem he
    obtain ⟨e', he', hk⟩ := List.mem_map.1 this
    rw [← hk]
    exact h1 e' he'
  · intro z u
    have hmem : ∀ e : MapEntry, e ∈ (es.modify j fun e => { e with key := .int .i64 n, val := v }).toList ↔ ∃ i : Nat, (es.modify j fun e => { e with key := .int .i64 n, val := v })[i]? = some e := by
      intro e; rw [Array.mem_toList_iff, Array.mem_iff_getElem?]
    have hmem0 : ∀ e : MapEntry, e ∈ es.toList ↔ ∃ i : Nat, es[i]? = some e := by intro e; rw [Array.mem_toList_iff, Array.mem_iff_getElem?]
    unfold putM
    by_cases hz : z = n
    · rw [if_pos hz]
      subst hz
      constructor
      · rintro ⟨rfl⟩
        exact ⟨_, (hmem _).2 ⟨j, (hget _ _).2 (.inl ⟨rfl, rfl⟩)⟩, rfl, rfl⟩
      · rintro ⟨e, he, hk, hv⟩
        obtain ⟨i, hi⟩ := (hmem e).1 he
        rcases (hget i e).1 hi with ⟨_, rfl⟩ | ⟨hij, hi'⟩
        · simpa using hv
        · refine absurd (nodup_idx h2 (i := i) (j := j) (x := .int .i64 z) ?_ ?_) hij
          · rw [List.getElem?_map, Array.getElem?_toList, hi']; simp [hk]
          · rw [List.getElem?_map, Array.getElem?_toList, hj]; simp [hk0]
    · rw [if_neg hz, h3]
      constructor
      · rintro ⟨e, he, hk, hv⟩
        obtain ⟨i, hi⟩ := (hmem0 e).1 he
        refine ⟨e, (hmem e).2 ⟨i, (hget i e).2 (.inr ⟨?_, hi⟩)⟩, hk, hv⟩
        rintro rfl
        rw [hj] at hi
        cases hi
        rw [hk0] at hk
        simp at hk
        exact hz hk.symm
      · rintro ⟨e, he, hk, hv⟩
        obtain ⟨i, hi⟩ := (hmem e).1 he
        rcases (hget i e).1 hi with ⟨_, rfl⟩ | ⟨hij, hi'⟩
        · simp at hk; exact absurd hk.symm hz
        · exact ⟨e, (hmem0 e).2 ⟨i, hi'⟩, hk, hv⟩

section
variable {P : Program} {mty kt et : TypeId}
theorem isKeys {es : Array MapEntry} {f : Int → Option Value} (h : MapIs es f) : ∀ x ∈ es.toList, MapKept.IsKey (.int .i64) x.key := by
  intro x hx
  obtain ⟨z, hz⟩ := h.1 x hx
  rw [hz]; rfl

theorem run_mapUpdate_int {w : World} {b : Nat} {f : Int → Option Value} (hm : P.underlying mty = some (.map kt et)) (hd : P.underlying kt = some (.int .i64)) (h : MapAt w b f) (n : Int) (v : Value) :
    ∃ w', (Instr.mapUpdate mty (.map (some b)) (.int .i64 n) v).run P w = .ok () w' ∧ MapAt w' b (putM f n v) ∧ w.grownBy w' (some b) := by
  obtain ⟨es, clock, hb, his⟩ := h
  have hlt := (Array.getElem?_eq_some_iff.1 hb).1
  have hset : ∀ o : Obj, ({ w with heap := w.heap.setIfInBounds b o } : World).heap[b]? = some o ∧ w.grownBy { w with heap := w.heap.setIfInBounds b o } (some b) := by
    intro o
    refine ⟨by simp [hlt], rfl, rfl, rfl, by simp, fun k _ hk => ?_⟩
    simp only
    rw [Array.getElem?_setIfInBounds_ne]
    rintro rfl
    exact hk rfl
  have hk : MapKept.IsKey (.int .i64) (.int .i64 n) := rfl
  rcases MapKept.findNow_spec hk es.toList 0 (isKeys his) with ⟨h1, h2⟩ | ⟨j, e, h1, h2, h3⟩
  · refine ⟨_, ?_, ⟨_, clock + 1, (hset (.map (es.push { key := .int .i64 n, val := v, born := clock }) (clock + 1))).1, mapIs_push his n v clock h2⟩, (hset _).2⟩
    simp [Instr.mapUpdate, run_underlying hm, MapKept.run_getObj_map hb, MapKept.run_checkKey hd hk, MapKept.run_findKey hd h1, MapKept.run_setObj_map _ hb, Result.andThen]
  · have hj : es[j]? = some e := by simpa using h2
    refine ⟨_, ?_, ⟨_, clock, (hset (.map (es.modify j fun e => { e with key := .int .i64 n, val := v }) clock)).1, mapIs_modify his n v j e hj h3⟩, (hset _).2⟩
    simp [Instr.mapUpdate, run_underlying hm, MapKept.run_getObj_map hb, MapKept.run_checkKey hd hk, MapKept.run_findKey hd h1, hj, h3, MapKept.run_keyThatStays hk, MapKept.run_setObj_map _ hb, Result.andThen]

theorem run_lookup_int {w : World} {b : Nat} {f : Int → Option Value} (hm : P.underlying mty = some (.map kt et)) (hd : P.underlying kt = some (.int .i64)) (h : MapAt w b f) (n : Int) (z : Value) (hz : (zeroValue et).run P w = .ok z w) (c : Bool) :
    (Instr.lookup mty (.map (some b)) (.int .i64 n) c).run P w = .ok (if c then .tuple #[(f n).getD z, .bool (f n).isSome] else (f n).getD z) w := by
  obtain ⟨es, clock, hb, his⟩ := h
  have hk : MapKept.IsKey (.int .i64) (.int .i64 n) := rfl
  rcases MapKept.findNow_spec hk es.toList 0 (isKeys his) with ⟨h1, h2⟩ | ⟨j, e, h1, h2, h3⟩
  · have hf : f n = none := by
      cases hfn : f n with
      | none => rfl
      | some v =>
        obtain ⟨e, he, hek, _⟩ := (his.2.2 n v).1 hfn
        exact absurd hek (h2 e he)
    rw [hf]
    simp [Instr.lookup, run_underlying hm, MapKept.run_getObj_map hb, MapKept.run_checkKey hd hk, MapKept.run_findKey hd h1, hz, Result.andThen]
  · have hf : f n = some e.val := (his.2.2 n e.val).2 ⟨e, List.mem_of_getElem? h2, h3, rfl⟩
    rw [hf]
    simp [Instr.lookup, run_underlying hm, MapKept.run_getObj_map hb, MapKept.run_checkKey hd hk, MapKept.run_findKey hd h1, Result.andThen]

/-- FOR THE WALK. -/
theorem op_mapUpdate {w : World} {ops : Array Oper} {rest : List Oper} {o : Oper} {a : Act} {Q : Exit → Act → World → Prop} (hgd : Region.wanted o (yielded ops a.tmps) = true) (m k x : Operand) (ho : o.op = .mapUpdate mty m k x)
    (hm : P.underlying mty = some (.map kt et)) (hd : P.underlying kt = some (.int .i64)) (b : Nat) (f : Int → Option Value) (h : MapAt w b f) (n : Int) (v : Value) (hmv : a.eval m = .map (some b)) (hkv : a.eval k = .int .i64 n) (hxv : a.eval x = v)
    (hk : ∀ w', MapAt w' b (putM f n v) → w.grownBy w' (some b) → wpList P ops Q rest (a.put o.dst undef) w') : wpList P ops Q (o :: rest) a w := by
  refine wpList_go hgd fun K hK => ?_
  obtain ⟨w', hr, h1, h2⟩ := run_mapUpdate_int (P := P) hm hd h n v
  unfold Oper.wp execOp
  simp only [ho, hmv, hkv, hxv, hr, Sem.run_bind, Sem.run_pure, Result.andThen_ok]
  exact hK _ _ (hk w' h1 h2)
theorem op_lookup {w : World} {ops : Array Oper} {rest : List Oper} {o : Oper} {a : Act} {Q : Exit → Act → World → Prop} (hgd : Region.wanted o (yielded ops a.tmps) = true) (m k : Operand) (ho : o.op = .lookup mty m k true)
    (hm : P.underlying mty = some (.map kt et)) (hd : P.underlying kt = some (.int .i64)) (b : Nat) (f : Int → Option Value) (h : MapAt w b f) (n : Int) (z : Value) (hz : (zeroValue et).run P w = .ok z w) (hmv : a.eval m = .map (some b)) (hkv : a.eval k = .int .i64 n)
    (hk : wpList P ops Q rest (a.put o.dst (.tuple #[(f n).getD z, .bool (f n).isSome])) w) : wpList P ops Q (o :: rest) a w := by
  refine wpList_go hgd fun K hK => ?_
  have hr := run_lookup_int (P := P) hm hd h n z hz true
  unfold Oper.wp execOp
  simp only [ho, hmv, hkv, hr, Sem.run_bind, Sem.run_pure, Result.andThen_ok]
  exact hK _ _ hk
end

end Go.Proofs.YtnhdefaagicejaaDoor
