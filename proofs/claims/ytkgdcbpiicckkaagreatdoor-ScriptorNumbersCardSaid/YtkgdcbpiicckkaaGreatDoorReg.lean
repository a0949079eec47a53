/- A region that draws its order, gone through in the order of the text: whatever comes up only grows the world, so what is read meanwhile stays. No program in sight. -/
import Derived.Test.YtkgdcbpiicckkaaGreatDoorBase
import Derived.Deep.RegionHeld3
namespace Go.Proofs.YtkgdcbpiicckkaaGreatDoor
set_option linter.unusedSimpArgs false
set_option linter.unusedVariables false
open Go.RowKit

section
variable {P : Program} {ops : Array Oper} {Q : Exit → Act → World → Prop}

/-- Behind 'k' operations of the text's order: the rest in whatever order, and each only grows the world. -/
def Seq (P : Program) (ops : Array Oper) (Q : Exit → Act → World → Prop) (k : Nat) (listed : Array Bool) (a : Act) (w : World) : Prop :=
  wpAnyH P .any ops Q (fun w' => Below w.heap.size w w') k listed a w

theorem wpAnyH_stronger {md : Region.Mode} {S S' : World → Prop} (hS : ∀ w, S' w → S w) : ∀ (fuel : Nat) (listed : Array Bool) (a : Act) (w : World), wpAnyH P md ops Q S' fuel listed a w → wpAnyH P md ops Q S fuel listed a w
  | 0, _, _, _, h => h
  | fuel + 1, _, _, _, h => ⟨h.1, fun i hi => wpOp_mono (fun a' w' h' => ⟨hS w' h'.1, wpAnyH_stronger hS fuel _ a' w' h'.2⟩) (h.2 i hi)⟩

theorem seq_start {id : Nat} {a : Act} {w : World} (hm : P.follows .mixedOrders = true) (h : Seq P ops Q ops.size (Array.replicate ops.size false) a w.drew) : (Code.region id ops true).wp P Q a w :=
  wp_region_held hm h

theorem below_drew {w w' : World} (h : Below w.drew.heap.size w.drew w') : Below w.heap.size w w' := (Below.refl w.heap.size w).drew.trans h

/-- The world has only grown (a name that the walk does not look behind). -/
def Grew (w w' : World) : Prop := Below w.heap.size w w'

/-- What may be taken first: closed facts. -/
def takeOk (ops : Array Oper) (listed : Array Bool) (i : Nat) : Bool := Region.noSelect ops && Region.free .any ops listed i && (Region.ready .any ops listed).contains i

theorem seq_take (i : Nat) {o : Oper} {v : Value} {k : Nat} {listed : Array Bool} {a : Act} {w : World} (hi : ops[i]? = some o) (hok : takeOk ops listed i = true)
    (hQ : ∀ c a w, Q (.panic c) (a.put o.dst v) w → Q (.panic c) a w) (hw : Region.wanted o (yielded ops a.tmps) = true)
    (hy : ∀ w', Grew w w' → (execOp a.eval o).run P w' = .ok (.value v) w')
    (h : Seq P ops Q k (listed.setIfInBounds i true) (a.put o.dst v) w) : Seq P ops Q (k + 1) listed a w := by
  simp only [takeOk, Bool.and_eq_true] at hok
  exact wpAnyH_take hi hok.1.1 hok.1.2 hok.2 hQ (.inl ⟨hw, fun w' hw' => hy w' hw'⟩) (Below.refl _ _) h

theorem seq_skip (i : Nat) {o : Oper} {k : Nat} {listed : Array Bool} {a : Act} {w : World} (hi : ops[i]? = some o) (hok : takeOk ops listed i = true)
    (hQ : ∀ c a w, Q (.panic c) (a.put o.dst undef) w → Q (.panic c) a w) (hw : Region.wanted o (yielded ops a.tmps) = false)
    (h : Seq P ops Q k (listed.setIfInBounds i true) (a.put o.dst undef) w) : Seq P ops Q (k + 1) listed a w := by
  simp only [takeOk, Bool.and_eq_true] at hok
  exact wpAnyH_take hi hok.1.1 hok.1.2 hok.2 hQ (.inr ⟨hw, rfl⟩) (Below.refl _ _) h

/-- The one operation that may come up is carried out. -/
theorem seq_run (i : Nat) {o : Oper} {k : Nat} {listed : Array Bool} {a : Act} {w : World} (hi : ops[i]? = some o) (hr : Region.ready .any ops listed = [i]) (hw : Region.wanted o (yielded ops a.tmps) = true)
    (h : ∀ K : Act → World → Prop, (∀ a' w', (Below w.heap.size w w' ∧ Seq P ops Q k (listed.setIfInBounds i true) a' w') → K a' w') → o.wp P a w K Q) : Seq P ops Q (k + 1) listed a w := by
  refine wpAnyH_all hr (by simp) fun j hj => ?_
  obtain rfl : j = i := by simpa using hj
  unfold wpOp
  simp only [hi, hw, if_true]
  refine .inl (h _ fun a' w' ⟨hb, hs⟩ => ⟨hb, wpAnyH_stronger (fun w'' h'' => hb.trans (h''.mono hb.size)) _ _ _ _ hs⟩)

theorem seq_done {listed : Array Bool} {a : Act} {w : World} {k : Nat} (hr : Region.ready .any ops listed = []) (h : Q .normal a w) : Seq P ops Q k listed a w :=
  wpAnyH_done hr h k

/-- The same with a fixed mark 'B': blocks from B on may be written meanwhile. -/
def SeqB (P : Program) (ops : Array Oper) (Q : Exit → Act → World → Prop) (B : Nat) (k : Nat) (listed : Array Bool) (a : Act) (w : World) : Prop :=
  wpAnyH P .any ops Q (fun w' => Below B w w') k listed a w
/-- Below a mark the world is as it was (a name that the walk does not look behind). -/
def GrewB (B : Nat) (w w' : World) : Prop := Below B w w'
theorem seqb_start (B : Nat) {id : Nat} {a : Act} {w : World} (hm : P.follows .mixedOrders = true) (h : SeqB P ops Q B ops.size (Array.replicate ops.size false) a w.drew) : (Code.region id ops true).wp P Q a w :=
  wp_region_held hm h
theorem seqb_raise {B B' : Nat} {k : Nat} {listed : Array Bool} {a : Act} {w : World} (hB : B ≤ B') (h : SeqB P ops Q B' k listed a w) : SeqB P ops Q B k listed a w :=
  wpAnyH_stronger (fun _ h => h.mono hB) _ _ _ _ h
theorem seqb_take (i : Nat) {B : Nat} {o : Oper} {v : Value} {k : Nat} {listed : Array Bool} {a : Act} {w : World} (hi : ops[i]? = some o) (hok : takeOk ops listed i = true)
    (hQ : ∀ c a w, Q (.panic c) (a.put o.dst v) w → Q (.panic c) a w) (hw : Region.wanted o (yielded ops a.tmps) = true)
    (hy : ∀ w', GrewB B w w' → (execOp a.eval o).run P w' = .ok (.value v) w')
    (h : SeqB P ops Q B k (listed.setIfInBounds i true) (a.put o.dst v) w) : SeqB P ops Q B (k + 1) listed a w := by
  simp only [takeOk, Bool.and_eq_true] at hok
  exact wpAnyH_take hi hok.1.1 hok.1.2 hok.2 hQ (.inl ⟨hw, fun w' hw' => hy w' hw'⟩) (Below.refl _ _) h
theorem seqb_skip (i : Nat) {B : Nat} {o : Oper} {k : Nat} {listed : Array Bool} {a : Act} {w : World} (hi : ops[i]? = some o) (hok : takeOk ops listed i = true)
    (hQ : ∀ c a w, Q (.panic c) (a.put o.dst undef) w → Q (.panic c) a w) (hw : Region.wanted o (yielded ops a.tmps) = false)
    (h : SeqB P ops Q B k (listed.setIfInBounds i true) (a.put o.dst undef) w) : SeqB P ops Q B (k + 1) listed a w := by
  simp only [takeOk, Bool.and_eq_true] at hok
  exact wpAnyH_take hi hok.1.1 hok.1.2 hok.2 hQ (.inr ⟨hw, rfl⟩) (Below.refl _ _) h
theorem seqb_run (i : Nat) {B : Nat} {o : Oper} {k : Nat} {listed : Array Bool} {a : Act} {w : World} (hi : ops[i]? = some o) (hr : Region.ready .any ops listed = [i]) (hw : Region.wanted o (yielded ops a.tmps) = true)
    (h : ∀ K : Act → World → Prop, (∀ a' w', (Below B w w' ∧ SeqB P ops Q B k (listed.setIfInBounds i true) a' w') → K a' w') → o.wp P a w K Q) : SeqB P ops Q B (k + 1) listed a w := by
  refine wpAnyH_all hr (by simp) fun j hj => ?_
  obtain rfl : j = i := by simpa using hj
  unfold wpOp
  simp only [hi, hw, if_true]
  refine .inl (h _ fun a' w' ⟨hb, hs⟩ => ⟨hb, wpAnyH_stronger (fun w'' h'' => hb.trans h'') _ _ _ _ hs⟩)
theorem seqb_done {B : Nat} {listed : Array Bool} {a : Act} {w : World} {k : Nat} (hr : Region.ready .any ops listed = []) (h : Q .normal a w) : SeqB P ops Q B k listed a w :=
  wpAnyH_done hr h k

/-! ### Regions whose last operations write: what is read is read before any of them. -/
def anyL (lates : List Nat) (listed : Array Bool) : Bool := lates.any fun m => listed.getD m false
/-- What waits for number i, at first or at last. -/
def upTo (ops : Array Oper) : List Nat → List Nat → List Nat
  | [], R => R
  | m :: r, R => upTo ops r (if (match ops[m]? with | some o => o.after.any fun e => Region.binds .any e && R.contains e.on | none => false) then m :: R else R)
/-- Every one of the late operations waits for number i. -/
def waits (ops : Array Oper) (lates : List Nat) (i : Nat) : Bool := lates.all fun m => m != i && (upTo ops (List.range ops.size) [i]).contains m
/-- What has come up had nothing to wait for. -/
def closedB (ops : Array Oper) (listed : Array Bool) : Bool := (List.range ops.size).all fun m => !listed.getD m false || (match ops[m]? with | some o => o.after.all fun e => !Region.binds .any e || listed.getD e.on false | none => true)
def Closed (ops : Array Oper) (listed : Array Bool) : Prop := ∀ m o, ops[m]? = some o → listed.getD m false = true → ∀ e ∈ o.after, Region.binds .any e = true → listed.getD e.on false = true
theorem closed_of {listed : Array Bool} (h : closedB ops listed = true) : Closed ops listed := by
  intro m o ho hl e he hb
  unfold closedB at h
  rw [List.all_eq_true] at h
  have hm : m < ops.size := by rcases Nat.lt_or_ge m ops.size with h | h; exact h; rw [Array.getElem?_eq_none h] at ho; cases ho
  have := h m (List.mem_range.2 hm)
  rw [hl, ho] at this
  simp only [Bool.not_true, Bool.false_or] at this
  rw [Array.all_eq_true_iff_forall_mem] at this
  have := this e he
  simpa [hb] using this
theorem getD_set_mono {listed : Array Bool} {j x : Nat} (h : listed.getD x false = true) : (listed.setIfInBounds j true).getD x false = true := by
  by_cases hjx : j = x
  · subst hjx
    rcases Nat.lt_or_ge j listed.size with h' | h'
    · simp [Array.getD_eq_getD_getElem?, h']
    · simp [Array.getD_eq_getD_getElem?, Array.getElem?_eq_none h'] at h
  · simpa [Array.getD_eq_getD_getElem?, Array.getElem?_setIfInBounds_ne hjx] using h
theorem Closed.set {listed : Array Bool} {j : Nat} (h : Closed ops listed) (hj : j ∈ Region.ready .any ops listed) : Closed ops (listed.setIfInBounds j true) := by
  intro m o ho hl e he hb
  by_cases hjm : j = m
  · subst hjm
    obtain ⟨_, o', ho', hall⟩ := mem_ready.1 hj
    obtain rfl := Option.some.inj (ho.symm.trans ho')
    refine getD_set_mono ?_
    have := hall e he hb
    rcases Nat.lt_or_ge e.on listed.size with h' | h'
    · simpa [Array.getD_eq_getD_getElem?, h'] using this
    · simp [Array.getD_eq_getD_getElem?, Array.getElem?_eq_none h'] at this
  · refine getD_set_mono (h m o ho ?_ e he hb)
    simpa [Array.getD_eq_getD_getElem?, Array.getElem?_setIfInBounds_ne hjm] using hl
theorem upTo_wait {listed : Array Bool} (hc : Closed ops listed) (i : Nat) : ∀ (l R : List Nat), (∀ m ∈ R, listed.getD m false = false ∧ (m = i ∨ m ∉ Region.ready .any ops listed)) → ∀ m ∈ upTo ops l R, listed.getD m false = false ∧ (m = i ∨ m ∉ Region.ready .any ops listed)
  | [], R, h => h
  | k :: r, R, h => by
    refine upTo_wait hc i r _ ?_
    cases ho : ops[k]? with
    | none => simpa using h
    | some o =>
      by_cases hk : (o.after.any fun e => Region.binds .any e && R.contains e.on) = true
      · simp only [hk, if_true]
        rw [Array.any_eq_true'] at hk
        obtain ⟨e, he, hbe⟩ := hk
        rw [Bool.and_eq_true] at hbe
        have hon := (h e.on (by simpa using hbe.2)).1
        intro m hm
        rcases List.mem_cons.1 hm with rfl | hm
        · refine ⟨?_, .inr fun hr => ?_⟩
          · cases hl : listed.getD m false with
            | false => rfl
            | true => rw [hc m o ho hl e he hbe.1] at hon; cases hon
          · obtain ⟨_, o', ho', hall⟩ := mem_ready.1 hr
            obtain rfl := Option.some.inj (ho.symm.trans ho')
            have := hall e he hbe.1
            rcases Nat.lt_or_ge e.on listed.size with h' | h'
            · simp [Array.getD_eq_getD_getElem?, h'] at this hon; rw [hon] at this; cases this
            · simp [Array.getD_eq_getD_getElem?, Array.getElem?_eq_none h'] at this
        · exact h m hm
      · simp only [hk]
        exact h
theorem waits_ready {listed : Array Bool} {lates : List Nat} {i : Nat} (hc : Closed ops listed) (hi : i ∈ Region.ready .any ops listed) (hw : waits ops lates i = true) : ∀ m ∈ lates, m ∉ Region.ready .any ops listed ∧ m ≠ i := by
  intro m hm
  unfold waits at hw
  rw [List.all_eq_true] at hw
  have := hw m hm
  rw [Bool.and_eq_true] at this
  have hne : m ≠ i := by simpa using this.1
  have hiu : listed.getD i false = false := by
    have h0 := (mem_ready.1 hi).1
    rcases Nat.lt_or_ge i listed.size with h' | h'
    · simpa [Array.getD_eq_getD_getElem?, h'] using h0
    · simp [Array.getD_eq_getD_getElem?, Array.getElem?_eq_none h']
  have h1 := upTo_wait hc i (List.range ops.size) [i] (fun x hx => (by
    have hx' : x = i := by simpa using hx
    subst hx'
    exact ⟨hiu, .inl rfl⟩)) m (by simpa using this.2)
  exact ⟨h1.2.resolve_left hne, hne⟩
def wpAnyL (P : Program) (ops : Array Oper) (Q : Exit → Act → World → Prop) (lates : List Nat) (S : World → Prop) : Nat → Array Bool → Act → World → Prop
  | 0, listed, a, w => Region.ready .any ops listed = [] ∧ Q .normal a w
  | fuel + 1, listed, a, w =>
    (Region.ready .any ops listed = [] → Q .normal a w) ∧
    ∀ i ∈ Region.ready .any ops listed, wpOp P ops Q i (fun a' w' => (anyL lates (listed.setIfInBounds i true) = true ∨ S w') ∧ wpAnyL P ops Q lates S fuel (listed.setIfInBounds i true) a' w') a w
theorem wpAny_of_late {lates : List Nat} {S : World → Prop} : ∀ (fuel : Nat) (listed : Array Bool) (a : Act) (w : World), wpAnyL P ops Q lates S fuel listed a w → wpAny P .any ops Q fuel listed a w
  | 0, _, _, _, h => h
  | fuel + 1, _, _, _, h => ⟨h.1, fun i hi => wpOp_mono (fun a' w' h' => wpAny_of_late fuel _ a' w' h'.2) (h.2 i hi)⟩
theorem anyL_set {lates : List Nat} {listed : Array Bool} {j : Nat} (h : anyL lates listed = false) (hj : ∀ m ∈ lates, m ≠ j) : anyL lates (listed.setIfInBounds j true) = false := by
  unfold anyL at *
  rw [List.any_eq_false] at *
  intro m hm
  have := h m hm
  have hne := hj m hm
  simp only [Array.getD_eq_getD_getElem?, Array.getElem?_setIfInBounds_ne (Ne.symm hne)] at *
  exact this
theorem wpAnyL_first {lates : List Nat} {S : World → Prop} {i : Nat} {oi : Oper} {v : Value} (hi : ops[i]? = some oi) (hsel : ∀ (j : Nat) (o : Oper) cs b, ops[j]? = some o → o.op ≠ .select cs b) (hwait : waits ops lates i = true)
    (hQ : ∀ c a w, Q (.panic c) (a.put oi.dst v) w → Q (.panic c) a w) :
    ∀ (fuel : Nat) (listed : Array Bool) (a : Act) (w : World),
      (∀ j oj, ops[j]? = some oj → j ≠ i → listed.getD j true = false → (∀ e ∈ oj.after, Region.binds .any e = true → e.on ≠ i) → oi.apart ops oj = true) →
      i ∈ Region.ready .any ops listed → Closed ops listed → anyL lates listed = false → YieldsIf P ops S oi v a → S w →
      wpAnyL P ops Q lates S fuel (listed.setIfInBounds i true) (a.put oi.dst v) w → wpAnyL P ops Q lates S (fuel + 1) listed a w := by
  intro fuel
  induction fuel with
  | zero =>
    intro listed a w _ hr _ hl hy hS H
    refine ⟨fun h => (by rw [h] at hr; cases hr), fun j hj => ?_⟩
    by_cases hji : j = i
    · subst hji; exact hy.wpOp hi hS ⟨.inr hS, H⟩
    · have := ready_mono hj hji
      rw [H.1] at this
      cases this
  | succ fuel ih =>
    intro listed a w hfree hr hcl hl hy hS H
    refine ⟨fun h => (by rw [h] at hr; cases hr), fun j hj => ?_⟩
    by_cases hji : j = i
    · subst hji; exact hy.wpOp hi hS ⟨.inr hS, H⟩
    · have h1 := H.2 j (ready_mono hj hji)
      obtain ⟨hjun, oj, hoj, hall⟩ := mem_ready.1 hj
      have hnot : ∀ e ∈ oj.after, Region.binds .any e = true → e.on ≠ i := fun e he hb heq => by
        have h1 := hall e he hb
        have h0 := (mem_ready.1 hr).1
        rw [heq] at h1
        rcases Nat.lt_or_ge i listed.size with h' | h'
        · simp [h'] at h0 h1; rw [h0] at h1; cases h1
        · simp [Array.getElem?_eq_none h'] at h1
      have hwr := waits_ready hcl hr hwait
      have hnl : ∀ m ∈ lates, m ≠ j := by
        rintro m hm rfl
        exact (hwr m hm).1 hj
      have hl1 : anyL lates (listed.setIfInBounds j true) = false := anyL_set hl hnl
      have hl2 : anyL lates ((listed.setIfInBounds i true).setIfInBounds j true) = false := anyL_set (anyL_set hl fun m hm => (hwr m hm).2) hnl
      have h2 := wpOp_putIf hoj (hfree j oj hoj hji hjun hnot) (fun cs b => hsel i oi cs b hi) (fun cs b => hsel j oj cs b hoj) hQ hy h1
      have hfree' : ∀ k ok, ops[k]? = some ok → k ≠ i → (listed.setIfInBounds j true).getD k true = false →
          (∀ e ∈ ok.after, Region.binds .any e = true → e.on ≠ i) → oi.apart ops ok = true := fun k ok hk hki hun hno => by
        refine hfree k ok hk hki ?_ hno
        by_cases hjk : j = k
        · subst hjk; exact hjun
        · rw [getD_set_ne true hjk] at hun; exact hun
      refine wpOp_mono (fun a' w' h3 => ?_) h2
      have hS' : S w' := by
        rcases h3.2.1 with h | h
        · rw [hl2] at h; cases h
        · exact h
      refine ⟨.inr hS', ih (listed.setIfInBounds j true) a' w' hfree' (ready_mono hr (Ne.symm hji)) (hcl.set hj) hl1 h3.1 hS' ?_⟩
      rw [Array.setIfInBounds_comm _ _ hji]
      exact h3.2.2
theorem wpAnyL_done {lates : List Nat} {S : World → Prop} {listed : Array Bool} {a : Act} {w : World} (hr : Region.ready .any ops listed = []) (h : Q .normal a w) : ∀ fuel, wpAnyL P ops Q lates S fuel listed a w
  | 0 => ⟨hr, h⟩
  | _ + 1 => ⟨fun _ => h, fun i hi => by rw [hr] at hi; cases hi⟩
theorem wpAnyL_stronger {lates : List Nat} {S S' : World → Prop} (hS : ∀ w, S' w → S w) : ∀ (fuel : Nat) (listed : Array Bool) (a : Act) (w : World), wpAnyL P ops Q lates S' fuel listed a w → wpAnyL P ops Q lates S fuel listed a w
  | 0, _, _, _, h => h
  | fuel + 1, _, _, _, h => ⟨h.1, fun i hi => wpOp_mono (fun a' w' h' => ⟨h'.1.imp id (hS w'), wpAnyL_stronger hS fuel _ a' w' h'.2⟩) (h.2 i hi)⟩

def SeqL (P : Program) (ops : Array Oper) (Q : Exit → Act → World → Prop) (lates : List Nat) (k : Nat) (listed : Array Bool) (a : Act) (w : World) : Prop :=
  wpAnyL P ops Q lates (fun w' => Below w.heap.size w w') k listed a w
/-- 'lates': the operations that write; all that is taken is taken before the first of them. -/
theorem seql_start (lates : List Nat) {id : Nat} {a : Act} {w : World} (hm : P.follows .mixedOrders = true) (h : SeqL P ops Q lates ops.size (Array.replicate ops.size false) a w.drew) : (Code.region id ops true).wp P Q a w :=
  wp_region_any hm (wpAny_of_late _ _ _ _ h)
theorem seql_take (i : Nat) {lates : List Nat} {o : Oper} {v : Value} {k : Nat} {listed : Array Bool} {a : Act} {w : World} (hi : ops[i]? = some o) (hok : (takeOk ops listed i && waits ops lates i && !anyL lates listed && closedB ops listed) = true)
    (hQ : ∀ c a w, Q (.panic c) (a.put o.dst v) w → Q (.panic c) a w) (hw : Region.wanted o (yielded ops a.tmps) = true)
    (hy : ∀ w', Grew w w' → (execOp a.eval o).run P w' = .ok (.value v) w')
    (h : SeqL P ops Q lates k (listed.setIfInBounds i true) (a.put o.dst v) w) : SeqL P ops Q lates (k + 1) listed a w := by
  simp only [takeOk, Bool.and_eq_true, Bool.not_eq_true'] at hok
  exact wpAnyL_first hi (Region.noSelect_spec hok.1.1.1.1.1) hok.1.1.2 hQ _ _ _ _ (Region.free_spec hi hok.1.1.1.1.2) (by simpa using hok.1.1.1.2) (closed_of hok.2) hok.1.2 (.inl ⟨hw, fun w' hw' => hy w' hw'⟩) (Below.refl _ _) h
theorem seql_skip (i : Nat) {lates : List Nat} {o : Oper} {k : Nat} {listed : Array Bool} {a : Act} {w : World} (hi : ops[i]? = some o) (hok : (takeOk ops listed i && waits ops lates i && !anyL lates listed && closedB ops listed) = true)
    (hQ : ∀ c a w, Q (.panic c) (a.put o.dst undef) w → Q (.panic c) a w) (hw : Region.wanted o (yielded ops a.tmps) = false)
    (h : SeqL P ops Q lates k (listed.setIfInBounds i true) (a.put o.dst undef) w) : SeqL P ops Q lates (k + 1) listed a w := by
  simp only [takeOk, Bool.and_eq_true, Bool.not_eq_true'] at hok
  exact wpAnyL_first hi (Region.noSelect_spec hok.1.1.1.1.1) hok.1.1.2 hQ _ _ _ _ (Region.free_spec hi hok.1.1.1.1.2) (by simpa using hok.1.1.1.2) (closed_of hok.2) hok.1.2 (.inr ⟨hw, rfl⟩) (Below.refl _ _) h
/-- The one operation that may come up, no late one: the world only grows. -/
theorem seql_run (i : Nat) {lates : List Nat} {o : Oper} {k : Nat} {listed : Array Bool} {a : Act} {w : World} (hi : ops[i]? = some o) (hr : Region.ready .any ops listed = [i]) (hw : Region.wanted o (yielded ops a.tmps) = true)
    (h : ∀ K : Act → World → Prop, (∀ a' w', (Below w.heap.size w w' ∧ SeqL P ops Q lates k (listed.setIfInBounds i true) a' w') → K a' w') → o.wp P a w K Q) : SeqL P ops Q lates (k + 1) listed a w := by
  refine ⟨fun h0 => (by rw [hr] at h0; cases h0), fun j hj => ?_⟩
  obtain rfl : j = i := by rw [hr] at hj; simpa using hj
  unfold wpOp
  simp only [hi, hw, if_true]
  refine .inl (h _ fun a' w' ⟨hb, hs⟩ => ⟨.inr hb, wpAnyL_stronger (fun w'' h'' => hb.trans (h''.mono hb.size)) _ _ _ _ hs⟩)
/-- A late operation: whatever it does. -/
theorem seql_last (i : Nat) {lates : List Nat} {o : Oper} {k : Nat} {listed : Array Bool} {a : Act} {w : World} (hi : ops[i]? = some o) (hr : Region.ready .any ops listed = [i]) (hl : anyL lates (listed.setIfInBounds i true) = true) (hw : Region.wanted o (yielded ops a.tmps) = true)
    (h : ∀ K : Act → World → Prop, (∀ a' w', wpAnyL P ops Q lates (fun _ => False) k (listed.setIfInBounds i true) a' w' → K a' w') → o.wp P a w K Q) : SeqL P ops Q lates (k + 1) listed a w := by
  refine ⟨fun h0 => (by rw [hr] at h0; cases h0), fun j hj => ?_⟩
  obtain rfl : j = i := by rw [hr] at hj; simpa using hj
  unfold wpOp
  simp only [hi, hw, if_true]
  exact .inl (h _ fun a' w' hs => ⟨.inl hl, wpAnyL_stronger (fun _ h => h.elim) _ _ _ _ hs⟩)
/-- One more behind it. -/
theorem seql_more (i : Nat) {lates : List Nat} {o : Oper} {k : Nat} {listed : Array Bool} {a : Act} {w : World} (hi : ops[i]? = some o) (hr : Region.ready .any ops listed = [i]) (hl : anyL lates (listed.setIfInBounds i true) = true) (hw : Region.wanted o (yielded ops a.tmps) = true)
    (h : ∀ K : Act → World → Prop, (∀ a' w', wpAnyL P ops Q lates (fun _ => False) k (listed.setIfInBounds i true) a' w' → K a' w') → o.wp P a w K Q) : wpAnyL P ops Q lates (fun _ => False) (k + 1) listed a w := by
  refine ⟨fun h0 => (by rw [hr] at h0; cases h0), fun j hj => ?_⟩
  obtain rfl : j = i := by rw [hr] at hj; simpa using hj
  unfold wpOp
  simp only [hi, hw, if_true]
  exact .inl (h _ fun a' w' hs => ⟨.inl hl, hs⟩)
theorem seql_done {lates : List Nat} {S : World → Prop} {listed : Array Bool} {a : Act} {w : World} {k : Nat} (hr : Region.ready .any ops listed = []) (h : Q .normal a w) : wpAnyL P ops Q lates S k listed a w :=
  wpAnyL_done hr h k

theorem mem_ready_of {listed : Array Bool} {i : Nat} {o : Oper} (ho : ops[i]? = some o) (hl : listed.getD i true = false) (ha : ∀ e ∈ o.after, Region.binds .any e = true → listed.getD e.on false = true) : i ∈ Region.ready .any ops listed := by
  unfold Region.ready
  rw [List.mem_filter]
  refine ⟨List.mem_range.2 (by rcases Nat.lt_or_ge i ops.size with h | h; exact h; rw [Array.getElem?_eq_none h] at ho; cases ho), ?_⟩
  simp only [hl, ho, Option.map_some, Option.getD_some, Bool.not_false, Bool.true_and]
  rw [Array.all_eq_true_iff_forall_mem]
  intro e he
  cases hb : Region.binds .any e with
  | false => rfl
  | true => simp [ha e he hb]

theorem of_mem_ready {listed : Array Bool} {i : Nat} (h : i ∈ Region.ready .any ops listed) : ∃ o, ops[i]? = some o ∧ listed.getD i true = false ∧ ∀ e ∈ o.after, Region.binds .any e = true → listed.getD e.on false = true := by
  unfold Region.ready at h
  rw [List.mem_filter] at h
  obtain ⟨_, h2⟩ := h
  rw [Bool.and_eq_true] at h2
  obtain ⟨h3, h4⟩ := h2
  cases ho : ops[i]? with
  | none => simp [ho] at h4
  | some o =>
    refine ⟨o, rfl, by simpa using h3, fun e he hb => ?_⟩
    simp only [ho, Option.map_some, Option.getD_some] at h4
    rw [Array.all_eq_true_iff_forall_mem] at h4
    have := h4 e he
    simpa [hb] using this

/-- Is 'rem' a right order of what is left ('done': what has come up of it)? -/
def topo (ops : Array Oper) (listed : Array Bool) : List Nat → List Nat → Bool
  | _, [] => true
  | done, i :: r => (match ops[i]? with | some o => o.after.all fun e => !Region.binds .any e || done.contains e.on || listed.getD e.on false | none => false) && topo ops listed (i :: done) r
/-- What is left, just these; each once; in an order that may be. -/
def remOk (ops : Array Oper) (listed : Array Bool) (rem : List Nat) : Bool :=
  listed.size == ops.size && (List.range ops.size).all (fun i => listed.getD i true || rem.contains i) && rem.all (fun i => !listed.getD i true) && topo ops listed [] rem && rem.eraseDups.length == rem.length

theorem topo_all {listed0 listed : Array Bool} (hsz : listed.size = ops.size) (hr : Region.ready .any ops listed = []) (hmono : ∀ i, listed0.getD i false = true → listed.getD i false = true) :
    ∀ (rem done : List Nat), topo ops listed0 done rem = true → (∀ i ∈ done, listed.getD i false = true) → ∀ i ∈ rem, listed.getD i false = true
  | [], _, _, _ => fun i hi => by cases hi
  | j :: r, done, h, hd => by
    simp only [topo, Bool.and_eq_true] at h
    obtain ⟨h1, h2⟩ := h
    have hj : listed.getD j false = true := by
      cases ho : ops[j]? with
      | none => rw [ho] at h1; simp at h1
      | some o =>
        rw [ho] at h1
        simp only at h1
        rw [Array.all_eq_true_iff_forall_mem] at h1
        have hjlt : j < listed.size := by rw [hsz]; rcases Nat.lt_or_ge j ops.size with h | h; exact h; rw [Array.getElem?_eq_none h] at ho; cases ho
        cases hl : listed.getD j false with
        | true => rfl
        | false =>
          have : j ∈ Region.ready .any ops listed := mem_ready_of ho (by simp [Array.getD, hjlt] at hl ⊢; exact hl) fun e he hb => by
            have := h1 e he
            simp only [hb, Bool.not_true, Bool.false_or, Bool.or_eq_true, List.contains_iff_mem] at this
            rcases this with h | h
            · exact hd _ h
            · exact hmono _ h
          rw [hr] at this
          cases this
    intro i hi
    rcases List.mem_cons.1 hi with rfl | hi
    · exact hj
    · exact topo_all hsz hr hmono r (j :: done) h2 (fun k hk => by rcases List.mem_cons.1 hk with rfl | hk; exact hj; exact hd k hk) i hi

theorem countP_lt {α : Type} {p q : α → Bool} : ∀ {l : List α} {i : α}, i ∈ l → (∀ x, q x = true → p x = true) → p i = true → q i = false → l.countP q < l.countP p
  | [], _, h, _, _, _ => by cases h
  | x :: l, i, h, hqp, hp, hq => by
    have hle : ∀ l : List α, l.countP q ≤ l.countP p := fun l => List.countP_mono_left fun x _ h => hqp x h
    rcases List.mem_cons.1 h with rfl | h
    · rw [List.countP_cons, List.countP_cons, hp, hq]
      have := hle l
      simp; omega
    · have ih := countP_lt h hqp hp hq
      rw [List.countP_cons, List.countP_cons]
      by_cases hqx : q x = true
      · rw [if_pos hqx, if_pos (hqp x hqx)]; omega
      · rw [if_neg hqx]
        split <;> omega

theorem getD_set {listed : Array Bool} {i j : Nat} (hi : i < listed.size) (d : Bool) : (listed.setIfInBounds i true).getD j d = if i = j then true else listed.getD j d := by
  by_cases h : i = j
  · subst h; simp [Array.getD, hi]
  · simp only [if_neg h, Array.getD_eq_getD_getElem?, Array.getElem?_setIfInBounds_ne h]

/-- A REGION'S REST, WHATEVER THE ORDER: each operation by itself, over the values of those that it waits for. -/
theorem seq_inv0 (rem : List Nat) (dep : Nat → List Nat) (F : (Nat → Value) → Act) (x0 : Nat → Value) (Φ : Nat → Value → World → Prop) {listed0 : Array Bool} {w0 : World}
    (hrem : remOk ops listed0 rem = true)
    (hdep : (rem.all fun k => (dep k).all fun j => rem.contains j && (match ops[k]? with | some o => o.after.any fun e => Region.binds .any e && e.on == j | none => false)) = true)
    (hput : ∀ k ∈ rem, ∀ o, ops[k]? = some o → ∀ x v, (F x).put o.dst v = F (fun j => if j = k then v else x j))
    (hmono : ∀ k v w w', Φ k v w → Below w.heap.size w w' → Φ k v w')
    (hstep : ∀ k ∈ rem, ∀ o, ops[k]? = some o → ∀ x w, Below w0.heap.size w0 w → (∀ j ∈ dep k, Φ j (x j) w) →
      Region.wanted o (yielded ops (F x).tmps) = true ∧ ∀ K : Act → World → Prop, (∀ v w', (Below w.heap.size w w' ∧ Φ k v w') → K ((F x).put o.dst v) w') → o.wp P (F x) w K Q)
    (hend : ∀ x w, Below w0.heap.size w0 w → (∀ k ∈ rem, Φ k (x k) w) → Q .normal (F x) w) :
    Seq P ops Q rem.length listed0 (F x0) w0 := by
  simp only [remOk, Bool.and_eq_true, beq_iff_eq] at hrem
  obtain ⟨⟨⟨⟨hsz, hall⟩, hunl⟩, htopo⟩, _⟩ := hrem
  rw [List.all_eq_true] at hall
  have key : ∀ (fuel : Nat) (listed : Array Bool) (x : Nat → Value) (w : World), rem.countP (fun i => !listed.getD i true) ≤ fuel → listed.size = ops.size → (∀ i, listed0.getD i false = true → listed.getD i false = true) →
      Below w0.heap.size w0 w → (∀ k ∈ rem, listed.getD k false = true → Φ k (x k) w) →
      wpAnyH P .any ops Q (fun w' => Below w0.heap.size w0 w') fuel listed (F x) w := by
    intro fuel
    induction fuel with
    | zero =>
      intro listed x w hc hs hm hb hv
      have hl : ∀ k ∈ rem, listed.getD k false = true := by
        intro k hk
        have h0 : rem.countP (fun i => !listed.getD i true) = 0 := by omega
        rw [List.countP_eq_zero] at h0
        have := h0 k hk
        have hlt : k < ops.size := by
          have ht : ∀ (r done : List Nat), topo ops listed0 done r = true → ∀ k ∈ r, k < ops.size := by
            intro r
            induction r with
            | nil => intro _ _ k hk; cases hk
            | cons a r ih =>
              intro done h k hk
              simp only [topo, Bool.and_eq_true] at h
              rcases List.mem_cons.1 hk with rfl | hk
              · rcases Nat.lt_or_ge k ops.size with h' | h'
                · exact h'
                · rw [Array.getElem?_eq_none h'] at h; simp at h
              · exact ih _ h.2 k hk
          exact ht rem [] htopo k hk
        simp [Array.getD, hs, hlt] at this ⊢
        exact this
      refine ⟨?_, hend x w hb fun k hk => hv k hk (hl k hk)⟩
      rw [List.eq_nil_iff_forall_not_mem]
      intro i hi
      obtain ⟨o, ho, hun, _⟩ := of_mem_ready hi
      have hlt : i < ops.size := by rcases Nat.lt_or_ge i ops.size with h | h; exact h; rw [Array.getElem?_eq_none h] at ho; cases ho
      have := hall i (List.mem_range.2 hlt)
      rw [Bool.or_eq_true] at this
      rcases this with h | h
      · have h' : listed0.getD i false = true := by simp [Array.getD, hsz, hlt] at h ⊢; exact h
        have := hm i h'
        simp [Array.getD, hs, hlt] at this hun
        rw [this] at hun; cases hun
      · have := hl i (by simpa using h)
        simp [Array.getD, hs, hlt] at this hun
        rw [this] at hun; cases hun
    | succ fuel ih =>
      intro listed x w hc hs hm hb hv
      refine ⟨fun hr => hend x w hb fun k hk => hv k hk (topo_all hs hr hm rem [] htopo (fun i hi => by cases hi) k hk), fun i hi => ?_⟩
      obtain ⟨o, ho, hun, haf⟩ := of_mem_ready hi
      have hlt : i < ops.size := by rcases Nat.lt_or_ge i ops.size with h | h; exact h; rw [Array.getElem?_eq_none h] at ho; cases ho
      have hir : i ∈ rem := by
        have := hall i (List.mem_range.2 hlt)
        rw [Bool.or_eq_true] at this
        rcases this with h | h
        · have h' : listed0.getD i false = true := by simp [Array.getD, hsz, hlt] at h ⊢; exact h
          have := hm i h'
          simp [Array.getD, hs, hlt] at this hun
          rw [this] at hun; cases hun
        · simpa using h
      have hdeps : ∀ j ∈ dep i, Φ j (x j) w := by
        intro j hj
        rw [List.all_eq_true] at hdep
        have h1 := hdep i hir
        rw [List.all_eq_true] at h1
        have h2 := h1 j hj
        rw [Bool.and_eq_true, ho] at h2
        obtain ⟨h3, h4⟩ := h2
        simp only [Array.any_eq_true'] at h4
        obtain ⟨e, he, h5⟩ := h4
        rw [Bool.and_eq_true, beq_iff_eq] at h5
        obtain ⟨h6, rfl⟩ := h5
        exact hv _ (by simpa using h3) (haf e he h6)
      obtain ⟨hw, hgo⟩ := hstep i hir o ho x w hb hdeps
      unfold wpOp
      simp only [ho, hw, if_true]
      refine .inl (hgo _ fun v w' ⟨hb', hΦ⟩ => ?_)
      have hb2 : Below w0.heap.size w0 w' := hb.trans (hb'.mono hb.size)
      refine ⟨hb2, ?_⟩
      rw [hput i hir o ho]
      refine ih (listed.setIfInBounds i true) _ w' ?_ (by simpa using hs) (fun j hj => by rw [getD_set (by omega)]; split; rfl; exact hm j hj) hb2 ?_
      · have := countP_lt (p := fun i => !listed.getD i true) (q := fun j => !(listed.setIfInBounds i true).getD j true) hir (fun j hj => by rw [getD_set (by omega)] at hj; split at hj; simp at hj; exact hj) (by simpa using hun) (by rw [getD_set (by omega), if_pos rfl]; rfl)
        omega
      · intro k hk hkl
        by_cases hki : k = i
        · subst hki; simp only [if_true]; exact hΦ
        · simp only [if_neg hki]
          rw [getD_set (by omega), if_neg (Ne.symm hki)] at hkl
          exact hmono k _ _ _ (hv k hk hkl) hb'
  exact key rem.length listed0 x0 w0 List.countP_le_length hsz (fun i h => h) (Below.refl _ _) (fun k hk hl => by
    rw [List.all_eq_true] at hunl
    have := hunl k hk
    rcases Nat.lt_or_ge k listed0.size with h | h
    · simp [Array.getD, h] at this hl
      rw [this] at hl; cases hl
    · simp [Array.getD, Nat.not_lt.2 h] at hl)

/-- What is waited for, of the rest. -/
def depOf (ops : Array Oper) (rem : List Nat) (k : Nat) : List Nat := match ops[k]? with
  | some o => (o.after.toList.filter fun e => Region.binds .any e && rem.contains e.on).map (·.on)
  | none => []
theorem depOf_ok (rem : List Nat) : (rem.all fun k => (depOf ops rem k).all fun j => rem.contains j && (match ops[k]? with | some o => o.after.any fun e => Region.binds .any e && e.on == j | none => false)) = true := by
  rw [List.all_eq_true]
  intro k _
  rw [List.all_eq_true]
  intro j hj
  unfold depOf at hj
  cases ho : ops[k]? with
  | none => rw [ho] at hj; cases hj
  | some o =>
    rw [ho] at hj
    obtain ⟨e, he, rfl⟩ := List.mem_map.1 hj
    rw [List.mem_filter, Bool.and_eq_true] at he
    obtain ⟨h1, h2, h3⟩ := he
    simp only [h3, Bool.true_and]
    rw [Array.any_eq_true']
    exact ⟨e, Array.mem_toList_iff.1 h1, by simp [h2]⟩
/-- The frame, its slots to come as letters. -/
def Fr (ops : Array Oper) (rem : List Nat) (a0 : Act) (x : Nat → Value) : Act := rem.foldl (fun a k => a.put ((ops[k]?).bind (·.dst)) (x k)) a0
def AllK (p : Nat → Prop) : List Nat → Prop
  | [] => True
  | k :: r => p k ∧ AllK p r
theorem AllK.mem {p : Nat → Prop} : ∀ {l : List Nat}, AllK p l → ∀ k ∈ l, p k
  | _ :: _, ⟨h, hs⟩, k, hk => by
    rcases List.mem_cons.1 hk with rfl | hk
    · exact h
    · exact AllK.mem hs k hk
def dstAt (ops : Array Oper) (k : Nat) : Option Tmp := (ops[k]?).bind (·.dst)
/-- No two of the rest write one slot. -/
def dstOk (ops : Array Oper) : List Nat → Bool
  | [] => true
  | k :: r => r.all (fun j => j != k && (match dstAt ops k with | some d => dstAt ops j != some d | none => true)) && dstOk ops r
theorem put_put (a : Act) (d : Option Tmp) (u v : Value) : (a.put d u).put d v = a.put d v := by
  cases d with
  | none => rfl
  | some d => simp [Act.put, Array.setIfInBounds_setIfInBounds]
theorem put_swap (a : Act) (d e : Option Tmp) (u v : Value) (h : ∀ x, d = some x → e ≠ some x) : (a.put d u).put e v = (a.put e v).put d u := by
  cases d with
  | none => cases e <;> rfl
  | some d =>
    cases e with
    | none => rfl
    | some e =>
      have hne : d ≠ e := fun he => h d rfl (by rw [he])
      simp only [Act.put]
      rw [Array.setIfInBounds_comm _ _ hne]
theorem fr_put_far (ops : Array Oper) (d : Option Tmp) (v : Value) : ∀ (r : List Nat) (a : Act) (x : Nat → Value), (∀ j ∈ r, ∀ t, dstAt ops j = some t → d ≠ some t) → (Fr ops r a x).put d v = Fr ops r (a.put d v) x
  | [], _, _, _ => rfl
  | j :: r, a, x, h => by
    show (Fr ops r (a.put (dstAt ops j) (x j)) x).put d v = Fr ops r ((a.put d v).put (dstAt ops j) (x j)) x
    rw [fr_put_far ops d v r _ x (fun k hk => h k (by simp [hk])), put_swap a (dstAt ops j) d (x j) v (fun t ht => h j (by simp) t ht)]
theorem fr_congr (ops : Array Oper) : ∀ (r : List Nat) (a : Act) (x y : Nat → Value), (∀ j ∈ r, x j = y j) → Fr ops r a x = Fr ops r a y
  | [], _, _, _, _ => rfl
  | j :: r, a, x, y, h => by
    show Fr ops r (a.put (dstAt ops j) (x j)) x = Fr ops r (a.put (dstAt ops j) (y j)) y
    rw [h j (by simp), fr_congr ops r _ x y (fun k hk => h k (by simp [hk]))]
theorem fr_put (ops : Array Oper) (k : Nat) (v : Value) : ∀ (r : List Nat) (a : Act) (x : Nat → Value), dstOk ops r = true → k ∈ r → (Fr ops r a x).put (dstAt ops k) v = Fr ops r a (fun j => if j = k then v else x j)
  | [], _, _, _, h => by cases h
  | j :: r, a, x, hd, hk => by
    simp only [dstOk, Bool.and_eq_true] at hd
    obtain ⟨h1, h2⟩ := hd
    rw [List.all_eq_true] at h1
    by_cases hjk : k = j
    · subst hjk
      show (Fr ops r (a.put (dstAt ops k) (x k)) x).put (dstAt ops k) v = Fr ops r (a.put (dstAt ops k) (if k = k then v else x k)) _
      rw [if_pos rfl, fr_put_far ops _ v r _ x, put_put]
      · refine fr_congr ops r _ _ _ fun i hi => ?_
        have := h1 i hi
        simp only [Bool.and_eq_true, bne_iff_ne] at this
        rw [if_neg this.1]
      · intro i hi t ht he
        have := h1 i hi
        rw [he] at this
        simp [ht] at this
    · show (Fr ops r (a.put (dstAt ops j) (x j)) x).put (dstAt ops k) v = Fr ops r (a.put (dstAt ops j) (if j = k then v else x j)) _
      rw [if_neg (fun h => hjk h.symm)]
      exact fr_put ops k v r _ x h2 (by rcases List.mem_cons.1 hk with h | h; exact absurd h hjk; exact h)
theorem fr_self (ops : Array Oper) : ∀ (r : List Nat) (a : Act), Fr ops r a (fun k => match dstAt ops k with | some d => a.tmps.getD d undef | none => undef) = a := by
  have hp : ∀ (a : Act) (k : Nat), a.put (dstAt ops k) (match dstAt ops k with | some d => a.tmps.getD d undef | none => undef) = a := by
    intro a k
    cases dstAt ops k with
    | none => rfl
    | some d =>
      show ({ a with tmps := a.tmps.setIfInBounds d (a.tmps.getD d undef) } : Act) = a
      have : a.tmps.setIfInBounds d (a.tmps.getD d undef) = a.tmps := by
        apply Array.ext
        · simp
        · intro i h1 h2
          rw [Array.getElem_setIfInBounds (by simpa using h2)]
          split
          · rename_i h; subst h; simp [Array.getD, h2]
          · rfl
      rw [this]
  intro r
  induction r with
  | nil => intro a; rfl
  | cons k r ih =>
    intro a
    show Fr ops r (a.put (dstAt ops k) _) _ = a
    rw [hp a k]
    exact ih a
def StepK (P : Program) (ops : Array Oper) (Q : Exit → Act → World → Prop) (rem : List Nat) (a0 : Act) (Φ : Nat → Value → World → Prop) (w0 : World) (k : Nat) : Prop :=
  ∀ o, ops[k]? = some o → ∀ x w, Below w0.heap.size w0 w → (∀ j ∈ depOf ops rem k, Φ j (x j) w) →
    Region.wanted o (yielded ops (Fr ops rem a0 x).tmps) = true ∧ ∀ K : Act → World → Prop, (∀ v w', (Below w.heap.size w w' ∧ Φ k v w') → K ((Fr ops rem a0 x).put o.dst v) w') → o.wp P (Fr ops rem a0 x) w K Q
theorem stepK_of {Q : Exit → Act → World → Prop} {rem : List Nat} {a0 : Act} {Φ : Nat → Value → World → Prop} {w0 : World} {k : Nat} {o : Oper} (ho : ops[k]? = some o)
    (h : ∀ x w, Below w0.heap.size w0 w → (∀ j ∈ depOf ops rem k, Φ j (x j) w) →
      Region.wanted o (yielded ops (Fr ops rem a0 x).tmps) = true ∧ ∀ K : Act → World → Prop, (∀ v w', (Below w.heap.size w w' ∧ Φ k v w') → K ((Fr ops rem a0 x).put o.dst v) w') → o.wp P (Fr ops rem a0 x) w K Q) : StepK P ops Q rem a0 Φ w0 k := by
  intro o' ho'
  obtain rfl := Option.some.inj (ho.symm.trans ho')
  exact h

/-- A REGION'S REST, WHATEVER THE ORDER. 'rem': the numbers of what is left, in an order that may be; 'Φ k': what operation k's value is, which no growth of the world turns. -/
theorem seq_inv (rem : List Nat) (Φ : Nat → Value → World → Prop) {listed0 : Array Bool} {a0 : Act} {w0 : World} {n : Nat}
    (hrem : remOk ops listed0 rem = true) (hd : dstOk ops rem = true) (hn : n = rem.length)
    (hmono : ∀ k v w w', Φ k v w → Below w.heap.size w w' → Φ k v w')
    (hstep : AllK (StepK P ops Q rem a0 Φ w0) rem)
    (hend : ∀ x w, Below w0.heap.size w0 w → AllK (fun k => Φ k (x k) w) rem → Q .normal (Fr ops rem a0 x) w) :
    Seq P ops Q n listed0 a0 w0 := by
  subst hn
  have hall : ∀ (x : Nat → Value) (w : World), (∀ k ∈ rem, Φ k (x k) w) → AllK (fun k => Φ k (x k) w) rem := by
    intro x w
    generalize rem = l
    intro h
    induction l with
    | nil => trivial
    | cons k r ih => exact ⟨h k (by simp), ih fun j hj => h j (by simp [hj])⟩
  have := seq_inv0 (P := P) (Q := Q) rem (depOf ops rem) (Fr ops rem a0) (fun k => match dstAt ops k with | some d => a0.tmps.getD d undef | none => undef) Φ (listed0 := listed0) (w0 := w0) hrem (depOf_ok rem)
    (fun k hk o ho x v => by have := fr_put ops k v rem a0 x hd hk; unfold dstAt at this; rw [ho] at this; exact this) hmono (fun k hk o ho x w hb hd => hstep.mem k hk o ho x w hb hd) (fun x w hb hv => hend x w hb (hall x w hv))
  rw [fr_self] at this
  exact this

theorem yields_slice_lo {t : TypeId} {o : Oper} {x lo : Operand} {a : Act} {w : World} (ho : o.op = .slice t x (some lo) none none) (ht : P.underlying t = some (.slice (P.elem t))) (hs : (P.info? (P.elem t)).map (·.size) = some 1)
    {ao : Option Addr} {n cap k : Nat} (hx : a.eval x = .slice ao n cap) (hl : a.eval lo = .int .i64 (k : Int)) (hk : k ≤ n) :
    ∀ w', Below w.heap.size w w' → (execOp a.eval o).run P w' = .ok (.value (.slice (tailOf ao cap k) (n - k) (cap - k))) w' := by
  intro w' _
  have hr := run_slice_lo (P := P) w' t 1 ht hs ao n cap .i64 k hk
  rw [Nat.mul_one] at hr
  unfold execOp
  simp only [ho, hx, hl, Option.map_some, Option.map_none, hr, Sem.run_bind, Sem.run_pure, Result.andThen_ok]
  rfl

/-- 'b[:k]'. -/
theorem yields_slice_hi {t : TypeId} {o : Oper} {x hi : Operand} {a : Act} {w : World} (ho : o.op = .slice t x none (some hi) none) (ht : P.underlying t = some (.slice (P.elem t))) (hs : (P.info? (P.elem t)).map (·.size) = some 1)
    {ao : Option Addr} {n cap k : Nat} (hx : a.eval x = .slice ao n cap) (hl : a.eval hi = .int .i64 (k : Int)) (hk : k ≤ cap) :
    ∀ w', Below w.heap.size w w' → (execOp a.eval o).run P w' = .ok (.value (.slice ao k cap)) w' := by
  intro w' _
  have hr : (Instr.sliceAt t (.slice ao n cap) none (some (.int .i64 (k : Int))) none).run P w' = .ok (.slice ao k cap) w' := by
    rw [run_sliceAt_slice w' t _ _ _ _ ht, run_slice_h w' t ao n cap ht .i64 (k : Int) (by omega) (by omega)]
    obtain ⟨i, hi', hi2⟩ := Option.map_eq_some_iff.1 hs
    cases ao <;> simp [sliced, sizeOf, typeInfo, hi', hi2, show ∀ b : Addr, b.add 0 = b from fun b => by simp [Addr.add]]
  unfold execOp
  simp only [ho, hx, hl, Option.map_some, Option.map_none, hr, Sem.run_bind, Sem.run_pure, Result.andThen_ok]

theorem yields_conv {src dst e : TypeId} {o : Oper} {x : Operand} {a : Act} {w : World} (ho : o.op = .convert src dst x) (hs : P.underlying src = some (.slice e)) (he : P.underlying e = some (.int .u8)) (hd : P.underlying dst = some .string)
    {ao : Option Addr} {n cap : Nat} (hx : a.eval x = .slice ao n cap) {l : List UInt8} (h : At w ao (bytesV l)) (hn : n = l.length) :
    ∀ w', Below w.heap.size w w' → (execOp a.eval o).run P w' = .ok (.value (.string ⟨l.toArray⟩)) w' := by
  intro w' hb
  have hr := run_conv_str (P := P) w' src e hs he ao l n cap hn (h.below hb) dst hd
  unfold execOp
  simp only [ho, hx, hr, Sem.run_bind, Sem.run_pure, Result.andThen_ok]
end
end Go.Proofs.YtkgdcbpiicckkaaGreatDoor
