/- A drawn region's rest, whatever the order, its last operation apart: all others only grow the world, and the last one, which waits for all of them, may write. No program in sight. -/
import Derived.Test.YtnhdefaagicejaaDoorReg
namespace Go.Proofs.YtnhdefaagicejaaDoor
set_option linter.unusedSimpArgs false
set_option linter.unusedVariables false
open Go.RowKit

section
variable {P : Program} {ops : Array Oper} {Q : Exit → Act → World → Prop}
theorem topo_all2 {listed0 listed : Array Bool} (hsz : listed.size = ops.size) (hmono : ∀ i, listed0.getD i false = true → listed.getD i false = true) :
    ∀ (rem done : List Nat), (∀ j ∈ rem, j ∉ Region.ready .any ops listed) → topo ops listed0 done rem = true → (∀ i ∈ done, listed.getD i false = true) → ∀ i ∈ rem, listed.getD i false = true
  | [], _, _, _, _ => fun i hi => by cases hi
  | j :: r, done, hr, h, hd => by
    simp only [topo, Bool.and_eq_true] at h
    obtain ⟨h1, h2⟩ := h
    have hj : listed.getD j false = true := by
      cases ho : ops[j]? with
      | none => rw [ho] at h1; simp at h1
      | some o =>
        rw [ho] at h1
        simp only at h1
        rw [Array.all_eq_true_iff_forall_mem] at h1
        have hjlt : j < listed.size := by rw [hsz]; rcases Nat.lt_or_ge j ops.size with h | h; exact h; rw [Array.getElem?_eq_none h] at ho; cases ho
        cases hl : listed.getD j false with
        | true => rfl
        | false =>
          have : j ∈ Region.ready .any ops listed := mem_ready_of ho (by simp [Array.getD, hjlt] at hl ⊢; exact hl) fun e he hb => by
            have := h1 e he
            simp only [hb, Bool.not_true, Bool.false_or, Bool.or_eq_true, List.contains_iff_mem] at this
            rcases this with h | h
            · exact hd _ h
            · exact hmono _ h
          exact absurd this (hr j (by simp))
    intro i hi
    rcases List.mem_cons.1 hi with rfl | hi
    · exact hj
    · exact topo_all2 hsz hmono r (j :: done) (fun k hk => hr k (by simp [hk])) h2 (fun k hk => by rcases List.mem_cons.1 hk with rfl | hk; exact hj; exact hd k hk) i hi
theorem topo_append {listed : Array Bool} : ∀ (a b done : List Nat), topo ops listed done (a ++ b) = true → topo ops listed done a = true
  | [], _, _, _ => rfl
  | i :: a, b, done, h => by
    simp only [List.cons_append, topo, Bool.and_eq_true] at h ⊢
    exact ⟨h.1, topo_append a b (i :: done) h.2⟩
theorem topo_lt {listed0 : Array Bool} : ∀ (r done : List Nat), topo ops listed0 done r = true → ∀ k ∈ r, k < ops.size := by
  intro r
  induction r with
  | nil => intro _ _ k hk; cases hk
  | cons a r ih =>
    intro done h k hk
    simp only [topo, Bool.and_eq_true] at h
    rcases List.mem_cons.1 hk with rfl | hk
    · rcases Nat.lt_or_ge k ops.size with h' | h'
      · exact h'
      · rw [Array.getElem?_eq_none h'] at h; simp at h
    · exact ih _ h.2 k hk
theorem seql_inv0 (rem : List Nat) (l : Nat) (dep : Nat → List Nat) (F : (Nat → Value) → Act) (x0 : Nat → Value) (Φ : Nat → Value → World → Prop) {listed0 : Array Bool} {w0 : World}
    (hrem : remOk ops listed0 (rem ++ [l]) = true) (hwt : (rem.all fun k => waits ops [l] k) = true) (hcl0 : closedB ops listed0 = true) (hnl : l ∉ rem)
    (hdep : (rem.all fun k => (dep k).all fun j => rem.contains j && (match ops[k]? with | some o => o.after.any fun e => Region.binds .any e && e.on == j | none => false)) = true)
    (hput : ∀ k ∈ rem, ∀ o, ops[k]? = some o → ∀ x v, (F x).put o.dst v = F (fun j => if j = k then v else x j))
    (hmono : ∀ k v w w', Φ k v w → Below w.heap.size w w' → Φ k v w')
    (hstep : ∀ k ∈ rem, ∀ o, ops[k]? = some o → ∀ x w, Below w0.heap.size w0 w → (∀ j ∈ dep k, Φ j (x j) w) →
      Region.wanted o (yielded ops (F x).tmps) = true ∧ ∀ K : Act → World → Prop, (∀ v w', (Below w.heap.size w w' ∧ Φ k v w') → K ((F x).put o.dst v) w') → o.wp P (F x) w K Q)
    (hlast : ∀ o, ops[l]? = some o → ∀ x w, Below w0.heap.size w0 w → (∀ k ∈ rem, Φ k (x k) w) →
      Region.wanted o (yielded ops (F x).tmps) = true ∧ ∀ K : Act → World → Prop, (∀ a' w', Q .normal a' w' → K a' w') → o.wp P (F x) w K Q) :
    SeqL P ops Q [l] (rem.length + 1) listed0 (F x0) w0 := by
  simp only [remOk, Bool.and_eq_true, beq_iff_eq] at hrem
  obtain ⟨⟨⟨⟨hsz, hall⟩, hunl⟩, htopo⟩, _⟩ := hrem
  rw [List.all_eq_true] at hall hwt
  have hlm : l ∈ rem ++ [l] := by simp
  have hlz : l < ops.size := topo_lt _ _ htopo l hlm
  have key : ∀ (fuel : Nat) (listed : Array Bool) (x : Nat → Value) (w : World), rem.countP (fun i => !listed.getD i true) ≤ fuel → listed.size = ops.size → (∀ i, listed0.getD i false = true → listed.getD i false = true) →
      Closed ops listed → listed.getD l false = false →
      Below w0.heap.size w0 w → (∀ k ∈ rem, listed.getD k false = true → Φ k (x k) w) →
      wpAnyL P ops Q [l] (fun w' => Below w0.heap.size w0 w') (fuel + 1) listed (F x) w := by
    intro fuel
    induction fuel with
    | zero =>
      intro listed x w hc hs hm hcl hll hb hv
      have hl : ∀ k ∈ rem, listed.getD k false = true := by
        intro k hk
        have h0 : rem.countP (fun i => !listed.getD i true) = 0 := by omega
        rw [List.countP_eq_zero] at h0
        have := h0 k hk
        have hlt : k < ops.size := topo_lt _ _ htopo k (by simp [hk])
        simp [Array.getD, hs, hlt] at this ⊢
        exact this
      refine ⟨fun hr => ?_, fun i hi => ?_⟩
      · have := topo_all2 hs hm (rem ++ [l]) [] (fun j _ => by rw [hr]; simp) htopo (fun i hi => by cases hi) l hlm
        rw [hll] at this; cases this
      · obtain ⟨o, ho, hun, haf⟩ := of_mem_ready hi
        have hlt : i < ops.size := by rcases Nat.lt_or_ge i ops.size with h | h; exact h; rw [Array.getElem?_eq_none h] at ho; cases ho
        have hil : i = l := by
          have := hall i (List.mem_range.2 hlt)
          rw [Bool.or_eq_true] at this
          rcases this with h | h
          · have h' : listed0.getD i false = true := by simp [Array.getD, hsz, hlt] at h ⊢; exact h
            have := hm i h'
            simp [Array.getD, hs, hlt] at this hun
            rw [this] at hun; cases hun
          · have hir : i ∈ rem ++ [l] := by simpa using h
            rcases List.mem_append.1 hir with hir | hir
            · have := hl i hir
              simp [Array.getD, hs, hlt] at this hun
              rw [this] at hun; cases hun
            · simpa using hir
        subst hil
        obtain ⟨hw, hgo⟩ := hlast o ho x w hb (fun k hk => hv k hk (hl k hk))
        unfold wpOp
        simp only [ho, hw, if_true]
        refine .inl (hgo _ fun a' w' hq => ⟨.inl ?_, wpAnyL_done ?_ hq 0⟩)
        · unfold anyL
          simp only [List.any_cons, List.any_nil, Bool.or_false]
          rw [getD_set (by omega), if_pos rfl]
        · rw [List.eq_nil_iff_forall_not_mem]
          intro j hj
          obtain ⟨oj, hoj, hunj, _⟩ := of_mem_ready hj
          have hjlt : j < ops.size := by rcases Nat.lt_or_ge j ops.size with h | h; exact h; rw [Array.getElem?_eq_none h] at hoj; cases hoj
          rw [getD_set (by omega)] at hunj
          split at hunj
          · cases hunj
          · rename_i hne
            have := hall j (List.mem_range.2 hjlt)
            rw [Bool.or_eq_true] at this
            rcases this with h | h
            · have h' : listed0.getD j false = true := by simp [Array.getD, hsz, hjlt] at h ⊢; exact h
              have := hm j h'
              simp [Array.getD, hs, hjlt] at this hunj
              rw [this] at hunj; cases hunj
            · have hir : j ∈ rem ++ [i] := by simpa using h
              rcases List.mem_append.1 hir with hir | hir
              · have := hl j hir
                simp [Array.getD, hs, hjlt] at this hunj
                rw [this] at hunj; cases hunj
              · exact hne (List.mem_singleton.1 hir).symm
    | succ fuel ih =>
      intro listed x w hc hs hm hcl hll hb hv
      refine ⟨fun hr => ?_, fun i hi => ?_⟩
      · have := topo_all2 hs hm (rem ++ [l]) [] (fun j _ => by rw [hr]; simp) htopo (fun i hi => by cases hi) l hlm
        rw [hll] at this; cases this
      · obtain ⟨o, ho, hun, haf⟩ := of_mem_ready hi
        have hlt : i < ops.size := by rcases Nat.lt_or_ge i ops.size with h | h; exact h; rw [Array.getElem?_eq_none h] at ho; cases ho
        have hir : i ∈ rem ++ [l] := by
          have := hall i (List.mem_range.2 hlt)
          rw [Bool.or_eq_true] at this
          rcases this with h | h
          · have h' : listed0.getD i false = true := by simp [Array.getD, hsz, hlt] at h ⊢; exact h
            have := hm i h'
            simp [Array.getD, hs, hlt] at this hun
            rw [this] at hun; cases hun
          · simpa using h
        rcases List.mem_append.1 hir with hir | hir
        · have hdeps : ∀ j ∈ dep i, Φ j (x j) w := by
            intro j hj
            rw [List.all_eq_true] at hdep
            have h1 := hdep i hir
            rw [List.all_eq_true] at h1
            have h2 := h1 j hj
            rw [Bool.and_eq_true, ho] at h2
            obtain ⟨h3, h4⟩ := h2
            simp only [Array.any_eq_true'] at h4
            obtain ⟨e, he, h5⟩ := h4
            rw [Bool.and_eq_true, beq_iff_eq] at h5
            obtain ⟨h6, rfl⟩ := h5
            exact hv _ (by simpa using h3) (haf e he h6)
          obtain ⟨hw, hgo⟩ := hstep i hir o ho x w hb hdeps
          unfold wpOp
          simp only [ho, hw, if_true]
          refine .inl (hgo _ fun v w' ⟨hb', hΦ⟩ => ?_)
          have hb2 : Below w0.heap.size w0 w' := hb.trans (hb'.mono hb.size)
          refine ⟨.inr hb2, ?_⟩
          rw [hput i hir o ho]
          have hil : i ≠ l := fun e => hnl (by rw [← e]; exact hir)
          refine ih (listed.setIfInBounds i true) _ w' ?_ (by simpa using hs) (fun j hj => by rw [getD_set (by omega)]; split; rfl; exact hm j hj) (hcl.set hi) (by rw [getD_set (by omega), if_neg hil]; exact hll) hb2 ?_
          · have := countP_lt (p := fun i => !listed.getD i true) (q := fun j => !(listed.setIfInBounds i true).getD j true) hir (fun j hj => by rw [getD_set (by omega)] at hj; split at hj; simp at hj; exact hj) (by simpa using hun) (by rw [getD_set (by omega), if_pos rfl]; rfl)
            omega
          · intro k hk hkl
            by_cases hki : k = i
            · subst hki; simp only [if_true]; exact hΦ
            · simp only [if_neg hki]
              rw [getD_set (by omega), if_neg (Ne.symm hki)] at hkl
              exact hmono k _ _ _ (hv k hk hkl) hb'
        · obtain rfl : i = l := by simpa using hir
          have hnr : ∀ j ∈ rem, j ∉ Region.ready .any ops listed := fun j hj hjr => (waits_ready hcl hjr (hwt j hj) i (by simp)).1 hi
          have hl := topo_all2 hs hm rem [] hnr (topo_append rem [i] [] htopo) (fun i hi => by cases hi)
          obtain ⟨hw, hgo⟩ := hlast o ho x w hb (fun k hk => hv k hk (hl k hk))
          unfold wpOp
          simp only [ho, hw, if_true]
          refine .inl (hgo _ fun a' w' hq => ⟨.inl ?_, wpAnyL_done ?_ hq (fuel + 1)⟩)
          · unfold anyL
            simp only [List.any_cons, List.any_nil, Bool.or_false]
            rw [getD_set (by omega), if_pos rfl]
          · rw [List.eq_nil_iff_forall_not_mem]
            intro j hj
            obtain ⟨oj, hoj, hunj, _⟩ := of_mem_ready hj
            have hjlt : j < ops.size := by rcases Nat.lt_or_ge j ops.size with h | h; exact h; rw [Array.getElem?_eq_none h] at hoj; cases hoj
            rw [getD_set (by omega)] at hunj
            split at hunj
            · cases hunj
            · rename_i hne
              have := hall j (List.mem_range.2 hjlt)
              rw [Bool.or_eq_true] at this
              rcases this with h | h
              · have h' : listed0.getD j false = true := by simp [Array.getD, hsz, hjlt] at h ⊢; exact h
                have := hm j h'
                simp [Array.getD, hs, hjlt] at this hunj
                rw [this] at hunj; cases hunj
              · have hir2 : j ∈ rem ++ [i] := by simpa using h
                rcases List.mem_append.1 hir2 with hir2 | hir2
                · have := hl j hir2
                  simp [Array.getD, hs, hjlt] at this hunj
                  rw [this] at hunj; cases hunj
                · exact hne (List.mem_singleton.1 hir2).symm
  refine wpAnyL_stronger (fun _ h => h) _ _ _ _ (key rem.length listed0 x0 w0 List.countP_le_length hsz (fun i h => h) (closed_of hcl0) ?_ (Below.refl _ _) (fun k hk hl => ?_))
  · rw [List.all_eq_true] at hunl
    have := hunl l hlm
    simp [Array.getD, hsz, hlz] at this ⊢
    exact this
  · rw [List.all_eq_true] at hunl
    have := hunl k (by simp [hk])
    rcases Nat.lt_or_ge k listed0.size with h | h
    · simp [Array.getD, h] at this hl
      rw [this] at hl; cases hl
    · simp [Array.getD, Nat.not_lt.2 h] at hl
/-- The last operation, when all others have come up. -/
def LastK (P : Program) (ops : Array Oper) (Q : Exit → Act → World → Prop) (rem : List Nat) (a0 : Act) (Φ : Nat → Value → World → Prop) (w0 : World) (l : Nat) : Prop :=
  ∀ o, ops[l]? = some o → ∀ x w, Below w0.heap.size w0 w → AllK (fun k => Φ k (x k) w) rem →
    Region.wanted o (yielded ops (Fr ops rem a0 x).tmps) = true ∧ ∀ K : Act → World → Prop, (∀ a' w', Q .normal a' w' → K a' w') → o.wp P (Fr ops rem a0 x) w K Q
theorem lastK_of {rem : List Nat} {a0 : Act} {Φ : Nat → Value → World → Prop} {w0 : World} {l : Nat} {o : Oper} (ho : ops[l]? = some o)
    (h : ∀ x w, Below w0.heap.size w0 w → AllK (fun k => Φ k (x k) w) rem →
      Region.wanted o (yielded ops (Fr ops rem a0 x).tmps) = true ∧ ∀ K : Act → World → Prop, (∀ a' w', Q .normal a' w' → K a' w') → o.wp P (Fr ops rem a0 x) w K Q) : LastK P ops Q rem a0 Φ w0 l := by
  intro o' ho'
  obtain rfl := Option.some.inj (ho.symm.trans ho')
  exact h
/-- A REGION'S REST, WHATEVER THE ORDER, THE LAST ONE APART. -/
theorem seql_inv (rem : List Nat) (l : Nat) (Φ : Nat → Value → World → Prop) {listed0 : Array Bool} {a0 : Act} {w0 : World} {n : Nat}
    (hrem : remOk ops listed0 (rem ++ [l]) = true) (hwt : (rem.all fun k => waits ops [l] k) = true) (hcl0 : closedB ops listed0 = true) (hnl : (rem.contains l) = false) (hd : dstOk ops rem = true) (hn : n = rem.length + 1)
    (hmono : ∀ k v w w', Φ k v w → Below w.heap.size w w' → Φ k v w')
    (hstep : AllK (StepK P ops Q rem a0 Φ w0) rem) (hlast : LastK P ops Q rem a0 Φ w0 l) :
    SeqL P ops Q [l] n listed0 a0 w0 := by
  subst hn
  have hall : ∀ (x : Nat → Value) (w : World), (∀ k ∈ rem, Φ k (x k) w) → AllK (fun k => Φ k (x k) w) rem := by
    intro x w
    generalize rem = l
    intro h
    induction l with
    | nil => trivial
    | cons k r ih => exact ⟨h k (by simp), ih fun j hj => h j (by simp [hj])⟩
  have := seql_inv0 (P := P) (Q := Q) rem l (depOf ops rem) (Fr ops rem a0) (fun k => match dstAt ops k with | some d => a0.tmps.getD d undef | none => undef) Φ (listed0 := listed0) (w0 := w0) hrem hwt hcl0 (fun h => by rw [List.contains_iff_mem.2 h] at hnl; cases hnl) (depOf_ok rem)
    (fun k hk o ho x v => by have := fr_put ops k v rem a0 x hd hk; unfold dstAt at this; rw [ho] at this; exact this) hmono (fun k hk o ho x w hb hd => hstep.mem k hk o ho x w hb hd) (fun o ho x w hb hv => hlast o ho x w hb (hall x w hv))
  have e : Fr ops rem a0 (fun k => match dstAt ops k with | some d => a0.tmps.getD d undef | none => undef) = a0 := fr_self ops rem a0
  rw [e] at this
  exact this
end
end Go.Proofs.YtnhdefaagicejaaDoor
