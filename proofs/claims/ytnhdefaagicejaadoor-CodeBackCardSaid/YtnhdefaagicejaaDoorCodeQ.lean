/- The list of steps that wait, in plain Lean: what is seen, what waits, what is done. No program in sight. -/
import Derived.Test.YtnhdefaagicejaaDoorCodeP
namespace Go.Proofs.YtnhdefaagicejaaDoor
set_option linter.unusedSimpArgs false
set_option linter.unusedVariables false

def comeOk (c : CodeP) (S : Int → Option FrP) (to : Int) (g : FrP) : Bool := decide (0 ≤ to ∧ to < c.ins.length ∧ g.h ≤ 10000 ∧ (S to = none ∨ S to = some g))
def comeS (S : Int → Option FrP) (to : Int) (g : FrP) : Int → Option FrP := if S to = none then fun z => if z = to then some g else S z else S
def comeW (S : Int → Option FrP) (W : List Int) (to : Int) : List Int := if S to = none then W ++ [to] else W
def cntS (n : Nat) (S : Int → Option FrP) : Nat := (List.range n).countP fun (i : Nat) => (S (i : Int)).isNone
theorem cnt_put (S : Int → Option FrP) (to : Int) (g : FrP) (h : S to = none) : ∀ n : Nat, cntS n (fun z => if z = to then some g else S z) + (if 0 ≤ to ∧ to < n then 1 else 0) = cntS n S
  | 0 => by
    rw [if_neg (by omega)]
    rfl
  | n + 1 => by
    have ih := cnt_put S to g h n
    unfold cntS at *
    rw [List.range_succ, List.countP_append, List.countP_append]
    simp only [List.countP_singleton]
    simp only at ih
    by_cases he : (n : Int) = to
    · have e0 : (if 0 ≤ to ∧ to < (n : Int) then 1 else 0) = 0 := if_neg (by omega)
      have e1 : (if 0 ≤ to ∧ to < ((n + 1 : Nat) : Int) then 1 else 0) = 1 := if_pos (by omega)
      rw [e0] at ih
      rw [e1, if_pos he, he, h]
      simp only [Option.isNone_some, Option.isNone_none, if_true, Bool.false_eq_true, if_false]
      omega
    · have e1 : (if 0 ≤ to ∧ to < ((n + 1 : Nat) : Int) then 1 else 0) = (if 0 ≤ to ∧ to < (n : Int) then 1 else 0) := by
        by_cases hr : 0 ≤ to ∧ to < n
        · rw [if_pos hr, if_pos (by omega)]
        · rw [if_neg hr, if_neg (by omega)]
      rw [e1, if_neg he]
      omega
theorem cnt_none : ∀ n : Nat, cntS n (fun _ => none) = n
  | 0 => rfl
  | n + 1 => by
    have ih := cnt_none n
    unfold cntS at *
    rw [List.range_succ, List.countP_append, ih]
    rfl
/-- A step's numbers are in order, and where it leads to is seen. -/
def Done (fl : List UInt8 → Bool) (c : CodeP) (L : List Int) (S : Int → Option FrP) (z : Int) (f : FrP) : Prop :=
  ∀ x, c.ins[z.toNat]? = some x → (fitsP fl c L x f).1 = true ∧ ∀ w ∈ waysP z x f (fitsP fl c L x f).2, S w.1 = some w.2
theorem Done.mono {fl : List UInt8 → Bool} {c : CodeP} {L : List Int} {S T : Int → Option FrP} {z : Int} {f : FrP} (h : Done fl c L S z f) (hST : ∀ z g, S z = some g → T z = some g) : Done fl c L T z f :=
  fun x hx => ⟨(h x hx).1, fun w hw => hST _ _ ((h x hx).2 w hw)⟩
structure InFr (c : CodeP) (n : Nat) (z : Int) (f : FrP) : Prop where
  lo : 0 ≤ z
  hi : z < c.ins.length
  h0 : 0 ≤ f.h
  h1 : f.h ≤ 10000
  fn : f.fn < c.funs.length
  op : ∀ u ∈ f.op, -1 ≤ u
  len : f.op.length + n ≤ c.ins.length
/-- What is seen (S), what waits (W), which step is under way (p), how many starts were come to (k); n: how many may still be come to. -/
structure Work (fl : List UInt8 → Bool) (c : CodeP) (L : List Int) (k n : Nat) (S : Int → Option FrP) (W : List Int) (p : Option Int) : Prop where
  range : ∀ z f, S z = some f → InFr c n z f
  wait : ∀ z ∈ W, S z ≠ none
  starts : ∀ i : Nat, i < k → ∀ a, c.funs[i]? = some a → S a = some ⟨i, min (i : Int) 1, []⟩
  done : ∀ z f, S z = some f → z ∉ W → p ≠ some z → Done fl c L S z f
  least : ∀ F, ClosedF fl c L F → ∀ z f, S z = some f → F z = some f
  cnt : cntS c.ins.length S + W.length = n
theorem comeS_sub (S : Int → Option FrP) (to : Int) (g : FrP) (z : Int) (f : FrP) (h : S z = some f) : comeS S to g z = some f := by
  unfold comeS
  split
  · rename_i hn
    by_cases hz : z = to
    · subst hz; rw [hn] at h; cases h
    · simp only [if_neg hz, h]
  · exact h
theorem comeS_at {c : CodeP} {S : Int → Option FrP} {to : Int} {g : FrP} (h : comeOk c S to g = true) : comeS S to g to = some g := by
  unfold comeOk at h
  have h := (of_decide_eq_true h).2.2.2
  unfold comeS
  rcases h with h | h
  · rw [if_pos h]; simp
  · rw [if_neg (by rw [h]; simp)]; exact h
theorem Work.come {fl : List UInt8 → Bool} {c : CodeP} {L : List Int} {k n : Nat} {S : Int → Option FrP} {W : List Int} {p : Option Int} (h : Work fl c L k n S W p) {to : Int} {g : FrP} (hok : comeOk c S to g = true) (hg : InFr c n to g) (hF : ∀ F, ClosedF fl c L F → F to = some g) :
    Work fl c L k n (comeS S to g) (comeW S W to) p := by
  have hin := of_decide_eq_true hok
  by_cases hn : S to = none
  · have e1 : comeS S to g = fun z => if z = to then some g else S z := by unfold comeS; rw [if_pos hn]
    have e2 : comeW S W to = W ++ [to] := by unfold comeW; rw [if_pos hn]
    refine ⟨fun z f hz => ?_, fun z hz => ?_, fun i hi a ha => comeS_sub _ _ _ _ _ (h.starts i hi a ha), fun z f hz hw hp => ?_, fun F hc z f hz => ?_, ?_⟩
    · rw [e1] at hz
      simp only at hz
      split at hz
      · rename_i he
        subst he
        cases hz
        exact hg
      · exact h.range z f hz
    · rw [e2] at hz
      rcases List.mem_append.1 hz with hz | hz
      · obtain ⟨f, hf⟩ : ∃ f, S z = some f := Option.ne_none_iff_exists'.1 (h.wait z hz)
        rw [comeS_sub S to g z f hf]
        simp
      · obtain rfl : z = to := by simpa using hz
        rw [comeS_at hok]
        simp
    · rw [e1] at hz
      simp only at hz
      rw [e2] at hw
      split at hz
      · rename_i he
        subst he
        exact absurd (by simp) hw
      · exact (h.done z f hz (fun hm => hw (by simp [hm])) hp).mono (comeS_sub S to g)
    · rw [e1] at hz
      simp only at hz
      split at hz
      · rename_i he
        subst he
        cases hz
        exact hF F hc
      · exact h.least F hc z f hz
    · rw [e1, e2, List.length_append, List.length_singleton]
      have := cnt_put S to g hn c.ins.length
      rw [if_pos ⟨hin.1, hin.2.1⟩] at this
      have := h.cnt
      omega
  · have e1 : comeS S to g = S := by unfold comeS; rw [if_neg hn]
    have e2 : comeW S W to = W := by unfold comeW; rw [if_neg hn]
    rw [e1, e2]
    exact h
/-- If a step can't be come to, the code is in no order. -/
theorem Work.come_no {fl : List UInt8 → Bool} {c : CodeP} {L : List Int} {k n : Nat} {S : Int → Option FrP} {W : List Int} {p : Option Int} (h : Work fl c L k n S W p) {to : Int} {g : FrP} (hok : comeOk c S to g = false) (hF : ∀ F, ClosedF fl c L F → 0 ≤ to ∧ to < c.ins.length ∧ g.h ≤ 10000 ∧ F to = some g) (hfr : Frees c L) : ¬ Ord fl c := by
  rintro ⟨_, L', F, hfr', hc⟩
  obtain rfl := frees_unique hfr' hfr
  obtain ⟨h1, h2, h3, h4⟩ := hF F hc
  refine absurd hok ?_
  have : comeOk c S to g = true := by
    refine decide_eq_true ⟨h1, h2, h3, ?_⟩
    cases hs : S to with
    | none => exact .inl rfl
    | some g' =>
      have := h.least F hc to g' hs
      rw [h4] at this
      exact .inr this.symm
  rw [this]
  decide
theorem Work.fits_no {fl : List UInt8 → Bool} {c : CodeP} {L : List Int} {k n : Nat} {S : Int → Option FrP} {W : List Int} {p : Option Int} (h : Work fl c L k n S W p) {z : Nat} {f : FrP} {x : InsP} (hz : S z = some f) (hx : c.ins[z]? = some x) (hf : (fitsP fl c L x f).1 = false) (hfr : Frees c L) : ¬ Ord fl c := by
  rintro ⟨_, L', F, hfr', hc⟩
  obtain rfl := frees_unique hfr' hfr
  have := (hc.step z x f (h.least F hc z f hz) hx).1
  rw [hf] at this
  cases this
theorem Work.way {fl : List UInt8 → Bool} {c : CodeP} {L : List Int} {k n : Nat} {S : Int → Option FrP} {W : List Int} {p : Option Int} (h : Work fl c L k n S W p) {z : Nat} {f : FrP} {x : InsP} (hz : S z = some f) (hx : c.ins[z]? = some x) {w : Int × FrP} (hw : w ∈ waysP z x f (fitsP fl c L x f).2) :
    ∀ F, ClosedF fl c L F → 0 ≤ w.1 ∧ w.1 < c.ins.length ∧ w.2.h ≤ 10000 ∧ F w.1 = some w.2 := fun F hc => (hc.step z x f (h.least F hc z f hz) hx).2 w hw
theorem Work.start {fl : List UInt8 → Bool} {c : CodeP} {L : List Int} {k n : Nat} {S : Int → Option FrP} {W : List Int} {p : Option Int} (_ : Work fl c L k n S W p) {i : Nat} {a : Int} (ha : c.funs[i]? = some a) :
    ∀ F, ClosedF fl c L F → 0 ≤ a ∧ a < c.ins.length ∧ (⟨i, min (i : Int) 1, []⟩ : FrP).h ≤ 10000 ∧ F a = some ⟨i, min (i : Int) 1, []⟩ := fun F hc => by
  obtain ⟨h1, h2, h3⟩ := hc.start i a ha
  exact ⟨h1, h2, by show min (i : Int) 1 ≤ 10000; omega, h3⟩
theorem Work.nil (fl : List UInt8 → Bool) (c : CodeP) (L : List Int) : Work fl c L 0 c.ins.length (fun _ => none) [] none :=
  { range := fun z f h => by cases h
    wait := fun z h => by cases h
    starts := fun i hi => by omega
    done := fun z f h => by cases h
    least := fun F hF z f h => by cases h
    cnt := by rw [cnt_none]; rfl }
theorem Work.pop {fl : List UInt8 → Bool} {c : CodeP} {L : List Int} {k n : Nat} {S : Int → Option FrP} {z : Int} {W : List Int} (h : Work fl c L k n S (z :: W) none) : 1 ≤ n ∧ Work fl c L k (n - 1) S W (some z) ∧ ∃ f, S z = some f := by
  have hc := h.cnt
  rw [List.length_cons] at hc
  refine ⟨by omega, ⟨fun y f hy => ?_, fun y hy => h.wait y (by simp [hy]), h.starts, fun y f hy hw hp => h.done y f hy (fun hm => ?_) (by simp), h.least, by omega⟩, Option.ne_none_iff_exists'.1 (h.wait z (by simp))⟩
  · obtain ⟨a, b, d, e, f', g, i⟩ := h.range y f hy
    exact ⟨a, b, d, e, f', g, by omega⟩
  · rcases List.mem_cons.1 hm with rfl | hm
    · exact hp rfl
    · exact hw hm
theorem Work.finish {fl : List UInt8 → Bool} {c : CodeP} {L : List Int} {k n : Nat} {S : Int → Option FrP} {W : List Int} {z : Int} (h : Work fl c L k n S W (some z)) (hd : ∀ f, S z = some f → Done fl c L S z f) : Work fl c L k n S W none :=
  ⟨h.range, h.wait, h.starts, fun y f hy hw _ => by
    by_cases he : z = y
    · subst he
      exact hd f hy
    · exact h.done y f hy hw (by simpa using he), h.least, h.cnt⟩
theorem Work.started {fl : List UInt8 → Bool} {c : CodeP} {L : List Int} {k n : Nat} {S : Int → Option FrP} {W : List Int} {p : Option Int} (h : Work fl c L k n S W p) (hs : ∀ a, c.funs[k]? = some a → S a = some ⟨k, min (k : Int) 1, []⟩) : Work fl c L (k + 1) n S W p :=
  ⟨h.range, h.wait, fun i hi a ha => by
    rcases Nat.lt_or_ge i k with hl | hl
    · exact h.starts i hl a ha
    · obtain rfl : i = k := by omega
      exact hs a ha, h.done, h.least, h.cnt⟩
theorem Work.ord {fl : List UInt8 → Bool} {c : CodeP} {L : List Int} {n : Nat} {S : Int → Option FrP} (h : Work fl c L c.funs.length n S [] none) (hp : Pre c) (hfr : Frees c L) : Ord fl c := by
  refine ⟨hp, L, S, hfr, fun i a ha => ?_, fun z f hz => (h.range z f hz).op, fun z x f hz hx => ?_⟩
  · have h1 := h.starts i (List.getElem?_eq_some_iff.1 ha).1 a ha
    exact ⟨(h.range a _ h1).lo, (h.range a _ h1).hi, h1⟩
  · obtain ⟨h1, h2⟩ := h.done z f hz (by simp) (by simp) x (by simpa using hx)
    refine ⟨h1, fun w hw => ?_⟩
    have h3 := h2 w hw
    have h4 := h.range _ _ h3
    exact ⟨h4.lo, h4.hi, h4.h1, h3⟩
/-- A step that is in order leads to frames in order. -/
theorem ways_in {fl : List UInt8 → Bool} {c : CodeP} {L : List Int} {n : Nat} {z : Int} {f : FrP} {x : InsP} (hf : InFr c (n + 1) z f) (h0 : 0 ≤ x.op) (h1 : x.op ≤ 28) (hok : (fitsP fl c L x f).1 = true) {w : Int × FrP} (hw : w ∈ waysP z x f (fitsP fl c L x f).2) (hlo : 0 ≤ w.1) (hhi : w.1 < c.ins.length) (hh : w.2.h ≤ 10000) (h24 : x.op = 24 → 0 ≤ x.a) : InFr c n w.1 w.2 := by
  obtain ⟨a1, a2, a3, a4, a5, a6, a7⟩ := hf
  obtain ⟨op, a, b⟩ := x
  obtain ⟨fn, h, o⟩ := f
  have hc := op_cases h0 h1
  simp only at hc h24 a3 a4 a5 a6 a7
  have hdrop : ∀ u ∈ o.dropLast, -1 ≤ u := fun u hu => a6 u ((List.dropLast_sublist o).subset hu)
  have hlen := List.length_dropLast (xs := o)
  rcases hc with rfl | rfl | rfl | rfl | rfl | rfl | rfl | rfl | rfl | rfl | rfl | rfl | rfl | rfl | rfl | rfl | rfl | rfl | rfl | rfl | rfl | rfl | rfl | rfl | rfl | rfl | rfl | rfl | rfl <;>
    simp [waysP, fitsP, betw] at hw hok <;> rcases hw with rfl | rfl <;>
    first
    | exact ⟨hlo, hhi, by simp only; omega, hh, a5, a6, by simp only; omega⟩
    | exact ⟨hlo, hhi, by simp only; omega, hh, a5, hdrop, by simp only; omega⟩
    | exact ⟨hlo, hhi, by simp only; omega, hh, a5, fun u hu => by
        rcases List.mem_append.1 hu with hu | hu
        · exact a6 u hu
        · have hu := List.mem_singleton.1 hu
          first
          | omega
          | (have := h24 rfl; omega), by simp; omega⟩
end Go.Proofs.YtnhdefaagicejaaDoor
