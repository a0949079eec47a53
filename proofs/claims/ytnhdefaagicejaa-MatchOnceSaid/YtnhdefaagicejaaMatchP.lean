/- Rows of patterns as a tree of questions, in plain Lean: which row a value comes to, and which places are asked. No program in sight. -/
import Derived.Test.YtnhdefaagicejaaPV
namespace Go.Proofs.Ytnhdefaagicejaa
set_option linter.unusedSimpArgs false
set_option linter.unusedVariables false

def openP (p : PV) : Bool := decide (p.kind = 0 ∨ p.kind = 1)
mutual
def sizeV : PV → Nat
  | .mk _ _ _ ks => sizeVs ks + 1
def sizeVs : List PV → Nat
  | [] => 0
  | x :: xs => sizeV x + sizeVs xs
end
mutual
def rightP : PV → Bool
  | .mk k n _ ks => decide (0 ≤ k ∧ k ≤ 6 ∧ (k = 5 → 0 ≤ n)) && (decide (k < 5) || rightPs ks)
def rightPs : List PV → Bool
  | [] => true
  | x :: xs => rightP x && rightPs xs
end
/-- A pattern, without what its parts ask for. -/
structure TestM where
  op : Int
  num : Int
  text : List UInt8
  n : Nat
deriving DecidableEq
def testP (p : PV) : TestM := ⟨p.kind, if p.kind = 2 ∨ p.kind = 5 then p.num else 0, if p.kind = 3 then p.text else [], if 5 ≤ p.kind then p.kids.length else 0⟩
/-- Does a value stand a test? -/
def holdsT (x : TestM) (v : PV) : Bool :=
  if x.op = 2 then decide (v.kind = 0 ∧ v.num = x.num)
  else if x.op = 3 then decide (v.kind = 2 ∧ v.text = x.text)
  else if x.op = 4 then decide (v.kind = 6)
  else if x.op = 5 then decide (v.kind = 3 ∧ v.num = x.num ∧ v.kids.length = x.n)
  else if x.op = 6 then decide (v.kind = 4 ∧ v.kids.length = x.n)
  else true
mutual
def fitsM : PV → PV → Bool
  | .mk k n t ks, v => if k = 0 ∨ k = 1 then true else holdsT (testP (.mk k n t ks)) v && (decide (k < 5) || fitsMs ks v.kids)
def fitsMs : List PV → List PV → Bool
  | [], _ => true
  | x :: xs, v :: vs => fitsM x v && fitsMs xs vs
  | _ :: _, [] => false
end
/-- What stands at a place. -/
def atV : PV → List Nat → Option PV
  | v, [] => some v
  | v, i :: is => match v.kids[i]? with
    | some u => atV u is
    | none => none
structure CellM where
  path : List Nat
  p : PV
structure RowM where
  num : Int
  cells : List CellM
def kidCells (path : List Nat) : Nat → List PV → List CellM
  | _, [] => []
  | i, k :: ks => (if openP k then [] else [⟨path ++ [i], k⟩]) ++ kidCells path (i + 1) ks
def atR (r : RowM) (path : List Nat) : Option PV := (r.cells.find? (fun c => decide (c.path = path))).map (·.p)
/-- What stands for one cell when a test held at a place. -/
def cellC (path : List Nat) (x : TestM) (c : CellM) : Option (List CellM) :=
  if c.path = path then (if testP c.p = x then some (if 5 ≤ c.p.kind then kidCells path 0 c.p.kids else []) else none) else some [c]
def takeC (path : List Nat) (x : TestM) : List CellM → Option (List CellM)
  | [] => some []
  | c :: cs => match cellC path x c, takeC path x cs with
    | some a, some b => some (a ++ b)
    | _, _ => none
def takeR (path : List Nat) (x : TestM) (r : RowM) : Option RowM := (takeC path x r.cells).map (fun cs => ⟨r.num, cs⟩)
def takeRows (path : List Nat) (x : TestM) (rows : List RowM) : List RowM := rows.filterMap (takeR path x)
def restRows (path : List Nat) (rows : List RowM) : List RowM := rows.filter (fun r => (atR r path).isNone)
def addTest (path : List Nat) (ts : List TestM) (r : RowM) : List TestM :=
  match atR r path with
  | some p => if testP p ∈ ts then ts else ts ++ [testP p]
  | none => ts
def testsOf (path : List Nat) (rows : List RowM) : List TestM := rows.foldl (addTest path) []
inductive TreeM where
  | leaf (num : Int)
  | node (path : List Nat) (tests : List TestM) (kids : List TreeM)
/-- The tree of rows; n: more than their measure. -/
def buildM : Nat → List RowM → TreeM
  | 0, _ => .leaf (-1)
  | _ + 1, [] => .leaf (-1)
  | n + 1, r :: rs => match r.cells with
    | [] => .leaf r.num
    | c :: _ => .node c.path (testsOf c.path (r :: rs)) ((testsOf c.path (r :: rs)).map (fun x => buildM n (takeRows c.path x (r :: rs))) ++ [buildM n (restRows c.path (r :: rs))])
/-- How many nodes it has. -/
def cntM : Nat → List RowM → Nat
  | 0, _ => 1
  | _ + 1, [] => 1
  | n + 1, r :: rs => match r.cells with
    | [] => 1
    | c :: _ => 1 + (((testsOf c.path (r :: rs)).map (fun x => cntM n (takeRows c.path x (r :: rs)))).sum + cntM n (restRows c.path (r :: rs)))

/-! The measure of rows. -/
def sizeC (cs : List CellM) : Nat := (cs.map fun c => sizeV c.p).sum
def measM (rows : List RowM) : Nat := (rows.map fun r => 1 + sizeC r.cells).sum
theorem sizeV_pos : ∀ p : PV, 1 ≤ sizeV p
  | .mk _ _ _ _ => by rw [sizeV]; omega
theorem sizeC_nil : sizeC [] = 0 := rfl
theorem sizeC_cons (c : CellM) (cs : List CellM) : sizeC (c :: cs) = sizeV c.p + sizeC cs := by simp [sizeC]
theorem sizeC_append (a b : List CellM) : sizeC (a ++ b) = sizeC a + sizeC b := by simp [sizeC]
theorem measM_nil : measM [] = 0 := rfl
theorem measM_cons (r : RowM) (rs : List RowM) : measM (r :: rs) = 1 + sizeC r.cells + measM rs := by simp [measM]
theorem measM_append (a b : List RowM) : measM (a ++ b) = measM a + measM b := by simp [measM]
theorem kidCells_size (path : List Nat) : ∀ (ks : List PV) (i : Nat), sizeC (kidCells path i ks) ≤ sizeVs ks
  | [], _ => by simp [kidCells, sizeC]
  | k :: ks, i => by
    have := kidCells_size path ks (i + 1)
    rw [kidCells, sizeC_append, sizeVs]
    split
    · rw [sizeC_nil]; omega
    · rw [sizeC_cons, sizeC_nil]; simp only; omega
theorem sizeV_kids (p : PV) : sizeV p = sizeVs p.kids + 1 := by cases p; rw [sizeV]; rfl
theorem cellC_size {path : List Nat} {x : TestM} {c : CellM} {l : List CellM} (h : cellC path x c = some l) : sizeC l ≤ sizeV c.p ∧ (c.path = path → sizeC l < sizeV c.p) := by
  unfold cellC at h
  split at h
  · split at h
    · rw [Option.some.injEq] at h
      subst h
      have h1 := sizeV_kids c.p
      split
      · have := kidCells_size path c.p.kids 0
        exact ⟨by omega, fun _ => by omega⟩
      · rw [sizeC_nil]; exact ⟨by omega, fun _ => by omega⟩
    · cases h
  · rename_i hp
    rw [Option.some.injEq] at h
    subst h
    rw [sizeC_cons, sizeC_nil]
    exact ⟨by omega, fun he => absurd he hp⟩
theorem takeC_cons {path : List Nat} {x : TestM} {c : CellM} {cs l : List CellM} (h : takeC path x (c :: cs) = some l) : ∃ a b, cellC path x c = some a ∧ takeC path x cs = some b ∧ l = a ++ b := by
  rw [takeC] at h
  split at h
  · rename_i a b ha hb
    rw [Option.some.injEq] at h
    exact ⟨a, b, ha, hb, h.symm⟩
  · cases h
theorem takeC_size {path : List Nat} {x : TestM} : ∀ {cs l : List CellM}, takeC path x cs = some l → sizeC l ≤ sizeC cs ∧ ((∃ c ∈ cs, c.path = path) → sizeC l < sizeC cs)
  | [], l, h => by
    rw [takeC, Option.some.injEq] at h
    subst h
    exact ⟨Nat.le_refl _, fun ⟨c, hc, _⟩ => by cases hc⟩
  | c :: cs, l, h => by
    obtain ⟨a, b, ha, hb, rfl⟩ := takeC_cons h
    have h1 := cellC_size ha
    have h2 := takeC_size hb
    rw [sizeC_append, sizeC_cons]
    refine ⟨by omega, fun ⟨d, hd, hp⟩ => ?_⟩
    rcases List.mem_cons.1 hd with rfl | hd
    · have := h1.2 hp; omega
    · have := h2.2 ⟨d, hd, hp⟩; omega
theorem takeC_snoc (path : List Nat) (x : TestM) (c : CellM) : ∀ cs : List CellM, takeC path x (cs ++ [c]) = match takeC path x cs, cellC path x c with
    | some a, some b => some (a ++ b)
    | _, _ => none
  | [] => by
    simp only [List.nil_append, takeC]
    cases cellC path x c <;> simp
  | d :: cs => by
    rw [List.cons_append, takeC, takeC_snoc path x c cs, takeC]
    cases cellC path x d <;> cases takeC path x cs <;> cases cellC path x c <;> simp
theorem atR_some {r : RowM} {path : List Nat} {p : PV} (h : atR r path = some p) : ∃ c ∈ r.cells, c.path = path ∧ c.p = p := by
  unfold atR at h
  obtain ⟨c, hc, rfl⟩ := Option.map_eq_some_iff.1 h
  exact ⟨c, List.mem_of_find?_eq_some hc, by simpa using List.find?_some hc, rfl⟩
theorem atR_none {r : RowM} {path : List Nat} (h : atR r path = none) : ∀ c ∈ r.cells, c.path ≠ path := by
  unfold atR at h
  rw [Option.map_eq_none_iff] at h
  intro c hc he
  have := List.find?_eq_none.1 h c hc
  simp [he] at this
theorem takeRows_cons (path : List Nat) (x : TestM) (r : RowM) (rs : List RowM) : takeRows path x (r :: rs) = (match takeR path x r with | some s => [s] | none => []) ++ takeRows path x rs := by
  unfold takeRows
  rw [List.filterMap_cons]
  cases takeR path x r <;> rfl
theorem take_meas (path : List Nat) (x : TestM) : ∀ rows : List RowM, measM (takeRows path x rows) ≤ measM rows ∧ ((∃ r ∈ rows, ∃ c ∈ r.cells, c.path = path) → measM (takeRows path x rows) < measM rows)
  | [] => ⟨Nat.le_refl _, fun ⟨r, hr, _⟩ => by cases hr⟩
  | r :: rs => by
    have ih := take_meas path x rs
    rw [takeRows_cons, measM_append, measM_cons]
    unfold takeR
    cases h : takeC path x r.cells with
    | none =>
      simp only [Option.map_none, measM_nil]
      exact ⟨by omega, fun _ => by omega⟩
    | some l =>
      have h1 := takeC_size h
      simp only [Option.map_some, measM_cons, measM_nil]
      refine ⟨by omega, fun ⟨s, hs, d, hd, hp⟩ => ?_⟩
      rcases List.mem_cons.1 hs with rfl | hs
      · have := h1.2 ⟨d, hd, hp⟩; omega
      · have := ih.2 ⟨s, hs, d, hd, hp⟩; omega
theorem rest_meas (path : List Nat) : ∀ rows : List RowM, measM (restRows path rows) ≤ measM rows ∧ ((∃ r ∈ rows, (atR r path).isSome = true) → measM (restRows path rows) < measM rows)
  | [] => ⟨Nat.le_refl _, fun ⟨r, hr, _⟩ => by cases hr⟩
  | r :: rs => by
    have ih := rest_meas path rs
    unfold restRows at *
    rw [List.filter_cons]
    cases h : (atR r path).isNone with
    | true =>
      simp only [if_true, measM_cons]
      refine ⟨by omega, fun ⟨s, hs, hp⟩ => ?_⟩
      rcases List.mem_cons.1 hs with rfl | hs
      · rw [Option.isSome_iff_ne_none] at hp
        rw [Option.isNone_iff_eq_none] at h
        exact absurd h hp
      · have := ih.2 ⟨s, hs, hp⟩; omega
    | false =>
      simp only [Bool.false_eq_true, if_false, measM_cons]
      exact ⟨by omega, fun _ => by omega⟩
theorem atR_head {r : RowM} {c : CellM} {cs : List CellM} (h : r.cells = c :: cs) : atR r c.path = some c.p := by
  unfold atR
  rw [h, List.find?_cons]
  simp
theorem mem_testsOf (path : List Nat) : ∀ (rows : List RowM) (ts : List TestM), (∀ x ∈ ts, x ∈ rows.foldl (addTest path) ts) ∧ (∀ r ∈ rows, ∀ p, atR r path = some p → testP p ∈ rows.foldl (addTest path) ts) ∧ (∀ x ∈ rows.foldl (addTest path) ts, x ∈ ts ∨ ∃ r ∈ rows, ∃ p, atR r path = some p ∧ testP p = x) ∧ (rows.foldl (addTest path) ts).length ≤ ts.length + rows.length
  | [], ts => ⟨fun _ h => h, fun _ h => (by cases h), fun _ h => .inl h, by simp⟩
  | r :: rs, ts => by
    obtain ⟨h1, h2, h3, h4⟩ := mem_testsOf path rs (addTest path ts r)
    rw [List.foldl_cons]
    have hsub : ∀ x ∈ ts, x ∈ addTest path ts r := by
      intro x hx
      unfold addTest
      split
      · split
        · exact hx
        · exact List.mem_append_left _ hx
      · exact hx
    refine ⟨fun x hx => h1 x (hsub x hx), fun s hs p hp => ?_, fun x hx => ?_, ?_⟩
    · rcases List.mem_cons.1 hs with rfl | hs
      · refine h1 _ ?_
        unfold addTest
        rw [hp]
        simp only
        split
        · assumption
        · exact List.mem_append_right _ (by simp)
      · exact h2 s hs p hp
    · rcases h3 x hx with h | ⟨s, hs, p, hp, he⟩
      · unfold addTest at h
        split at h
        · rename_i p hp
          split at h
          · exact .inl h
          · rcases List.mem_append.1 h with h | h
            · exact .inl h
            · exact .inr ⟨r, by simp, p, hp, (List.mem_singleton.1 h).symm⟩
        · exact .inl h
      · exact .inr ⟨s, List.mem_cons_of_mem _ hs, p, hp, he⟩
    · have : (addTest path ts r).length ≤ ts.length + 1 := by
        unfold addTest
        split
        · split
          · omega
          · rw [List.length_append]; simp
        · omega
      rw [List.length_cons]
      omega
theorem take_lt {path : List Nat} {x : TestM} {rows : List RowM} (h : x ∈ testsOf path rows) : measM (takeRows path x rows) < measM rows := by
  rcases (mem_testsOf path rows []).2.2.1 x h with h | ⟨r, hr, p, hp, _⟩
  · cases h
  · obtain ⟨c, hc, h1, _⟩ := atR_some hp
    exact (take_meas path x rows).2 ⟨r, hr, c, hc, h1⟩
theorem rest_lt {r : RowM} {rs : List RowM} {c : CellM} {cs : List CellM} (h : r.cells = c :: cs) : measM (restRows c.path (r :: rs)) < measM (r :: rs) :=
  (rest_meas c.path (r :: rs)).2 ⟨r, by simp, by rw [atR_head h]; rfl⟩

/-! What a value comes to. -/
theorem atV_snoc : ∀ (path : List Nat) (v u : PV) (i : Nat), atV v path = some u → atV v (path ++ [i]) = u.kids[i]?
  | [], v, u, i, h => by
    rw [atV, Option.some.injEq] at h
    subst h
    rw [List.nil_append, atV]
    cases v.kids[i]? with
    | none => rfl
    | some w => simp only [atV]
  | j :: js, v, u, i, h => by
    rw [atV] at h
    rw [List.cons_append, atV]
    cases hw : v.kids[j]? with
    | none => rw [hw] at h; cases h
    | some w =>
      rw [hw] at h
      exact atV_snoc js w u i h
theorem rightPs_get : ∀ {ks : List PV}, rightPs ks = true → ∀ k ∈ ks, rightP k = true
  | [], _, _, h => by cases h
  | x :: xs, h, k, hk => by
    rw [rightPs, Bool.and_eq_true] at h
    rcases List.mem_cons.1 hk with rfl | hk
    · exact h.1
    · exact rightPs_get h.2 k hk
theorem right_kids {p : PV} (h : rightP p = true) (h5 : 5 ≤ p.kind) : rightPs p.kids = true := by
  obtain ⟨k, n, t, ks⟩ := p
  rw [rightP, Bool.and_eq_true, Bool.or_eq_true] at h
  have h5' : 5 ≤ k := h5
  rcases h.2 with h | h
  · have := of_decide_eq_true h; omega
  · exact h
theorem right_range {p : PV} (h : rightP p = true) : 0 ≤ p.kind ∧ p.kind ≤ 6 := by
  obtain ⟨k, n, t, ks⟩ := p
  rw [rightP, Bool.and_eq_true] at h
  have := of_decide_eq_true h.1
  exact ⟨this.1, this.2.1⟩
theorem fits_open {p : PV} (h : openP p = true) (v : PV) : fitsM p v = true := by
  obtain ⟨k, n, t, ks⟩ := p
  rw [fitsM, if_pos (show k = 0 ∨ k = 1 from of_decide_eq_true h)]
theorem fits_test {p : PV} (h : openP p = false) (v : PV) : fitsM p v = (holdsT (testP p) v && (decide (p.kind < 5) || fitsMs p.kids v.kids)) := by
  obtain ⟨k, n, t, ks⟩ := p
  rw [fitsM, if_neg (show ¬ (k = 0 ∨ k = 1) from of_decide_eq_false h)]
  rfl
/-- Tests that one value stands are one. -/
theorem holds_one {p q : PV} {u : PV} (hp : rightP p = true) (hq : rightP q = true) (op : openP p = false) (oq : openP q = false) (h1 : holdsT (testP p) u = true) (h2 : holdsT (testP q) u = true) : testP p = testP q := by
  have rp := right_range hp
  have rq := right_range hq
  have op := of_decide_eq_false op
  have oq := of_decide_eq_false oq
  obtain ⟨k, n, t, ks⟩ := p
  obtain ⟨k2, n2, t2, ks2⟩ := q
  obtain ⟨uk, un, ut, uks⟩ := u
  simp only [PV.kind] at rp rq op oq
  have e1 : k = 2 ∨ k = 3 ∨ k = 4 ∨ k = 5 ∨ k = 6 := by omega
  have e2 : k2 = 2 ∨ k2 = 3 ∨ k2 = 4 ∨ k2 = 5 ∨ k2 = 6 := by omega
  clear rp rq op oq hp hq
  rcases e1 with rfl | rfl | rfl | rfl | rfl <;> rcases e2 with rfl | rfl | rfl | rfl | rfl <;>
    simp [holdsT, testP, PV.kind, PV.num, PV.text, PV.kids] at h1 h2 ⊢ <;> (try omega) <;> simp_all
def cellHolds (v : PV) (c : CellM) : Bool := match atV v c.path with
  | some u => fitsM c.p u
  | none => false
def rowHolds (v : PV) (r : RowM) : Bool := r.cells.all (cellHolds v)
def firstR (v : PV) (rows : List RowM) : Int := match rows.find? (rowHolds v) with
  | some r => r.num
  | none => -1
theorem kid_hold (v u : PV) (path : List Nat) (hu : atV v path = some u) : ∀ (ks : List PV) (i : Nat), i + ks.length = u.kids.length → (kidCells path i ks).all (cellHolds v) = fitsMs ks (u.kids.drop i)
  | [], i, _ => by simp [kidCells, fitsMs]
  | k :: ks, i, h => by
    rw [List.length_cons] at h
    have hi : i < u.kids.length := by omega
    have ih := kid_hold v u path hu ks (i + 1) (by omega)
    rw [List.drop_eq_getElem_cons hi, kidCells, List.all_append, ih, fitsMs]
    congr 1
    cases ho : openP k with
    | true => rw [fits_open ho]; rfl
    | false =>
      simp only [Bool.false_eq_true, if_false, List.all_cons, List.all_nil, Bool.and_true]
      unfold cellHolds
      rw [atV_snoc path v u i hu, List.getElem?_eq_getElem hi]
/-- What is known of the cells of rows. -/
def CellsOk (v : PV) (r : RowM) : Prop := ∀ c ∈ r.cells, rightP c.p = true ∧ openP c.p = false ∧ ∃ u, atV v c.path = some u
theorem holds_len {p u : PV} (h5 : 5 ≤ p.kind) (hr : p.kind ≤ 6) (h : holdsT (testP p) u = true) : u.kids.length = p.kids.length := by
  obtain ⟨k, n, t, ks⟩ := p
  simp only [PV.kind] at h5 hr
  have e : k = 5 ∨ k = 6 := by omega
  rcases e with rfl | rfl <;> simp [holdsT, testP, PV.kind, PV.kids] at h <;> simp only [PV.kids]
  · exact h.2.2
  · exact h.2
theorem cellC_hold {v u : PV} {path : List Nat} {x : TestM} {c : CellM} (hu : atV v path = some u) (hx : holdsT x u = true) (hx' : ∃ q, rightP q = true ∧ openP q = false ∧ testP q = x) (hc : rightP c.p = true ∧ openP c.p = false) :
    (∀ l, cellC path x c = some l → l.all (cellHolds v) = cellHolds v c) ∧ (cellC path x c = none → cellHolds v c = false) := by
  unfold cellC
  by_cases hp : c.path = path
  · rw [if_pos hp]
    have hch : cellHolds v c = fitsM c.p u := by unfold cellHolds; rw [hp, hu]
    rw [hch, fits_test hc.2]
    by_cases ht : testP c.p = x
    · rw [if_pos ht]
      refine ⟨fun l hl => ?_, fun h => by cases h⟩
      rw [Option.some.injEq] at hl
      subst hl
      rw [ht, hx, Bool.true_and]
      have hrg := right_range hc.1
      by_cases h5 : 5 ≤ c.p.kind
      · rw [if_pos h5, kid_hold v u path hu c.p.kids 0 (by rw [Nat.zero_add]; exact (holds_len h5 hrg.2 (by rw [ht]; exact hx)).symm), List.drop_zero, decide_eq_false (by omega), Bool.false_or]
      · rw [if_neg h5, decide_eq_true (by omega)]
        rfl
    · rw [if_neg ht]
      refine ⟨fun l hl => (by cases hl), fun _ => ?_⟩
      cases hh : holdsT (testP c.p) u with
      | false => rfl
      | true =>
        obtain ⟨q, q1, q2, q3⟩ := hx'
        refine absurd ?_ ht
        rw [← q3]
        exact holds_one hc.1 q1 hc.2 q2 hh (by rw [q3]; exact hx)
  · rw [if_neg hp]
    refine ⟨fun l hl => ?_, fun h => by cases h⟩
    rw [Option.some.injEq] at hl
    subst hl
    simp
theorem takeC_hold {v u : PV} {path : List Nat} {x : TestM} (hu : atV v path = some u) (hx : holdsT x u = true) (hx' : ∃ q, rightP q = true ∧ openP q = false ∧ testP q = x) :
    ∀ cs : List CellM, (∀ c ∈ cs, rightP c.p = true ∧ openP c.p = false) → (∀ l, takeC path x cs = some l → l.all (cellHolds v) = cs.all (cellHolds v)) ∧ (takeC path x cs = none → cs.all (cellHolds v) = false)
  | [], _ => by
    rw [takeC]
    exact ⟨fun l hl => (by rw [Option.some.injEq] at hl; rw [← hl]), fun h => (by cases h)⟩
  | c :: cs, h => by
    have h1 := cellC_hold (c := c) hu hx hx' (h c (by simp))
    have h2 := takeC_hold hu hx hx' cs (fun d hd => h d (by simp [hd]))
    rw [takeC, List.all_cons]
    cases e1 : cellC path x c with
    | none => exact ⟨fun l hl => (by cases hl), fun _ => by rw [h1.2 e1]; rfl⟩
    | some a =>
      cases e2 : takeC path x cs with
      | none => exact ⟨fun l hl => (by cases hl), fun _ => by rw [h2.2 e2, Bool.and_false]⟩
      | some b =>
        refine ⟨fun l hl => ?_, fun h => by cases h⟩
        simp only [Option.some.injEq] at hl
        rw [← hl, List.all_append, h1.1 a e1, h2.1 b e2]
theorem first_take {v u : PV} {path : List Nat} {x : TestM} (hu : atV v path = some u) (hx : holdsT x u = true) (hx' : ∃ q, rightP q = true ∧ openP q = false ∧ testP q = x) :
    ∀ rows : List RowM, (∀ r ∈ rows, CellsOk v r) → firstR v (takeRows path x rows) = firstR v rows
  | [], _ => rfl
  | r :: rs, h => by
    have ih := first_take hu hx hx' rs (fun s hs => h s (by simp [hs]))
    have h1 := takeC_hold hu hx hx' r.cells (fun c hc => ⟨(h r (by simp) c hc).1, (h r (by simp) c hc).2.1⟩)
    rw [takeRows_cons]
    unfold takeR
    unfold firstR at *
    rw [List.find?_cons]
    cases e : takeC path x r.cells with
    | none =>
      rw [show rowHolds v r = false from h1.2 e]
      simpa using ih
    | some l =>
      have h2 := h1.1 l e
      simp only [Option.map_some, List.singleton_append, List.find?_cons]
      rw [show rowHolds v ⟨r.num, l⟩ = rowHolds v r from h2]
      cases rowHolds v r with
      | true => rfl
      | false => exact ih
theorem first_rest {v u : PV} {path : List Nat} (hu : atV v path = some u) :
    ∀ rows : List RowM, (∀ r ∈ rows, CellsOk v r) → (∀ r ∈ rows, ∀ p, atR r path = some p → holdsT (testP p) u = false) → firstR v (restRows path rows) = firstR v rows
  | [], _, _ => rfl
  | r :: rs, h, hn => by
    have ih := first_rest hu rs (fun s hs => h s (by simp [hs])) (fun s hs => hn s (by simp [hs]))
    unfold restRows at *
    unfold firstR at *
    rw [List.filter_cons, List.find?_cons]
    cases e : atR r path with
    | none =>
      simp only [Option.isNone_none, if_true, List.find?_cons]
      cases rowHolds v r with
      | true => rfl
      | false => exact ih
    | some p =>
      simp only [Option.isNone_some, Bool.false_eq_true, if_false]
      obtain ⟨c, hc, h1, h2⟩ := atR_some e
      have hf : rowHolds v r = false := by
        unfold rowHolds
        rw [List.all_eq_false]
        refine ⟨c, hc, ?_⟩
        unfold cellHolds
        rw [h1, hu]
        simp only
        rw [fits_test (h r (by simp) c hc).2.1, h2, hn r (by simp) p e]
        simp
      rw [hf]
      exact ih

/-! No place twice. -/
theorem kidCells_mem {path : List Nat} : ∀ {ks : List PV} {i : Nat} {c : CellM}, c ∈ kidCells path i ks → ∃ j, ∃ h : j < ks.length, c.path = path ++ [i + j] ∧ c.p = ks[j] ∧ openP c.p = false
  | [], _, _, h => by simp [kidCells] at h
  | k :: ks, i, c, h => by
    rw [kidCells] at h
    rcases List.mem_append.1 h with h | h
    · cases ho : openP k with
      | true => rw [ho] at h; simp at h
      | false =>
        rw [ho] at h
        simp at h
        subst h
        exact ⟨0, by simp, rfl, rfl, ho⟩
    · obtain ⟨j, hj, h1, h2, h3⟩ := kidCells_mem h
      exact ⟨j + 1, by simpa using hj, by rw [h1]; congr 2; omega, by rw [h2]; rfl, h3⟩
theorem takeC_mem {path : List Nat} {x : TestM} : ∀ {cs l : List CellM}, takeC path x cs = some l → ∀ c ∈ l, (c ∈ cs ∧ c.path ≠ path) ∨ ∃ d ∈ cs, d.path = path ∧ testP d.p = x ∧ 5 ≤ d.p.kind ∧ c ∈ kidCells path 0 d.p.kids
  | [], l, h, c, hc => by
    rw [takeC, Option.some.injEq] at h
    rw [← h] at hc
    cases hc
  | e :: cs, l, h, c, hc => by
    obtain ⟨a, b, ha, hb, rfl⟩ := takeC_cons h
    rcases List.mem_append.1 hc with hc | hc
    · unfold cellC at ha
      split at ha
      · rename_i hp
        split at ha
        · rename_i ht
          rw [Option.some.injEq] at ha
          subst ha
          split at hc
          · rename_i h5
            exact .inr ⟨e, by simp, hp, ht, h5, hc⟩
          · cases hc
        · cases ha
      · rename_i hp
        rw [Option.some.injEq] at ha
        rw [← ha] at hc
        rw [List.mem_singleton.1 hc]
        exact .inl ⟨by simp, hp⟩
    · rcases takeC_mem hb c hc with h | ⟨d, hd, h⟩
      · exact .inl ⟨by simp [h.1], h.2⟩
      · exact .inr ⟨d, by simp [hd], h⟩
/-- A run so far: the rows that are left, the places that were asked. -/
structure InvM (v : PV) (rows : List RowM) (asked : List (List Nat)) : Prop where
  cell : ∀ r ∈ rows, CellsOk v r
  free : ∀ r ∈ rows, ∀ c ∈ r.cells, c.path ∉ asked
  par : ∀ (q : List Nat) (i : Nat), q ++ [i] ∈ asked → q ∈ asked
  par0 : ∀ r ∈ rows, ∀ c ∈ r.cells, ∀ (q : List Nat) (i : Nat), c.path = q ++ [i] → q ∈ asked
  once : asked.Nodup
  there : ∀ q ∈ asked, ∃ u, atV v q = some u
theorem InvM.sub {v : PV} {rows rows' : List RowM} {asked : List (List Nat)} {path : List Nat} {u : PV} (h : InvM v rows asked) (hu : atV v path = some u) (hp : path ∉ asked) (hpp : ∀ (q : List Nat) (i : Nat), path = q ++ [i] → q ∈ asked)
    (hc : ∀ r ∈ rows', ∀ c ∈ r.cells, (∃ s ∈ rows, c ∈ s.cells ∧ c.path ≠ path) ∨ (rightP c.p = true ∧ openP c.p = false ∧ (∃ y, atV v c.path = some y) ∧ ∃ i, c.path = path ++ [i])) : InvM v rows' (asked ++ [path]) := by
  have hmem : ∀ (q : List Nat) (i : Nat), q ++ [i] ∈ asked ++ [path] → q ∈ asked ++ [path] := by
    intro q i hq
    rcases List.mem_append.1 hq with hq | hq
    · exact List.mem_append_left _ (h.par q i hq)
    · exact List.mem_append_left _ (hpp q i (List.mem_singleton.1 hq).symm)
  refine ⟨fun r hr c hcm => ?_, fun r hr c hcm hm => ?_, hmem, fun r hr c hcm q i hq => ?_, ?_, fun q hq => ?_⟩
  · rcases hc r hr c hcm with ⟨s, hs, hcs, _⟩ | ⟨h1, h2, h3, _⟩
    · exact h.cell s hs c hcs
    · exact ⟨h1, h2, h3⟩
  · rcases hc r hr c hcm with ⟨s, hs, hcs, hne⟩ | ⟨_, _, _, i, hi⟩
    · rcases List.mem_append.1 hm with hm | hm
      · exact h.free s hs c hcs hm
      · exact hne (List.mem_singleton.1 hm)
    · rw [hi] at hm
      rcases List.mem_append.1 hm with hm | hm
      · exact hp (h.par path i hm)
      · have := congrArg List.length (List.mem_singleton.1 hm)
        simp at this
  · rcases hc r hr c hcm with ⟨s, hs, hcs, _⟩ | ⟨_, _, _, j, hj⟩
    · exact List.mem_append_left _ (h.par0 s hs c hcs q i hq)
    · rw [hj] at hq
      have := (List.append_inj' hq rfl).1
      rw [← this]
      exact List.mem_append_right _ (by simp)
  · rw [List.nodup_append]
    exact ⟨h.once, by simp, fun a ha b hb he => by rw [List.mem_singleton.1 hb] at he; exact hp (he ▸ ha)⟩
  · rcases List.mem_append.1 hq with hq | hq
    · exact h.there q hq
    · exact ⟨u, by rw [List.mem_singleton.1 hq]; exact hu⟩
/-- One question on. -/
theorem step_take {v u : PV} {rows : List RowM} {asked : List (List Nat)} {r : RowM} {c : CellM} {cs : List CellM} {x : TestM} (h : InvM v rows asked) (hr : r ∈ rows) (hrc : r.cells = c :: cs) (hu : atV v c.path = some u) (hx : x ∈ testsOf c.path rows) (hh : holdsT x u = true) :
    InvM v (takeRows c.path x rows) (asked ++ [c.path]) ∧ firstR v (takeRows c.path x rows) = firstR v rows := by
  have hx' : ∃ q, rightP q = true ∧ openP q = false ∧ testP q = x := by
    rcases (mem_testsOf c.path rows []).2.2.1 x hx with h' | ⟨s, hs, p, hp, he⟩
    · cases h'
    · obtain ⟨d, hd, _, rfl⟩ := atR_some hp
      exact ⟨d.p, (h.cell s hs d hd).1, (h.cell s hs d hd).2.1, he⟩
  refine ⟨h.sub hu (h.free r hr c (by rw [hrc]; simp)) (h.par0 r hr c (by rw [hrc]; simp)) fun r' hr' c' hc' => ?_, first_take hu hh hx' rows h.cell⟩
  obtain ⟨s, hs, hss⟩ := List.mem_filterMap.1 hr'
  unfold takeR at hss
  obtain ⟨l, hl, rfl⟩ := Option.map_eq_some_iff.1 hss
  rcases takeC_mem hl c' hc' with h1 | ⟨d, hd, hdp, hdt, h5, hk⟩
  · exact .inl ⟨s, hs, h1⟩
  · obtain ⟨j, hj, e1, e2, e3⟩ := kidCells_mem hk
    have hdo := h.cell s hs d hd
    refine .inr ⟨?_, e3, ?_, 0 + j, e1⟩
    · rw [e2]
      exact rightPs_get (right_kids hdo.1 h5) _ (List.getElem_mem hj)
    · have hlen := holds_len h5 (right_range hdo.1).2 (by rw [hdt]; exact hh)
      rw [e1, atV_snoc c.path v u _ hu, Nat.zero_add]
      exact ⟨u.kids[j]'(by omega), List.getElem?_eq_getElem (by omega)⟩
theorem step_rest {v u : PV} {rows : List RowM} {asked : List (List Nat)} {r : RowM} {c : CellM} {cs : List CellM} (h : InvM v rows asked) (hr : r ∈ rows) (hrc : r.cells = c :: cs) (hu : atV v c.path = some u) (hh : ∀ x ∈ testsOf c.path rows, holdsT x u = false) :
    InvM v (restRows c.path rows) (asked ++ [c.path]) ∧ firstR v (restRows c.path rows) = firstR v rows := by
  refine ⟨h.sub hu (h.free r hr c (by rw [hrc]; simp)) (h.par0 r hr c (by rw [hrc]; simp)) fun r' hr' c' hc' => ?_, first_rest hu rows h.cell fun s hs p hp => hh _ ((mem_testsOf c.path rows []).2.1 s hs p hp)⟩
  obtain ⟨hs, hn⟩ := List.mem_filter.1 hr'
  exact .inl ⟨r', hs, hc', atR_none (Option.isNone_iff_eq_none.1 hn) c' hc'⟩

/-! The rows as they are handed in. -/
def initR : Nat → List PV → List RowM
  | _, [] => []
  | i, p :: ps => ⟨(i : Int), if openP p then [] else [⟨[], p⟩]⟩ :: initR (i + 1) ps
theorem initR_length : ∀ (ps : List PV) (i : Nat), (initR i ps).length = ps.length
  | [], _ => rfl
  | p :: ps, i => by rw [initR, List.length_cons, initR_length ps, List.length_cons]
theorem initR_snoc (p : PV) : ∀ (ps : List PV) (i : Nat), initR i (ps ++ [p]) = initR i ps ++ [⟨((i + ps.length : Nat) : Int), if openP p then [] else [⟨[], p⟩]⟩]
  | [], i => by simp [initR]
  | q :: ps, i => by
    rw [List.cons_append, initR, initR_snoc p ps (i + 1), initR, List.cons_append, List.length_cons]
    congr 4
    omega
theorem initR_meas : ∀ (ps : List PV) (i : Nat), measM (initR i ps) ≤ ps.length + sizeVs ps
  | [], _ => by simp [initR, measM]
  | p :: ps, i => by
    have := initR_meas ps (i + 1)
    rw [initR, measM_cons, List.length_cons, sizeVs]
    simp only
    split
    · rw [sizeC_nil]; omega
    · rw [sizeC_cons, sizeC_nil]; simp only; omega
theorem initR_mem : ∀ {ps : List PV} {i : Nat} {r : RowM}, r ∈ initR i ps → ∀ c ∈ r.cells, c.path = [] ∧ c.p ∈ ps ∧ openP c.p = false
  | [], _, _, h, _, _ => by cases h
  | p :: ps, i, r, h, c, hc => by
    rw [initR] at h
    rcases List.mem_cons.1 h with rfl | h
    · simp only at hc
      cases ho : openP p with
      | true => rw [ho] at hc; simp at hc
      | false =>
        rw [ho] at hc
        simp at hc
        subst hc
        exact ⟨rfl, by simp, ho⟩
    · obtain ⟨h1, h2, h3⟩ := initR_mem h c hc
      exact ⟨h1, by simp [h2], h3⟩
theorem inv_init {ps : List PV} (v : PV) (h : ∀ p ∈ ps, rightP p = true) : InvM v (initR 0 ps) [] :=
  ⟨fun r hr c hc => by obtain ⟨h1, h2, h3⟩ := initR_mem hr c hc; exact ⟨h _ h2, h3, v, by rw [h1, atV]⟩, fun _ _ _ _ hm => (by cases hm), fun _ _ hm => (by cases hm), fun r hr c hc q i hq => (by
    obtain ⟨h1, _⟩ := initR_mem hr c hc
    rw [h1] at hq
    simp at hq), List.nodup_nil, fun _ hm => (by cases hm)⟩
/-- The first pattern that a value matches, counted from i on; else -1. -/
def firstP (v : PV) : Nat → List PV → Int
  | _, [] => -1
  | i, p :: ps => if fitsM p v then (i : Int) else firstP v (i + 1) ps
theorem first_init (v : PV) : ∀ (ps : List PV) (i : Nat), firstR v (initR i ps) = firstP v i ps
  | [], _ => rfl
  | p :: ps, i => by
    have ih := first_init v ps (i + 1)
    rw [initR, firstP]
    unfold firstR at *
    rw [List.find?_cons]
    have hrow : rowHolds v ⟨(i : Int), if openP p then [] else [⟨[], p⟩]⟩ = fitsM p v := by
      unfold rowHolds
      simp only
      cases ho : openP p with
      | true => rw [fits_open ho]; rfl
      | false => simp [cellHolds, atV]
    rw [hrow]
    cases fitsM p v with
    | true => rfl
    | false => simpa using ih
theorem firstP_range (v : PV) : ∀ (ps : List PV) (i : Nat), firstP v i ps = -1 ∨ ((i : Int) ≤ firstP v i ps ∧ firstP v i ps < (i : Int) + ps.length)
  | [], _ => .inl rfl
  | p :: ps, i => by
    have ih := firstP_range v ps (i + 1)
    rw [firstP, List.length_cons]
    split
    · exact .inr ⟨Int.le_refl _, by omega⟩
    · rcases ih with h | h
      · exact .inl h
      · exact .inr ⟨by omega, by omega⟩
theorem firstP_append (v : PV) (r : List PV) : ∀ (l : List PV) (i : Nat), firstP v i (l ++ r) = if firstP v i l = -1 then firstP v (i + l.length) r else firstP v i l
  | [], i => by simp [firstP]
  | p :: ps, i => by
    rw [List.cons_append, firstP, firstP, List.length_cons]
    cases fitsM p v with
    | true =>
      simp only [if_true]
      rw [if_neg (by omega)]
    | false =>
      simp only [Bool.false_eq_true, if_false]
      rw [firstP_append v r ps (i + 1), show i + 1 + ps.length = i + (ps.length + 1) by omega]
theorem firstP_shift (v : PV) : ∀ (l : List PV) (i j : Nat), firstP v i l = -1 → firstP v j l = -1
  | [], _, _, _ => rfl
  | p :: ps, i, j, h => by
    rw [firstP] at *
    cases hf : fitsM p v with
    | true => rw [hf] at h; simp only [if_true] at h; omega
    | false =>
      rw [hf] at h
      simp only [Bool.false_eq_true, if_false] at *
      exact firstP_shift v ps (i + 1) (j + 1) h
/-- The law MatchMore, in plain words. -/
theorem more_law (v : PV) (l more : List PV) (x : PV) (hx : openP x = true) :
    (0 ≤ firstP v 0 (l ++ [x] ++ more) ∧ firstP v 0 (l ++ [x] ++ more) ≤ l.length) ∧ firstP v 0 (l ++ l) < l.length ∧ ((firstP v 0 (l ++ l) < 0) ↔ firstP v 0 (l ++ [x] ++ more) = l.length) ∧ (0 ≤ firstP v 0 (l ++ l) → firstP v 0 (l ++ l) = firstP v 0 (l ++ [x] ++ more)) := by
  rw [List.append_assoc, firstP_append v ([x] ++ more), firstP_append v l l]
  have hr := firstP_range v l 0
  by_cases h : firstP v 0 l = -1
  · have h2 := firstP_shift v l 0 (0 + l.length) h
    rw [if_pos h, if_pos h, h2, List.singleton_append, firstP, fits_open hx, if_pos rfl]
    refine ⟨⟨by omega, by omega⟩, by omega, ⟨fun _ => by omega, fun _ => by omega⟩, fun h => by omega⟩
  · rw [if_neg h, if_neg h]
    rcases hr with hr | hr
    · exact absurd hr h
    · refine ⟨⟨by omega, by omega⟩, by omega, ⟨fun _ => by omega, fun _ => by omega⟩, fun _ => rfl⟩
end Go.Proofs.Ytnhdefaagicejaa
