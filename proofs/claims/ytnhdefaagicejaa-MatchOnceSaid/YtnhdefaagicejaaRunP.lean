/- A run through a tree of questions, step by step, in plain Lean. No program in sight. -/
import Derived.Test.YtnhdefaagicejaaMatchP
namespace Go.Proofs.Ytnhdefaagicejaa
set_option linter.unusedSimpArgs false
set_option linter.unusedVariables false

theorem buildM_leaf {n : Nat} {rows : List RowM} {k : Int} (hn : measM rows < n) (h : buildM n rows = .leaf k) (v : PV) : k = firstR v rows := by
  cases n with
  | zero => omega
  | succ n =>
    cases rows with
    | nil =>
      rw [buildM] at h
      cases h
      rfl
    | cons r rs =>
      rw [buildM] at h
      cases hc : r.cells with
      | nil =>
        rw [hc] at h
        cases h
        unfold firstR
        rw [List.find?_cons, show rowHolds v r = true by unfold rowHolds; rw [hc]; rfl]
      | cons c cs => rw [hc] at h; cases h
theorem buildM_node' {n : Nat} {rows : List RowM} {path : List Nat} {tests : List TestM} {kids : List TreeM} (h : buildM n rows = .node path tests kids) :
    ∃ m r rs c cs, n = m + 1 ∧ rows = r :: rs ∧ r.cells = c :: cs ∧ path = c.path ∧ tests = testsOf c.path rows ∧ kids = (testsOf c.path rows).map (fun x => buildM m (takeRows c.path x rows)) ++ [buildM m (restRows c.path rows)] := by
  cases n with
  | zero => rw [buildM] at h; cases h
  | succ n =>
    cases rows with
    | nil => rw [buildM] at h; cases h
    | cons r rs =>
      rw [buildM] at h
      cases hc : r.cells with
      | nil => rw [hc] at h; cases h
      | cons c cs =>
        rw [hc] at h
        cases h
        exact ⟨n, r, rs, c, cs, rfl, rfl, hc, rfl, rfl, rfl⟩
/-- A run so far: t is the tree of the rows that are left. -/
def RunI (v : PV) (rows0 : List RowM) (N : Nat) (t : TreeM) (asked : List (List Nat)) : Prop :=
  ∃ n rows, t = buildM n rows ∧ measM rows < n ∧ InvM v rows asked ∧ firstR v rows = firstR v rows0 ∧ asked.length + n = N
theorem RunI.first {v : PV} {rows : List RowM} {N : Nat} (hN : measM rows < N) (h : InvM v rows []) : RunI v rows N (buildM N rows) [] := ⟨N, rows, rfl, hN, h, rfl, by simp⟩
theorem RunI.leaf {v : PV} {rows0 : List RowM} {N : Nat} {k : Int} {asked : List (List Nat)} (h : RunI v rows0 N (.leaf k) asked) : k = firstR v rows0 := by
  obtain ⟨n, rows, h1, h2, _, h4, _⟩ := h
  rw [← h4]
  exact buildM_leaf h2 h1.symm v
theorem RunI.inv {v : PV} {rows0 : List RowM} {N : Nat} {t : TreeM} {asked : List (List Nat)} (h : RunI v rows0 N t asked) : asked.Nodup ∧ (∀ q ∈ asked, ∃ u, atV v q = some u) ∧ asked.length < N := by
  obtain ⟨n, rows, _, h2, h3, _, h5⟩ := h
  exact ⟨h3.once, h3.there, by omega⟩
theorem RunI.node {v : PV} {rows0 : List RowM} {N : Nat} {path : List Nat} {tests : List TestM} {kids : List TreeM} {asked : List (List Nat)} (h : RunI v rows0 N (.node path tests kids) asked) :
    kids.length = tests.length + 1 ∧ ∃ u, atV v path = some u ∧ ∀ i, i ≤ tests.length → (∀ j (hj : j < tests.length), j < i → holdsT tests[j] u = false) → (∀ hi : i < tests.length, holdsT tests[i] u = true) →
      ∃ kid, kids[i]? = some kid ∧ RunI v rows0 N kid (asked ++ [path]) := by
  obtain ⟨n, rows, h1, h2, h3, h4, h5⟩ := h
  obtain ⟨m, r, rs, c, cs, rfl, rfl, hc, rfl, rfl, rfl⟩ := buildM_node' h1.symm
  refine ⟨by simp, ?_⟩
  obtain ⟨u, hu⟩ := (h3.cell r (by simp) c (by rw [hc]; simp)).2.2
  refine ⟨u, hu, fun i hi hno hyes => ?_⟩
  rcases Nat.lt_or_ge i (testsOf c.path (r :: rs)).length with hlt | hge
  · have hm : (testsOf c.path (r :: rs))[i] ∈ testsOf c.path (r :: rs) := List.getElem_mem hlt
    obtain ⟨s1, s2⟩ := step_take h3 (by simp) hc hu hm (hyes hlt)
    refine ⟨_, by rw [List.getElem?_append_left (by simpa using hlt), List.getElem?_map, List.getElem?_eq_getElem hlt]; rfl, m, _, rfl, ?_, s1, s2.trans h4, by simp; omega⟩
    have := take_lt hm
    omega
  · obtain rfl : i = (testsOf c.path (r :: rs)).length := by omega
    obtain ⟨s1, s2⟩ := step_rest h3 (by simp) hc hu (fun x hx => by
      obtain ⟨j, hj, e⟩ := List.getElem_of_mem hx
      rw [← e]
      exact hno j hj hj)
    refine ⟨_, by rw [List.getElem?_append_right (by simp)]; simp, m, _, rfl, ?_, s1, s2.trans h4, by simp; omega⟩
    have := rest_lt (rs := rs) hc
    omega
theorem at_len : ∀ (path : List Nat) {v u : PV}, atV v path = some u → path.length + sizeV u ≤ sizeV v
  | [], v, u, h => by
    rw [atV, Option.some.injEq] at h
    rw [h]; simp
  | i :: is, v, u, h => by
    rw [atV] at h
    cases hk : v.kids[i]? with
    | none => rw [hk] at h; cases h
    | some x =>
      rw [hk] at h
      have := at_len is h
      have h2 : sizeV x ≤ sizeVs v.kids := sizeVs_le (List.mem_of_getElem? hk)
      rw [sizeV_kids v, List.length_cons]
      omega
where
  sizeVs_le : ∀ {ks : List PV} {k : PV}, k ∈ ks → sizeV k ≤ sizeVs ks
    | [], _, h => by cases h
    | x :: xs, k, h => by
      rw [sizeVs]
      rcases List.mem_cons.1 h with rfl | h
      · omega
      · have := sizeVs_le h; omega
end Go.Proofs.Ytnhdefaagicejaa
