/- Code in order, in plain Lean: which frames steps are come to with. No program in sight. -/
namespace Go.Proofs.YtnhdefaagicejaaDoor
set_option linter.unusedSimpArgs false
set_option linter.unusedVariables false

/-- How a step is come to. -/
structure FrP where
  fn : Nat
  h : Int
  op : List Int
deriving DecidableEq
structure InsP where
  op : Int
  a : Int
  b : Int
deriving DecidableEq
structure CodeP where
  ins : List InsP
  strs : List (List UInt8)
  funs : List Int
  glob : Int
/-- How many numbers a step has. -/
def usesP (op : Int) : Nat :=
  if op = 3 ∨ op = 6 ∨ op = 13 ∨ op = 14 ∨ op = 17 ∨ op = 23 ∨ op = 25 ∨ op = 26 ∨ op = 27 ∨ op = 28 then 0
  else if op = 10 ∨ op = 12 ∨ op = 20 ∨ op = 21 ∨ op = 22 then 2 else 1
def int63 (a : Int) : Bool := decide (-4611686018427387904 ≤ a ∧ a ≤ 4611686018427387903)
def betw (n lo hi : Int) : Bool := decide (lo ≤ n ∧ n ≤ hi)
/-- A number less one, as the machine does it. -/
def dec64 (z : Int) : Int := if z = -9223372036854775808 then 9223372036854775807 else z - 1
/-- Are a step's numbers in order, and how much does the height change? -/
def fitsP (fl : List UInt8 → Bool) (c : CodeP) (L : List Int) (x : InsP) (f : FrP) : Bool × Int :=
  match x.op with
  | 0 => (int63 x.a, 1)
  | 1 => (betw x.a 0 (c.strs.length - 1), 1)
  | 2 => (betw x.a 0 (c.strs.length - 1) && fl (c.strs.getD x.a.toNat []), 1)
  | 3 => (true, 1)
  | 4 => (betw x.a 0 (f.h - 1), 1)
  | 5 => (betw x.a 0 (dec64 (L.getD f.fn 0)), 1)
  | 6 => (decide (f.fn ≠ 0), 1)
  | 7 => (betw x.a 0 (c.glob - 1), 1)
  | 8 => (decide (1 ≤ f.h) && betw x.a 0 (c.glob - 1), -1)
  | 9 => (betw x.a 0 39, 1)
  | 10 => (betw x.a 0 255 && betw x.b 0 (min 8 f.h), 1 - x.b)
  | 11 => (betw x.a 2 (min 8 f.h), 1 - x.a)
  | 12 => (betw x.a 1 (c.funs.length - 1) && betw x.b 0 (min 200 f.h), 1 - x.b)
  | 13 => (decide (2 ≤ f.h), -1)
  | 14 => (decide (f.h = 2) && decide (f.fn ≠ 0) && decide (f.op = []), 0)
  | 16 => (decide (1 ≤ f.h), -1)
  | 17 => (decide (1 ≤ f.h), -1)
  | 18 => (betw x.a 0 (f.h - 1), -x.a)
  | 19 => (decide (1 ≤ f.h) && betw x.a 0 7, 0)
  | 20 => (decide (1 ≤ f.h) && int63 x.a, -1)
  | 21 => (decide (1 ≤ f.h) && betw x.a 0 (c.strs.length - 1), -1)
  | 22 => (decide (1 ≤ f.h) && betw x.a 0 255, -1)
  | 23 => (decide (1 ≤ f.h), 0)
  | 25 => (decide (f.op ≠ []) && decide (f.op.getLast? ≠ some (-1)), 0)
  | 27 => (decide (f.op.getLast? = some (-1)), 0)
  | 28 => (decide (f.fn = 0) && decide (f.op = []), 0)
  | _ => (true, 0)
/-- Where a step leads to. -/
def waysP (at_ : Int) (x : InsP) (f : FrP) (by_ : Int) : List (Int × FrP) :=
  match x.op with
  | 14 => []
  | 23 => []
  | 28 => []
  | 15 => [(x.a, { f with h := f.h + by_ })]
  | 16 => [(x.a, { f with h := f.h + by_ }), (at_ + 1, { f with h := f.h + by_ })]
  | 20 => [(x.b, { f with h := f.h + by_ }), (at_ + 1, { f with h := f.h + by_ })]
  | 21 => [(x.b, { f with h := f.h + by_ }), (at_ + 1, { f with h := f.h + by_ })]
  | 22 => [(x.b, { f with h := f.h + by_ }), (at_ + 1, { f with h := f.h + by_ })]
  | 24 => [(x.a, { f with h := f.h + 1 }), (at_ + 1, { f with h := f.h + by_, op := f.op ++ [x.a] })]
  | 25 => [(at_ + 1, { f with h := f.h + by_, op := f.op.dropLast })]
  | 26 => [(at_ + 1, { f with h := f.h + by_, op := f.op ++ [-1] })]
  | 27 => [(at_ + 1, { f with h := f.h + by_, op := f.op.dropLast })]
  | _ => [(at_ + 1, { f with h := f.h + by_ })]
/-- How many values functions have closed in. -/
def Frees (c : CodeP) (L : List Int) : Prop :=
  L.length = c.funs.length ∧ ∀ k : Nat, k < c.funs.length → (∀ x ∈ c.ins, x.op = 12 → x.a = (k : Int) → 1 ≤ k → L[k]? = some x.b) ∧ ((∀ x ∈ c.ins, x.op = 12 → x.a = (k : Int) → k = 0) → L[k]? = some 0)
structure Pre (c : CodeP) : Prop where
  f1 : 1 ≤ c.funs.length
  f2 : c.funs.length ≤ 4096
  i1 : 1 ≤ c.ins.length
  i2 : c.ins.length ≤ 65536
  s : c.strs.length ≤ 4096
  g1 : 0 ≤ c.glob
  g2 : c.glob ≤ 4096
  str : ∀ s ∈ c.strs, s.length ≤ 4096
  op : ∀ x ∈ c.ins, 0 ≤ x.op ∧ x.op ≤ 28 ∧ (usesP x.op = 0 → x.a = 0) ∧ (usesP x.op ≤ 1 → x.b = 0)
structure ClosedF (fl : List UInt8 → Bool) (c : CodeP) (L : List Int) (F : Int → Option FrP) : Prop where
  start : ∀ (i : Nat) a, c.funs[i]? = some a → 0 ≤ a ∧ a < c.ins.length ∧ F a = some ⟨i, min (i : Int) 1, []⟩
  opens : ∀ at_ f, F at_ = some f → ∀ z ∈ f.op, -1 ≤ z
  step : ∀ (at_ : Nat) x f, F (at_ : Int) = some f → c.ins[at_]? = some x → (fitsP fl c L x f).1 = true ∧
    ∀ w ∈ waysP at_ x f (fitsP fl c L x f).2, 0 ≤ w.1 ∧ w.1 < c.ins.length ∧ w.2.h ≤ 10000 ∧ F w.1 = some w.2
/-- Code in order. -/
def Ord (fl : List UInt8 → Bool) (c : CodeP) : Prop := Pre c ∧ ∃ L F, Frees c L ∧ ClosedF fl c L F
theorem frees_unique {c : CodeP} {L L' : List Int} (h : Frees c L) (h' : Frees c L') : L = L' := by
  apply List.ext_getElem?
  intro k
  rcases Nat.lt_or_ge k c.funs.length with hk | hk
  · by_cases hx : ∃ x ∈ c.ins, x.op = 12 ∧ x.a = (k : Int) ∧ 1 ≤ k
    · obtain ⟨x, hx, h1, h2, h3⟩ := hx
      rw [(h.2 k hk).1 x hx h1 h2 h3, (h'.2 k hk).1 x hx h1 h2 h3]
    · have hz : ∀ x ∈ c.ins, x.op = 12 → x.a = (k : Int) → k = 0 := by
        intro x hm h1 h2
        rcases Nat.eq_zero_or_pos k with h | h
        · exact h
        · exact absurd ⟨x, hm, h1, h2, h⟩ hx
      rw [(h.2 k hk).2 hz, (h'.2 k hk).2 hz]
  · rw [List.getElem?_eq_none (by have := h.1; omega), List.getElem?_eq_none (by have := h'.1; omega)]

/-! Frames high, many steps, many texts, many functions. -/
def highC (n : Nat) : CodeP := ⟨List.replicate n ⟨3, 0, 0⟩ ++ [⟨28, 0, 0⟩], [], [0], 0⟩
def longC (n : Nat) : CodeP := ⟨(List.range (n - 1)).map (fun i => ⟨15, (i : Int) + 1, 0⟩) ++ [⟨28, 0, 0⟩], [], [0], 0⟩
def textC (n : Nat) : CodeP := ⟨[⟨28, 0, 0⟩], List.replicate n [], [0], 0⟩
def funsC (n : Nat) : CodeP := ⟨[⟨28, 0, 0⟩, ⟨3, 0, 0⟩, ⟨14, 0, 0⟩], [], 0 :: List.replicate (n - 1) 1, 0⟩
theorem frees_none {c : CodeP} (h : ∀ x ∈ c.ins, x.op ≠ 12) : Frees c (List.replicate c.funs.length 0) :=
  ⟨by simp, fun k hk => ⟨fun x hx h1 => absurd h1 (h x hx), fun _ => by rw [List.getElem?_replicate, if_pos hk]⟩⟩
theorem high_ord (fl : List UInt8 → Bool) (n : Nat) : Ord fl (highC n) ↔ n ≤ 10000 := by
  constructor
  · rintro ⟨_, L, F, _, hF⟩
    have h : ∀ i : Nat, i ≤ n → F (i : Int) = some ⟨0, (i : Int), []⟩ ∧ (1 ≤ i → i ≤ 10000) := by
      intro i
      induction i with
      | zero =>
        intro _
        have h0 := (hF.start 0 0 rfl).2.2
        rw [show min ((0 : Nat) : Int) 1 = ((0 : Nat) : Int) by decide] at h0
        exact ⟨h0, by omega⟩
      | succ i ih =>
        intro hi
        have h1 := (ih (by omega)).1
        have h2 := hF.step i ⟨3, 0, 0⟩ _ h1 (by simp [highC, List.getElem?_append_left, List.getElem?_replicate, show i < n by omega])
        have h3 := h2.2 ((i : Int) + 1, ⟨0, (i : Int) + 1, []⟩) (by simp [waysP, fitsP])
        exact ⟨by simpa using h3.2.2.2, fun _ => by have := h3.2.2.1; simp at this; omega⟩
    rcases Nat.eq_zero_or_pos n with h0 | h0
    · omega
    · exact (h n (Nat.le_refl _)).2 h0
  · intro hn
    refine ⟨⟨by simp [highC], by simp [highC], by simp [highC], by simp [highC]; omega, by simp [highC], by simp [highC], by simp [highC], by simp [highC], ?_⟩, _, fun z => if 0 ≤ z ∧ z ≤ n then some ⟨0, z, []⟩ else none, frees_none ?_, ⟨?_, ?_, ?_⟩⟩
    · intro x hx
      simp [highC] at hx
      rcases hx with ⟨_, rfl⟩ | rfl <;> decide
    · intro x hx
      simp [highC] at hx
      rcases hx with ⟨_, rfl⟩ | rfl <;> decide
    · intro i a hi
      have hi0 : i = 0 ∧ a = 0 := by
        cases i with
        | zero => simp [highC] at hi; exact ⟨rfl, hi.symm⟩
        | succ i => simp [highC] at hi
      obtain ⟨rfl, rfl⟩ := hi0
      refine ⟨by omega, by simp [highC], ?_⟩
      rw [show min ((0 : Nat) : Int) 1 = 0 by decide, if_pos (by omega)]
    · intro z f hz w hw
      by_cases h : 0 ≤ z ∧ z ≤ n
      · rw [if_pos h] at hz
        cases hz
        simp at hw
      · rw [if_neg h] at hz
        cases hz
    · intro i x f hf hx
      by_cases h : 0 ≤ (i : Int) ∧ (i : Int) ≤ n
      · rw [if_pos h] at hf
        cases hf
        rcases Nat.lt_or_ge i n with hlt | hge
        · simp [highC, List.getElem?_append_left, List.getElem?_replicate, hlt] at hx
          subst hx
          refine ⟨rfl, ?_⟩
          intro w hw
          simp [waysP, fitsP] at hw
          subst hw
          refine ⟨by simp; omega, by simp [highC]; omega, by simp; omega, ?_⟩
          simp
          omega
        · obtain rfl : i = n := by omega
          simp [highC] at hx
          subst hx
          exact ⟨rfl, fun w hw => by simp [waysP] at hw⟩
      · rw [if_neg h] at hf
        cases hf
theorem long_ord (fl : List UInt8 → Bool) (n : Nat) (h1 : 1 ≤ n) : Ord fl (longC n) ↔ n ≤ 65536 := by
  constructor
  · rintro ⟨hp, _⟩
    have := hp.i2
    simp [longC] at this
    omega
  · intro hn
    refine ⟨⟨by simp [longC], by simp [longC], by simp [longC], by simp [longC]; omega, by simp [longC], by simp [longC], by simp [longC], by simp [longC], ?_⟩, _, fun z => if 0 ≤ z ∧ z < n then some ⟨0, 0, []⟩ else none, frees_none ?_, ⟨?_, ?_, ?_⟩⟩
    · intro x hx
      simp [longC] at hx
      rcases hx with ⟨i, _, rfl⟩ | rfl
      · exact ⟨by show (0 : Int) ≤ 15; decide, by show (15 : Int) ≤ 28; decide, fun h => absurd (show usesP 15 = 0 from h) (by decide), fun _ => rfl⟩
      · decide
    · intro x hx
      simp [longC] at hx
      rcases hx with ⟨i, _, rfl⟩ | rfl <;> simp
    · intro i a hi
      have hi0 : i = 0 ∧ a = 0 := by
        cases i with
        | zero => simp [longC] at hi; exact ⟨rfl, hi.symm⟩
        | succ i => simp [longC] at hi
      obtain ⟨rfl, rfl⟩ := hi0
      refine ⟨by omega, by simp [longC], ?_⟩
      rw [show min ((0 : Nat) : Int) 1 = 0 by decide, if_pos (by omega)]
    · intro z f hz w hw
      by_cases h : 0 ≤ z ∧ z < n
      · rw [if_pos h] at hz
        cases hz
        simp at hw
      · rw [if_neg h] at hz
        cases hz
    · intro i x f hf hx
      by_cases h : 0 ≤ (i : Int) ∧ (i : Int) < n
      · rw [if_pos h] at hf
        cases hf
        rcases Nat.lt_or_ge i (n - 1) with hlt | hge
        · simp [longC, List.getElem?_append_left, hlt] at hx
          subst hx
          refine ⟨rfl, ?_⟩
          intro w hw
          simp [waysP, fitsP] at hw
          subst hw
          refine ⟨by simp; omega, by simp [longC]; omega, by simp, ?_⟩
          simp
          omega
        · obtain rfl : i = n - 1 := by omega
          simp [longC] at hx
          subst hx
          exact ⟨rfl, fun w hw => by simp [waysP] at hw⟩
      · rw [if_neg h] at hf
        cases hf
theorem text_ord (fl : List UInt8 → Bool) (n : Nat) : Ord fl (textC n) ↔ n ≤ 4096 := by
  constructor
  · rintro ⟨hp, _⟩
    have := hp.s
    simpa [textC] using this
  · intro hn
    refine ⟨⟨by simp [textC], by simp [textC], by simp [textC], by simp [textC], by simpa [textC] using hn, by simp [textC], by simp [textC], ?_, ?_⟩, _, fun z => if z = 0 then some ⟨0, 0, []⟩ else none, frees_none ?_, ⟨?_, ?_, ?_⟩⟩
    · intro s hs
      simp [textC] at hs
      simp [hs.2]
    · intro x hx
      simp [textC] at hx
      subst hx
      decide
    · intro x hx
      simp [textC] at hx
      subst hx
      decide
    · intro i a hi
      have hi0 : i = 0 ∧ a = 0 := by
        cases i with
        | zero => simp [textC] at hi; exact ⟨rfl, hi.symm⟩
        | succ i => simp [textC] at hi
      obtain ⟨rfl, rfl⟩ := hi0
      exact ⟨by omega, by simp [textC], by rw [show min ((0 : Nat) : Int) 1 = 0 by decide]; rfl⟩
    · intro z f hz w hw
      by_cases h : z = 0
      · rw [if_pos h] at hz
        cases hz
        simp at hw
      · rw [if_neg h] at hz
        cases hz
    · intro i x f hf hx
      by_cases h : (i : Int) = 0
      · rw [if_pos h] at hf
        cases hf
        obtain rfl : i = 0 := by omega
        simp [textC] at hx
        subst hx
        exact ⟨rfl, fun w hw => by simp [waysP] at hw⟩
      · rw [if_neg h] at hf
        cases hf
theorem funs_ord (fl : List UInt8 → Bool) (n : Nat) (hn : 3 ≤ n) : ¬ Ord fl (funsC n) := by
  rintro ⟨_, L, F, _, hF⟩
  have h1 := (hF.start 1 1 (by simp [funsC, List.getElem?_replicate]; omega)).2.2
  have h2 := (hF.start 2 1 (by simp [funsC, List.getElem?_replicate]; omega)).2.2
  rw [h1] at h2
  simp at h2

/-! Steps that are never come to, behind a jump over them. -/
def shiftI (n : Int) (x : InsP) : InsP :=
  if x.op = 15 ∨ x.op = 16 ∨ x.op = 24 then { x with a := x.a + n } else if 20 ≤ x.op ∧ x.op ≤ 22 then { x with b := x.b + n } else x
def shiftF (n : Int) : List Int → List Int
  | [] => []
  | a :: r => (if a = 0 then 0 else a + n) :: r.map (· + n)
def deadC (c : CodeP) (ds : List InsP) : CodeP :=
  ⟨⟨15, (ds.length : Int) + 1, 0⟩ :: (ds ++ c.ins.map (shiftI ((ds.length : Int) + 1))), c.strs, shiftF ((ds.length : Int) + 1) c.funs, c.glob⟩
def moved (n : Int) (z : Int) : Int := if z = -1 then -1 else z + n
def movedF (n : Int) (f : FrP) : FrP := { f with op := f.op.map (moved n) }
theorem shiftI_op (n : Int) (x : InsP) : (shiftI n x).op = x.op := by
  unfold shiftI
  split
  · rfl
  · split <;> rfl
theorem shiftF_length (n : Int) (l : List Int) : (shiftF n l).length = l.length := by cases l <;> simp [shiftF]
theorem op_cases {op : Int} (h0 : 0 ≤ op) (h1 : op ≤ 28) : op = 0 ∨ op = 1 ∨ op = 2 ∨ op = 3 ∨ op = 4 ∨ op = 5 ∨ op = 6 ∨ op = 7 ∨ op = 8 ∨ op = 9 ∨ op = 10 ∨ op = 11 ∨ op = 12 ∨ op = 13 ∨ op = 14 ∨ op = 15 ∨ op = 16 ∨ op = 17 ∨ op = 18 ∨ op = 19 ∨ op = 20 ∨ op = 21 ∨ op = 22 ∨ op = 23 ∨ op = 24 ∨ op = 25 ∨ op = 26 ∨ op = 27 ∨ op = 28 := by omega
theorem last_moved {n : Int} (hn : 0 ≤ n) {l : List Int} (h : ∀ z ∈ l, -1 ≤ z) : ((l.map (moved n)).getLast? = some (-1)) ↔ l.getLast? = some (-1) := by
  rw [List.getLast?_map]
  cases hl : l.getLast? with
  | none => simp
  | some z =>
    have hz := h z (List.mem_of_getLast? hl)
    simp only [Option.map_some, Option.some.injEq, moved]
    split <;> omega
theorem fits_alike (fl : List UInt8 → Bool) (i i' : List InsP) (strs : List (List UInt8)) (fs fs' : List Int) (glob : Int) (L : List Int) (n : Int) (hf : fs'.length = fs.length) (x : InsP) (fn : Nat) (h : Int) (o o' : List Int) (e1 : decide (o' = []) = decide (o = [])) (e2 : decide (o'.getLast? = some (-1)) = decide (o.getLast? = some (-1))) (h0 : 0 ≤ x.op) (h1 : x.op ≤ 28) :
    fitsP fl ⟨i', strs, fs', glob⟩ L (shiftI n x) ⟨fn, h, o'⟩ = fitsP fl ⟨i, strs, fs, glob⟩ L x ⟨fn, h, o⟩ := by
  have e3 : decide (o'.getLast? ≠ some (-1)) = decide (o.getLast? ≠ some (-1)) := by
    rw [decide_not, decide_not, e2]
  have e4 : decide (o' ≠ []) = decide (o ≠ []) := by
    rw [decide_not, decide_not, e1]
  obtain ⟨op, a, b⟩ := x
  have hc := op_cases h0 h1
  simp only at hc
  rcases hc with rfl | rfl | rfl | rfl | rfl | rfl | rfl | rfl | rfl | rfl | rfl | rfl | rfl | rfl | rfl | rfl | rfl | rfl | rfl | rfl | rfl | rfl | rfl | rfl | rfl | rfl | rfl | rfl | rfl <;>
    first
    | rfl
    | (simp only [fitsP, shiftI]; rw [e1]; rfl)
    | (simp only [fitsP, shiftI]; rw [e2]; rfl)
    | (simp only [fitsP, shiftI]; rw [e3, e4]; rfl)
    | (simp only [fitsP, shiftI]; rw [hf]; rfl)
    | (simp [fitsP, shiftI]; done)
theorem fits_moved (fl : List UInt8 → Bool) (c c' : CodeP) (L : List Int) (n : Int) (hn : 0 ≤ n) (hs : c'.strs = c.strs) (hf : c'.funs.length = c.funs.length) (hg : c'.glob = c.glob) (x : InsP) (f : FrP) (ho : ∀ z ∈ f.op, -1 ≤ z) (h0 : 0 ≤ x.op) (h1 : x.op ≤ 28) :
    fitsP fl c' L (shiftI n x) (movedF n f) = fitsP fl c L x f := by
  obtain ⟨i, strs, fs, glob⟩ := c
  obtain ⟨i', strs', fs', glob'⟩ := c'
  obtain ⟨fn, h, o⟩ := f
  simp only at hs hf hg
  subst hs hg
  exact fits_alike fl i i' strs' fs fs' glob' L n hf x fn h o (o.map (moved n)) (by simp) (by rw [Bool.eq_iff_iff, decide_eq_true_iff, decide_eq_true_iff]; exact last_moved hn ho) h0 h1
theorem ways_moved (n : Int) (at_ : Int) (x : InsP) (f : FrP) (by_ : Int) (h0 : 0 ≤ x.op) (h1 : x.op ≤ 28) (h24 : x.op = 24 → 0 ≤ x.a) :
    waysP (at_ + n) (shiftI n x) (movedF n f) by_ = (waysP at_ x f by_).map fun w => (w.1 + n, movedF n w.2) := by
  obtain ⟨op, a, b⟩ := x
  have hc := op_cases h0 h1
  simp only at hc h24
  rcases hc with rfl | rfl | rfl | rfl | rfl | rfl | rfl | rfl | rfl | rfl | rfl | rfl | rfl | rfl | rfl | rfl | rfl | rfl | rfl | rfl | rfl | rfl | rfl | rfl | rfl | rfl | rfl | rfl | rfl <;>
    simp [waysP, shiftI, movedF, moved, List.map_dropLast] <;> omega
theorem frees_moved {c : CodeP} {L : List Int} (h : Frees c L) (ds : List InsP) (hd : ∀ x ∈ ds, x.op ≠ 12) : Frees (deadC c ds) L := by
  have hmem : ∀ x ∈ (deadC c ds).ins, x.op = 12 → x ∈ c.ins := by
    intro x hx h12
    simp only [deadC, List.mem_cons, List.mem_append, List.mem_map] at hx
    rcases hx with rfl | hx | ⟨y, hy, rfl⟩
    · simp at h12
    · exact absurd h12 (hd x hx)
    · rw [shiftI_op] at h12
      simpa [shiftI, h12] using hy
  have hmem2 : ∀ x ∈ c.ins, x.op = 12 → x ∈ (deadC c ds).ins := by
    intro x hx h12
    simp only [deadC, List.mem_cons, List.mem_append, List.mem_map]
    exact .inr (.inr ⟨x, hx, by simp [shiftI, h12]⟩)
  have hlen : (deadC c ds).funs.length = c.funs.length := shiftF_length _ _
  refine ⟨by rw [hlen]; exact h.1, fun k hk => ⟨fun x hx h1 h2 h3 => (h.2 k (by omega)).1 x (hmem x hx h1) h1 h2 h3, fun hz => (h.2 k (by omega)).2 fun x hx h1 h2 => hz x (hmem2 x hx h1) h1 h2⟩⟩
theorem dead_ord (fl : List UInt8 → Bool) (c : CodeP) (ds : List InsP) (h : Ord fl c) (hl : c.ins.length ≤ 60) (hds : ds.length ≤ 10) (hd : ∀ x ∈ ds, 0 ≤ x.op ∧ x.op ≤ 28 ∧ x.op ≠ 12 ∧ (usesP x.op = 0 → x.a = 0) ∧ (usesP x.op ≤ 1 → x.b = 0)) : Ord fl (deadC c ds) := by
  obtain ⟨hp, L, F, hfr, hF⟩ := h
  have hlen : (deadC c ds).funs.length = c.funs.length := shiftF_length _ _
  have hil : (deadC c ds).ins.length = ds.length + 1 + c.ins.length := by simp [deadC]; omega
  obtain ⟨n, hn⟩ : ∃ n : Nat, n = ds.length + 1 := ⟨_, rfl⟩
  have hnI : ((ds.length : Int) + 1) = (n : Int) := by omega
  have hat0 : (deadC c ds).ins[0]? = some ⟨15, (n : Int), 0⟩ := by simp [deadC, hnI]
  have hatn : ∀ j : Nat, (deadC c ds).ins[n + j]? = (c.ins[j]?).map (shiftI n) := by
    intro j
    simp only [deadC, hnI]
    rw [show n + j = (ds.length + j) + 1 by omega, List.getElem?_cons_succ, List.getElem?_append_right (by omega), List.getElem?_map]
    congr 2
    omega
  refine ⟨⟨by rw [hlen]; exact hp.f1, by rw [hlen]; exact hp.f2, by rw [hil]; omega, by rw [hil]; omega, hp.s, hp.g1, hp.g2, hp.str, ?_⟩, L, fun z => if z = 0 then (if c.funs.head? = some 0 then some ⟨0, 0, []⟩ else none) else if (n : Int) ≤ z then (F (z - n)).map (movedF n) else none, frees_moved hfr ds (fun x hx => (hd x hx).2.2.1), ⟨?_, ?_, ?_⟩⟩
  · intro x hx
    simp only [deadC, List.mem_cons, List.mem_append, List.mem_map] at hx
    rcases hx with rfl | hx | ⟨y, hy, rfl⟩
    · exact ⟨by show (0 : Int) ≤ 15; decide, by show (15 : Int) ≤ 28; decide, fun h => absurd (show usesP 15 = 0 from h) (by decide), fun _ => rfl⟩
    · exact ⟨(hd x hx).1, (hd x hx).2.1, (hd x hx).2.2.2⟩
    · obtain ⟨q1, q2, q3, q4⟩ := hp.op y hy
      rw [shiftI_op]
      refine ⟨q1, q2, fun hu => ?_, fun hu => ?_⟩
      · have := q3 hu
        unfold shiftI
        split
        · rename_i hh
          rcases hh with h | h | h <;> (rw [h] at hu; exact absurd hu (by decide))
        · split
          · exact this
          · exact this
      · have := q4 hu
        unfold shiftI
        split
        · exact this
        · split
          · rename_i hh
            have : y.op = 20 ∨ y.op = 21 ∨ y.op = 22 := by omega
            rcases this with h | h | h <;> (rw [h] at hu; exact absurd hu (by decide))
          · exact this
  · intro i a hi
    cases hfs : c.funs with
    | nil => have := hp.f1; rw [hfs] at this; simp at this
    | cons a0 r =>
      simp only [deadC, hfs, shiftF, hnI] at hi
      cases i with
      | zero =>
        simp only [List.getElem?_cons_zero, Option.some.injEq] at hi
        obtain ⟨s1, s2, s3⟩ := hF.start 0 a0 (by rw [hfs]; rfl)
        by_cases h0 : a0 = 0
        · rw [if_pos h0] at hi
          subst hi
          refine ⟨by omega, by rw [hil]; omega, ?_⟩
          simp only [List.head?_cons, h0, if_true]
          rfl
        · rw [if_neg h0] at hi
          subst hi
          refine ⟨by omega, by rw [hil]; omega, ?_⟩
          try simp only
          rw [if_neg (by omega), if_pos (by omega), show a0 + (n : Int) - n = a0 by omega, s3]
          rfl
      | succ i =>
        simp only [List.getElem?_cons_succ, List.getElem?_map, Option.map_eq_some_iff] at hi
        obtain ⟨a', ha', rfl⟩ := hi
        obtain ⟨s1, s2, s3⟩ := hF.start (i + 1) a' (by rw [hfs]; exact ha')
        refine ⟨by omega, by rw [hil]; omega, ?_⟩
        try simp only
        rw [if_neg (by omega), if_pos (by omega), show a' + (n : Int) - n = a' by omega, s3]
        rfl
  · intro z f hz w hw
    try simp only at hz
    split at hz
    · split at hz
      · cases hz; simp at hw
      · cases hz
    · split at hz
      · simp only [Option.map_eq_some_iff] at hz
        obtain ⟨g, hg, rfl⟩ := hz
        simp only [movedF, List.mem_map] at hw
        obtain ⟨u, hu, rfl⟩ := hw
        have := hF.opens _ _ hg u hu
        unfold moved
        split <;> omega
      · cases hz
  · intro i x f hf hx
    try simp only at hf
    by_cases h0 : (i : Int) = 0
    · obtain rfl : i = 0 := by omega
      rw [if_pos h0] at hf
      split at hf
      · rename_i hh
        cases hf
        rw [hat0] at hx
        cases hx
        refine ⟨rfl, fun w hw => ?_⟩
        have hw' : w = ((n : Int), ⟨0, 0, []⟩) := by simpa [waysP, fitsP] using hw
        subst hw'
        obtain ⟨a0, r, hfs⟩ : ∃ a0 r, c.funs = a0 :: r := by
          cases hfs : c.funs with
          | nil => rw [hfs] at hh; simp at hh
          | cons a0 r => exact ⟨a0, r, rfl⟩
        obtain rfl : a0 = 0 := by rw [hfs] at hh; simpa using hh
        obtain ⟨s1, s2, s3⟩ := hF.start 0 0 (by rw [hfs]; rfl)
        have := hp.i1
        refine ⟨by simp, by rw [hil]; simp; omega, by simp, ?_⟩
        try simp only
        rw [if_neg (by omega), if_pos (Int.le_refl _), Int.sub_self, s3]
        rfl
      · cases hf
    · rw [if_neg h0] at hf
      split at hf
      · rename_i hle
        obtain ⟨j, rfl⟩ : ∃ j, i = n + j := ⟨i - n, by omega⟩
        rw [hatn j] at hx
        simp only [Option.map_eq_some_iff] at hx hf
        obtain ⟨y, hy, rfl⟩ := hx
        obtain ⟨g, hg, rfl⟩ := hf
        rw [show ((n + j : Nat) : Int) - n = (j : Int) by omega] at hg
        obtain ⟨t1, t2⟩ := hF.step j y g hg hy
        have hyb := hp.op y (List.mem_of_getElem? hy)
        have hfm := fits_moved fl c (deadC c ds) L n (by omega) rfl hlen rfl y g (hF.opens _ _ hg) hyb.1 hyb.2.1
        rw [hfm]
        refine ⟨t1, fun w hw => ?_⟩
        rw [show ((n + j : Nat) : Int) = (j : Int) + n by omega, ways_moved n j y g _ hyb.1 hyb.2.1 (fun h24 => by
          have := t2 (y.a, { g with h := g.h + 1 }) (by simp [waysP, h24])
          exact this.1)] at hw
        obtain ⟨v, hv, rfl⟩ := List.mem_map.1 hw
        obtain ⟨u1, u2, u3, u4⟩ := t2 v hv
        refine ⟨by simp only; omega, by rw [hil]; simp only; omega, u3, ?_⟩
        try simp only
        rw [if_neg (by omega), if_pos (by omega), show v.1 + (n : Int) - n = v.1 by omega, u4]
        rfl
      · cases hf
end Go.Proofs.YtnhdefaagicejaaDoor
