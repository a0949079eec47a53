/- The laws' small functions: codes, few. -/
import Derived.Test.YtnhdefaagicejaaDoorCodeTo
import Derived.Test.YtnhdefaagicejaaDoorCodeV
namespace Go.Proofs.YtnhdefaagicejaaDoor
set_option linter.unusedSimpArgs false
set_option linter.unusedVariables false
open Go.RowKit

def okC : CodeP := ⟨[⟨0, 1, 0⟩, ⟨28, 0, 0⟩], [], [0], 0⟩
def popC : CodeP := ⟨[⟨17, 0, 0⟩, ⟨28, 0, 0⟩], [], [0], 0⟩
theorem ok_ord (fl : List UInt8 → Bool) : Ord fl okC := by
  refine ⟨⟨by decide, by decide, by decide, by decide, by decide, by decide, by decide, by simp [okC], ?_⟩, _, fun z => if z = 0 then some ⟨0, 0, []⟩ else if z = 1 then some ⟨0, 1, []⟩ else none, frees_none ?_, ⟨?_, ?_, ?_⟩⟩
  · intro x hx
    simp [okC] at hx
    rcases hx with rfl | rfl <;> decide
  · intro x hx
    simp [okC] at hx
    rcases hx with rfl | rfl <;> decide
  · intro i a hi
    cases i with
    | zero =>
      simp [okC] at hi
      subst hi
      exact ⟨by decide, by decide, rfl⟩
    | succ i => simp [okC] at hi
  · intro z f hz w hw
    split at hz
    · cases hz; simp at hw
    · split at hz
      · cases hz; simp at hw
      · cases hz
  · intro i x f hf hx
    match i with
    | 0 =>
      simp [okC] at hf hx
      subst hx hf
      refine ⟨rfl, fun w hw => ?_⟩
      simp [waysP, fitsP] at hw
      subst hw
      decide
    | 1 =>
      simp [okC] at hf hx
      subst hx hf
      exact ⟨rfl, fun w hw => by simp [waysP] at hw⟩
    | i + 2 => simp [okC] at hx
theorem pop_ord (fl : List UInt8 → Bool) : ¬ Ord fl popC := by
  rintro ⟨_, L, F, _, hF⟩
  have h0 := (hF.start 0 0 rfl).2.2
  have h1 := (hF.step 0 ⟨17, 0, 0⟩ ⟨0, 0, []⟩ h0 rfl).1
  simp [fitsP] at h1
theorem codeMem2 {w : World} {g f : Nat} (x y : InsP) (hg : At w (some ⟨g, 0, none⟩) (insRow x ++ insRow y)) (hf : At w (some ⟨f, 0, none⟩) (intsV [0])) (hgl : g < w.heap.size) (hfl : f < w.heap.size) (hx : R64i x.op ∧ R64i x.a ∧ R64i x.b) (hy : R64i y.op ∧ R64i y.a ∧ R64i y.b) :
    CodeMem w (fun b => b < w.heap.size) ⟨[x, y], [], [0], 0⟩ (some ⟨g, 0, none⟩) none (some ⟨f, 0, none⟩) :=
  ⟨rowsAt_of_flat3 (rows := [insRow x, insRow y]) (by simpa using hg) (by intro r hr; simp at hr; rcases hr with rfl | rfl <;> rfl), .inl rfl, hf, fun b hb _ => (by cases hb; exact hgl), fun b hb _ => (by cases hb), fun b hb _ => (by cases hb; exact hfl), fun z hz => (by simp at hz; rcases hz with rfl | rfl <;> assumption), fun s hs => (by cases hs), fun z hz => (by simp at hz; subst hz; exact ⟨by decide, by decide⟩)⟩
theorem shtab_below {w w' : World} (h : ShTab w) (hb : Below w.heap.size w w') : ShTab w' := fun k hk => (World.cell?_of_block (a := ⟨0, k * 2 + 1, none⟩) (hb.block 0 (World.block_lt_of_cell? (a := ⟨0, k * 2 + 1, none⟩) w (h k hk)))).trans (h k hk)
theorem two_any (V : World) (ht : ShTab V) (x y : InsP) (hx : R64i x.op ∧ R64i x.a ∧ R64i x.b) (hy : R64i y.op ∧ R64i y.a ∧ R64i y.b) (g f : Nat) (hg : g = V.heap.size) (hf : f = V.heap.size + 1) :
    Calls Tryd.prog 7 #[.agg #[.slice (some ⟨g, 0, none⟩) 2 2, .slice none 0 0, .slice (some ⟨f, 0, none⟩) 1 1, .int .i64 0]] ((V.alloc (.cells #[.int .i64 x.op, .int .i64 x.a, .int .i64 x.b, .int .i64 y.op, .int .i64 y.a, .int .i64 y.b] 50)).alloc (.cells #[.int .i64 0] 3)) (fun e w' => Below V.heap.size V w' ∧ (Ord flC ⟨[x, y], [], [0], 0⟩ ∧ e = .returned (.int .i64 0) ∨ ¬ Ord flC ⟨[x, y], [], [0], 0⟩ ∧ e = .returned (.int .i64 2))) := by
  subst hg hf
  have hb1 : Below V.heap.size V (V.alloc (.cells #[.int .i64 x.op, .int .i64 x.a, .int .i64 x.b, .int .i64 y.op, .int .i64 y.a, .int .i64 y.b] 50)) := (Below.refl _ V).alloc (Nat.le_refl _) _
  have hb2 := hb1.alloc (o := .cells #[.int .i64 0] 3) (by simp)
  have h1 := (At.new V #[.int .i64 x.op, .int .i64 x.a, .int .i64 x.b, .int .i64 y.op, .int .i64 y.a, .int .i64 y.b] 50).below ((Below.refl (V.alloc (.cells #[.int .i64 x.op, .int .i64 x.a, .int .i64 x.b, .int .i64 y.op, .int .i64 y.a, .int .i64 y.b] 50)).heap.size _).alloc (Nat.le_refl _) (.cells #[.int .i64 0] 3))
  have h2 := At.new (V.alloc (.cells #[.int .i64 x.op, .int .i64 x.a, .int .i64 x.b, .int .i64 y.op, .int .i64 y.a, .int .i64 y.b] 50)) #[.int .i64 0] 3
  simp only [World.size_alloc] at h2
  have hm := codeMem2 (w := (V.alloc (.cells #[.int .i64 x.op, .int .i64 x.a, .int .i64 x.b, .int .i64 y.op, .int .i64 y.a, .int .i64 y.b] 50)).alloc (.cells #[.int .i64 0] 3)) x y h1 h2 (by simp; omega) (by simp) hx hy
  refine (verify_any (icap := 2) (scap := 0) (fcap := 1) hm (shtab_below ht hb2) (show 2 ≤ 1000000000 by decide) (show 0 ≤ 1000000000 by decide) (show 1 ≤ 1000000000 by decide) (show R64i 0 from ⟨by decide, by decide⟩)).mono ?_
  rintro e w' ⟨hb, hr⟩
  exact ⟨hb2.trans (hb.mono (by simp; omega)), hr⟩
set_option maxRecDepth 100000 in
set_option maxHeartbeats 4000000 in
theorem codes_any (w : World) (ht : ShTab w) : Calls Tryd.prog 6 #[] w (fun e w' => e = .returned (.bool true) ∧ Below w.heap.size w w') := by
  have hb0 : Below w.heap.size w (w.alloc (.cells #[.int .i64 28, .int .i64 0, .int .i64 0] 50)) := (Below.refl _ w).alloc (Nat.le_refl _) _
  have hrow : (w.alloc (.cells #[.int .i64 28, .int .i64 0, .int .i64 0] 50)).heap[w.heap.size]? = some (.cells #[.int .i64 28, .int .i64 0, .int .i64 0] 50 (0, 0)) := heap_alloc_new w _
  have h1 := two_any _ (shtab_below ht hb0) ⟨0, 1, 0⟩ ⟨28, 0, 0⟩ ⟨⟨by decide, by decide⟩, ⟨by decide, by decide⟩, ⟨by decide, by decide⟩⟩ ⟨⟨by decide, by decide⟩, ⟨by decide, by decide⟩, ⟨by decide, by decide⟩⟩ (w.heap.size + 1) (w.heap.size + 1 + 1) (by simp) (by simp)
  have HT := Lib.hid (And.intro h1 (And.intro ht (And.intro hb0 hrow)))
  clear ht hb0 h1 hrow
  go_enter Tryd.func6, Tryd.ntmps6
  go_wp2_with fail
  refine HT.out.1.mono ?_
  rintro e w1 ⟨hb1, hr1⟩
  obtain rfl : e = .returned (.int .i64 0) := by
    rcases hr1 with ⟨_, h⟩ | ⟨h, _⟩
    · exact h
    · exact absurd (ok_ord flC) h
  have hbw : Below w.heap.size w w1 := HT.out.2.2.1.trans (hb1.mono HT.out.2.2.1.size)
  have hr0 : w1.heap[w.heap.size]? = _ := (hb1.block w.heap.size (by simp)).trans HT.out.2.2.2
  have c0 : w1.cell? ⟨w.heap.size, 0, none⟩ = some (.int .i64 28) := cell_of_row _ _ 0 _ _ (0, 0) hr0
  have c1 : w1.cell? ⟨w.heap.size, 1, none⟩ = some (.int .i64 0) := cell_of_row _ _ 1 _ _ (0, 0) hr0
  have c2 : w1.cell? ⟨w.heap.size, 2, none⟩ = some (.int .i64 0) := cell_of_row _ _ 2 _ _ (0, 0) hr0
  have h2 := two_any _ (shtab_below HT.out.2.1 hbw) ⟨17, 0, 0⟩ ⟨28, 0, 0⟩ ⟨⟨by decide, by decide⟩, ⟨by decide, by decide⟩, ⟨by decide, by decide⟩⟩ ⟨⟨by decide, by decide⟩, ⟨by decide, by decide⟩, ⟨by decide, by decide⟩⟩ w1.heap.size (w1.heap.size + 1) (by simp) (by simp)
  have H2 := Lib.hid (And.intro h2 hbw)
  clear hb1 hr1 hbw hr0 h2
  go_wp2_with fail
  refine H2.out.1.mono ?_
  rintro e w2 ⟨hb2, hr2⟩
  obtain rfl : e = .returned (.int .i64 2) := by
    rcases hr2 with ⟨h, _⟩ | ⟨_, h⟩
    · exact absurd h (pop_ord flC)
    · exact h
  have H3 := Lib.hid (H2.out.2.trans (hb2.mono H2.out.2.size))
  clear hb2 hr2
  go_wp2_with fail
  go_ret
  exact ⟨rfl, H3.out⟩
/-- 's[:k]', of elements of any size. -/
theorem yields_hik {P : Program} (sz : Nat) {t : TypeId} {o : Oper} {x hi : Operand} {a : Act} {w : World} (ho : o.op = .slice t x none (some hi) none) (ht : P.underlying t = some (.slice (P.elem t))) (hs : (P.info? (P.elem t)).map (·.size) = some sz)
    {ao : Option Addr} {n cap k : Nat} (hx : a.eval x = .slice ao n cap) (hl : a.eval hi = .int .i64 (k : Int)) (hk : k ≤ cap) :
    ∀ w', Below w.heap.size w w' → (execOp a.eval o).run P w' = .ok (.value (.slice ao k cap)) w' := by
  intro w' _
  have hr : (Instr.sliceAt t (.slice ao n cap) none (some (.int .i64 (k : Int))) none).run P w' = .ok (.slice ao k cap) w' := by
    rw [run_sliceAt_slice w' t _ _ _ _ ht, run_slice_h w' t ao n cap ht .i64 (k : Int) (by omega) (by omega)]
    obtain ⟨i, hi', hi2⟩ := Option.map_eq_some_iff.1 hs
    cases ao <;> simp [sliced, sizeOf, typeInfo, hi', hi2, show ∀ b : Addr, b.add 0 = b from fun b => by simp [Addr.add]]
  unfold execOp
  simp only [ho, hx, hl, Option.map_some, Option.map_none, hr, Sem.run_bind, Sem.run_pure, Result.andThen_ok]
/-- Texts of a row of one's own. -/
theorem wp_strs {w : World} {o : Oper} {a : Act} {K : Act → World → Prop} {Q : Exit → Act → World → Prop} (s x : Operand)
    (ho : o.op = .call { callee := .builtin .append, args := #[s, x], argTypes := #[24, 24] })
    (base : Nat) (ao : Option Addr) (cap n : Nat) (l : List (List UInt8)) (hs : a.eval s = .slice ao n cap) (hown : w.ownsRow base 9 1 (.slice ao n cap) n (strCells l))
    (y : List UInt8) (g : Nat) (hx : a.eval x = .slice (some ⟨g, 0, none⟩) 1 1) (hat : At w (some ⟨g, 0, none⟩) [.string ⟨y.toArray⟩]) (hb : n ≤ 1000000000) (hbase : base ≤ w.heap.size)
    (h : ∀ ao' cap' w', w'.ownsRow base 9 1 (.slice ao' (n + 1) cap') (n + 1) (strCells (l ++ [y])) → w.grownBy w' (blk ao) → (blk ao' = blk ao ∨ blk ao' = some w.heap.size) → K (a.put o.dst (.slice ao' (n + 1) cap')) w') : o.wp Tryd.prog a w K Q := by
  obtain ⟨i0, hi, hz0, hz1, hz2⟩ := info_parts infoStr
  refine wp_append s x 24 24 ho base 9 i0 (.string ⟨#[]⟩) 1 16 Tryd.underlying24 hi hz0 hz1 hz2 rfl _ n (strCells l) hs hown _ 1 [.string ⟨y.toArray⟩] hx
    (hat.src Tryd.underlying24 rfl (by intro v hv; simp at hv; rcases hv with rfl; rfl) (by decide)) (by unfold maxLen; omega) (by omega) hbase ?_
  intro ao' cap' w' g1 g2 g3
  rw [own_slice] at g2 g3
  exact h ao' cap' w' (by simpa [strCells] using g1) g2 g3
def fewC (c : CodeP) : CodeP := ⟨c.ins.take 60, (c.strs.take 10).map (·.take 4100), c.funs.take 8, c.glob⟩
theorem results_few (tmps : Array Value) (W : World) (g : Nat) (v0 v1 v2 v3 : Value) (hp : tmps[2]?.getD undef = .pointer (some ⟨g, 0, none⟩)) (hc : W.heap[g]? = some (.cells #[v0, v1, v2, v3] 26 (0, 0))) :
    (results Tryd.f10 tmps).run Tryd.prog W = .ok (.agg #[v0, v1, v2, v3]) W := by
  have c0 : W.cell? ⟨g, 0, none⟩ = some v0 := cell_of_row W _ 0 _ _ (0, 0) hc
  have c1 : W.cell? ⟨g, 1, none⟩ = some v1 := cell_of_row W _ 1 _ _ (0, 0) hc
  have c2 : W.cell? ⟨g, 2, none⟩ = some v2 := cell_of_row W _ 2 _ _ (0, 0) hc
  have c3 : W.cell? ⟨g, 3, none⟩ = some v3 := cell_of_row W _ 3 _ _ (0, 0) hc
  have hu := Tryd.underlying26
  simp only [results, Tryd.results10]
  go_simp
/-- What a call to few leaves. -/
def Fews (w : World) (D : Nat → Prop) (c : CodeP) (e : Ending) (w' : World) : Prop :=
  Below w.heap.size w w' ∧ ∃ io so fo icap scap fcap, e = .returned (.agg #[.slice io (fewC c).ins.length icap, .slice so (fewC c).strs.length scap, .slice fo (fewC c).funs.length fcap, .int .i64 c.glob]) ∧ CodeMem w' (fun b => D b ∨ (w.heap.size ≤ b ∧ b < w'.heap.size)) (fewC c) io so fo ∧ (fewC c).ins.length ≤ icap ∧ (fewC c).strs.length ≤ scap ∧ (fewC c).funs.length ≤ fcap
set_option maxRecDepth 100000 in
set_option maxHeartbeats 4000000 in
theorem few_any {w : World} {D : Nat → Prop} {c : CodeP} {io so fo : Option Addr} {icap scap fcap : Nat} (hmem0 : CodeMem w D c io so fo) (hD : ∀ b, D b → b < w.heap.size) (hil : c.ins.length ≤ icap) (hic : icap ≤ 9223372036854775807) (hsl : c.strs.length ≤ scap) (hsc : scap ≤ 9223372036854775807) (hfl : c.funs.length ≤ fcap) (hfc : fcap ≤ 9223372036854775807) :
    Calls Tryd.prog 10 #[.agg #[.slice io c.ins.length icap, .slice so c.strs.length scap, .slice fo c.funs.length fcap, .int .i64 c.glob]] w (Fews w D c) := by
  have hmem : CodeMem w (fun b => b < w.heap.size) c io so fo := hmem0.mono hD
  have HM0 := Lib.hid hmem0
  clear hmem0 hD
  obtain ⟨g, hg⟩ : ∃ g, w.heap.size = g := ⟨_, rfl⟩
  obtain ⟨W, hW⟩ : ∃ W, (w.alloc (.cells #[.slice io c.ins.length icap, .slice so c.strs.length scap, .slice fo c.funs.length fcap, .int .i64 c.glob] 26)).alloc (.cells #[.slice none 0 0, .slice none 0 0, .slice none 0 0, .int .i64 0] 26) = W := ⟨_, rfl⟩
  have hb1 : Below g w W := by rw [← hW, ← hg]; exact ((Below.refl _ w).alloc (Nat.le_refl _) _).alloc (by simp) _
  have hr1 : W.heap[g]? = some (.cells #[.slice io c.ins.length icap, .slice so c.strs.length scap, .slice fo c.funs.length fcap, .int .i64 c.glob] 26 (0, 0)) := by
    rw [← hW, ← hg, Below.heap_alloc _ _ _ (by simp)]
    exact heap_alloc_new w _
  have hr2 : W.heap[g + 1]? = some (.cells #[.slice none 0 0, .slice none 0 0, .slice none 0 0, .int .i64 0] 26 (0, 0)) := by
    rw [← hW, ← hg]
    have := heap_alloc_new (w.alloc (.cells #[.slice io c.ins.length icap, .slice so c.strs.length scap, .slice fo c.funs.length fcap, .int .i64 c.glob] 26)) (.cells #[.slice none 0 0, .slice none 0 0, .slice none 0 0, .int .i64 0] 26)
    simp only [World.size_alloc] at this
    exact this
  have hs1 : W.heap.size = g + 2 := by rw [← hW, ← hg]; simp
  have k0 : W.drew.cell? ⟨g, 0, none⟩ = some (.slice io c.ins.length icap) := cell_of_row W _ 0 _ _ (0, 0) hr1
  have k2 : W.drew.cell? ⟨g, 2, none⟩ = some (.slice fo c.funs.length fcap) := cell_of_row W _ 2 _ _ (0, 0) hr1
  have k3 : W.drew.cell? ⟨g, 3, none⟩ = some (.int .i64 c.glob) := cell_of_row W _ 3 _ _ (0, 0) hr1
  obtain ⟨n6, hn6⟩ : ∃ n, min c.ins.length 60 = n := ⟨_, rfl⟩
  obtain ⟨n8, hn8⟩ : ∃ n, min c.funs.length 8 = n := ⟨_, rfl⟩
  have H := Lib.hid (And.intro hmem (And.intro hb1 (And.intro hr1 (And.intro hr2 (And.intro hs1 (And.intro hW hg))))))
  have HK := Lib.hid (And.intro k0 (And.intro k2 k3))
  have HN := Lib.hid (And.intro (show min (c.ins.length : Int) 60 = (n6 : Int) by omega) (And.intro (show n6 ≤ icap by omega) (And.intro (show min (c.funs.length : Int) 8 = (n8 : Int) by omega) (And.intro (show n8 ≤ fcap by omega) (And.intro hn6 hn8)))))
  have HB := Lib.hid (And.intro hil (And.intro hic (And.intro hfl hfc)))
  clear hmem hb1 hr1 hr2 hs1 hW hg k0 k2 k3 hn6 hn8 hil hic hfl hfc
  go_enter Tryd.func10, Tryd.ntmps10
  go_upto_region 1 with (fail)
  rw [H.out.2.2.2.2.2.1, H.out.2.2.2.2.2.2]
  refine seql_start [18] (by kernel_rfl) ?_
  refine seql_take 0 (v := ?_) rfl (by kernel_rfl) (fun _ _ _ h => h) (by rfl) (fun w' hw' => ?_) ?_
  rotate_left
  · go_simp; try with_reducible rfl
  try simp only [List.getElem_toArray, List.getElem_cons_succ, List.getElem_cons_zero, Act.put, List.setIfInBounds_toArray, List.set_cons_zero, List.set_cons_succ]
  refine seql_take 1 rfl (by kernel_rfl) (fun _ _ _ h => h) (by rfl) (seq_ldRI rfl rfl (HK.out.1)) ?_
  try simp only [List.getElem_toArray, List.getElem_cons_succ, List.getElem_cons_zero, Act.put, List.setIfInBounds_toArray, List.set_cons_zero, List.set_cons_succ]
  refine seql_take 2 (v := ?_) rfl (by kernel_rfl) (fun _ _ _ h => h) (by rfl) (fun w' hw' => ?_) ?_
  rotate_left
  · go_simp; try with_reducible rfl
  try simp only [List.getElem_toArray, List.getElem_cons_succ, List.getElem_cons_zero, Act.put, List.setIfInBounds_toArray, List.set_cons_zero, List.set_cons_succ]
  refine seql_take 3 rfl (by kernel_rfl) (fun _ _ _ h => h) (by rfl) (seq_ldRI rfl rfl (HK.out.1)) ?_
  try simp only [List.getElem_toArray, List.getElem_cons_succ, List.getElem_cons_zero, Act.put, List.setIfInBounds_toArray, List.set_cons_zero, List.set_cons_succ]
  refine seql_take 4 (v := ?_) rfl (by kernel_rfl) (fun _ _ _ h => h) (by rfl) (fun w' hw' => ?_) ?_
  rotate_left
  · go_simp; try with_reducible rfl
  try simp only [List.getElem_toArray, List.getElem_cons_succ, List.getElem_cons_zero, Act.put, List.setIfInBounds_toArray, List.set_cons_zero, List.set_cons_succ]
  refine seql_take 5 rfl (by kernel_rfl) (fun _ _ _ h => h) (by rfl) (yields_min2 rfl rfl rfl (HN.out.1)) ?_
  try simp only [List.getElem_toArray, List.getElem_cons_succ, List.getElem_cons_zero, Act.put, List.setIfInBounds_toArray, List.set_cons_zero, List.set_cons_succ]
  refine seql_take 6 rfl (by kernel_rfl) (fun _ _ _ h => h) (by rfl) (yields_hik 3 rfl (by kernel_rfl) (by kernel_rfl) rfl rfl HN.out.2.1) ?_
  try simp only [List.getElem_toArray, List.getElem_cons_succ, List.getElem_cons_zero, Act.put, List.setIfInBounds_toArray, List.set_cons_zero, List.set_cons_succ]
  refine seql_take 7 (v := ?_) rfl (by kernel_rfl) (fun _ _ _ h => h) (by rfl) (fun w' hw' => ?_) ?_
  rotate_left
  · go_simp; try with_reducible rfl
  try simp only [List.getElem_toArray, List.getElem_cons_succ, List.getElem_cons_zero, Act.put, List.setIfInBounds_toArray, List.set_cons_zero, List.set_cons_succ]
  refine seql_take 8 rfl (by kernel_rfl) (fun _ _ _ h => h) (by rfl) (seq_ldII rfl rfl (HK.out.2.1)) ?_
  try simp only [List.getElem_toArray, List.getElem_cons_succ, List.getElem_cons_zero, Act.put, List.setIfInBounds_toArray, List.set_cons_zero, List.set_cons_succ]
  refine seql_take 9 (v := ?_) rfl (by kernel_rfl) (fun _ _ _ h => h) (by rfl) (fun w' hw' => ?_) ?_
  rotate_left
  · go_simp; try with_reducible rfl
  try simp only [List.getElem_toArray, List.getElem_cons_succ, List.getElem_cons_zero, Act.put, List.setIfInBounds_toArray, List.set_cons_zero, List.set_cons_succ]
  refine seql_take 10 rfl (by kernel_rfl) (fun _ _ _ h => h) (by rfl) (seq_ldII rfl rfl (HK.out.2.1)) ?_
  try simp only [List.getElem_toArray, List.getElem_cons_succ, List.getElem_cons_zero, Act.put, List.setIfInBounds_toArray, List.set_cons_zero, List.set_cons_succ]
  refine seql_take 11 (v := ?_) rfl (by kernel_rfl) (fun _ _ _ h => h) (by rfl) (fun w' hw' => ?_) ?_
  rotate_left
  · go_simp; try with_reducible rfl
  try simp only [List.getElem_toArray, List.getElem_cons_succ, List.getElem_cons_zero, Act.put, List.setIfInBounds_toArray, List.set_cons_zero, List.set_cons_succ]
  refine seql_take 12 rfl (by kernel_rfl) (fun _ _ _ h => h) (by rfl) (yields_min2 rfl rfl rfl (HN.out.2.2.1)) ?_
  try simp only [List.getElem_toArray, List.getElem_cons_succ, List.getElem_cons_zero, Act.put, List.setIfInBounds_toArray, List.set_cons_zero, List.set_cons_succ]
  refine seql_take 13 rfl (by kernel_rfl) (fun _ _ _ h => h) (by rfl) (yields_hik 1 rfl (by kernel_rfl) (by kernel_rfl) rfl rfl HN.out.2.2.2.1) ?_
  try simp only [List.getElem_toArray, List.getElem_cons_succ, List.getElem_cons_zero, Act.put, List.setIfInBounds_toArray, List.set_cons_zero, List.set_cons_succ]
  refine seql_take 14 (v := ?_) rfl (by kernel_rfl) (fun _ _ _ h => h) (by rfl) (fun w' hw' => ?_) ?_
  rotate_left
  · go_simp; try with_reducible rfl
  try simp only [List.getElem_toArray, List.getElem_cons_succ, List.getElem_cons_zero, Act.put, List.setIfInBounds_toArray, List.set_cons_zero, List.set_cons_succ]
  refine seql_take 15 rfl (by kernel_rfl) (fun _ _ _ h => h) (by rfl) (seq_ldi rfl rfl (HK.out.2.2)) ?_
  try simp only [List.getElem_toArray, List.getElem_cons_succ, List.getElem_cons_zero, Act.put, List.setIfInBounds_toArray, List.set_cons_zero, List.set_cons_succ]
  refine seql_take 16 (v := ?_) rfl (by kernel_rfl) (fun _ _ _ h => h) (by rfl) (fun w' hw' => ?_) ?_
  rotate_left
  · go_simp; try with_reducible rfl
  try simp only [List.getElem_toArray, List.getElem_cons_succ, List.getElem_cons_zero, Act.put, List.setIfInBounds_toArray, List.set_cons_zero, List.set_cons_succ]
  refine seql_run 17 rfl (by kernel_rfl) (by rfl) (fun KK hKK => ?_)
  go_wp2_with fail
  refine ⟨(Below.refl _ _).alloc (Nat.le_refl _) _, ?_⟩
  refine seql_last 18 rfl (by kernel_rfl) (by kernel_rfl) (by rfl) (fun KK hKK => ?_)
  go_wp2_with fail
  refine seql_done (by kernel_rfl) ?_
  go_upto_block 0 with (fail)
  obtain ⟨W5, hW5⟩ : ∃ W5, (W.alloc (.cells #[.slice io n6 icap, .slice none 0 0, .slice fo n8 fcap, .int .i64 c.glob] 26)).drew = W5 := ⟨_, rfl⟩
  have hb5 : Below W.heap.size W W5 := by rw [← hW5]; exact ((Below.refl _ W).alloc (Nat.le_refl _) _).drew
  have hs5 : W5.heap.size = g + 3 := by rw [← hW5]; simp [H.out.2.2.2.2.1]
  have hr5 : W5.heap[g + 2]? = some (.cells #[.slice io n6 icap, .slice none 0 0, .slice fo n8 fcap, .int .i64 c.glob] 26 (0, 0)) := by
    rw [← hW5, ← H.out.2.2.2.2.1]
    exact heap_alloc_new W _
  have hr15 : W5.heap[g]? = _ := (hb5.block g (by have := H.out.2.2.2.2.1; omega)).trans H.out.2.2.1
  have hr25 : W5.heap[g + 1]? = _ := (hb5.block (g + 1) (by have := H.out.2.2.2.2.1; omega)).trans H.out.2.2.2.1
  have hm5 : CodeMem W5 (fun b => b < g) c io so fo := by
    have h := (H.out.1.below (by rw [H.out.2.2.2.2.2.2]; exact H.out.2.1)).below hb5
    rw [H.out.2.2.2.2.2.2] at h
    exact h
  rw [hW5, H.out.2.2.2.2.1]
  have H5 := Lib.hid (And.intro hr5 (And.intro hr15 (And.intro hr25 (And.intro hm5 (And.intro hs5 (H.out.2.1.trans (hb5.mono (by have := H.out.2.2.2.2.1; omega))))))))
  clear hW5 hb5 hs5 hr5 hr15 hr25 hm5
  go_wp2_with fail
  go_loopw [4] (fun v4 wr => ∃ i ao cap, i ≤ c.strs.length ∧ i ≤ 10 ∧ v4 = .int .i64 (i : Int) ∧ wr.heap[g + 2]? = some (.cells #[.slice io n6 icap, .slice ao i cap, .slice fo n8 fcap, .int .i64 c.glob] 26 (0, 0)) ∧ wr.ownsRow W5.heap.size 9 1 (.slice ao i cap) i (strCells ((c.strs.take i).map (·.take 4100))) ∧ Keeps (fun b => b = g + 2 ∨ W5.heap.size ≤ b) W5 wr) (fun v4 _ => 10 - (intOf v4).toNat)
  case atStart => exact ⟨0, none, 0, by omega, by omega, rfl, H5.out.1, World.ownsRow_nil _ _ _ _, Keeps.refl _ _⟩
  case round =>
    obtain ⟨i, ao, cap, hi, hi10, rfl, hr, hown, hk⟩ := hrel
    have hs5 := H5.out.2.2.2.2.1
    have hsk := hk.size
    have hrg : wr.heap[g]? = _ := (hk.block g (by omega) (fun h => by omega)).trans H5.out.2.1
    have hrg1 : wr.heap[g + 1]? = _ := (hk.block (g + 1) (by omega) (fun h => by omega)).trans H5.out.2.2.1
    have hmw : CodeMem wr (fun b => b < g) c io so fo := H5.out.2.2.2.1.keeps hk (fun b hb h => by omega)
    have k1 : wr.cell? ⟨g, 1, none⟩ = some (.slice so c.strs.length scap) := cell_of_row _ _ 1 _ _ (0, 0) hrg
    have HI := Lib.hid (And.intro hr (And.intro hown (And.intro hk (And.intro hrg (And.intro hrg1 (And.intro hmw hs5))))))
    by_cases hlt : i < c.strs.length ∧ i < 10
    · obtain ⟨hlt, hl10⟩ := hlt
      have hd1 : decide ((i : Int) < (c.strs.length : Int)) = true := decide_eq_true (by omega)
      have hd2 : decide ((i : Int) < 10) = true := decide_eq_true (by omega)
      obtain ⟨sb, si, rfl, c0⟩ := hmw.strs.exv i (by simpa [strCells] using hlt)
      have hce : (strCells c.strs)[i]'(by simpa [strCells] using hlt) = .string ⟨c.strs[i].toArray⟩ := by simp [strCells]
      rw [hce] at c0
      obtain ⟨x, hx⟩ : ∃ x, c.strs[i] = x := ⟨_, rfl⟩
      rw [hx] at c0
      have HX := Lib.hid (show (c.strs.take (i + 1)).map (·.take 4100) = (c.strs.take i).map (·.take 4100) ++ [x.take 4100] by rw [← hx, List.take_succ_eq_append_getElem hlt, List.map_append]; rfl)
      obtain ⟨n4, hn4⟩ : ∃ n, min x.length 4100 = n := ⟨_, rfl⟩
      have HM := Lib.hid (And.intro (show min (x.length : Int) 4100 = (n4 : Int) by omega) (And.intro (show n4 ≤ x.length by omega) (show x.take n4 = x.take 4100 by
        rcases Nat.lt_or_ge x.length 4100 with h | h
        · rw [List.take_of_length_le (by omega), List.take_of_length_le (by omega)]
        · rw [show n4 = 4100 by omega])))
      have HC := Lib.hid (And.intro (show wr.drew.cell? ⟨g + 2, 1, none⟩ = some (.slice ao i cap) from cell_of_row wr _ 1 _ _ (0, 0) hr) (And.intro (show wr.drew.cell? ⟨g, 1, none⟩ = _ from k1) (show wr.drew.cell? ⟨sb, si + i, none⟩ = _ from c0)))
      have hsx : (ByteArray.mk x.toArray).size = x.length := by rw [ByteArray.size]; simp
      clear hr hown hk hrg hrg1 hmw c0 hx hn4
      go_wp2_with fail
      clear k1
      refine seql_start [16, 18] (by kernel_rfl) ?_
      refine seql_take 0 (v := ?_) rfl (by kernel_rfl) (fun _ _ _ h => h) (by rfl) (fun w' hw' => ?_) ?_
      rotate_left
      · go_simp; try with_reducible rfl
      try simp only [List.getElem_toArray, List.getElem_cons_succ, List.getElem_cons_zero, Act.put, List.setIfInBounds_toArray, List.set_cons_zero, List.set_cons_succ]
      refine seql_take 1 rfl (by kernel_rfl) (fun _ _ _ h => h) (by rfl) (seq_ldSS rfl rfl (HC.out.1)) ?_
      try simp only [List.getElem_toArray, List.getElem_cons_succ, List.getElem_cons_zero, Act.put, List.setIfInBounds_toArray, List.set_cons_zero, List.set_cons_succ]
      refine seql_take 2 (v := ?_) rfl (by kernel_rfl) (fun _ _ _ h => h) (by rfl) (fun w' hw' => ?_) ?_
      rotate_left
      · go_simp; try with_reducible rfl
      try simp only [List.getElem_toArray, List.getElem_cons_succ, List.getElem_cons_zero, Act.put, List.setIfInBounds_toArray, List.set_cons_zero, List.set_cons_succ]
      refine seql_take 3 rfl (by kernel_rfl) (fun _ _ _ h => h) (by rfl) (seq_ldSS rfl rfl (HC.out.2.1)) ?_
      try simp only [List.getElem_toArray, List.getElem_cons_succ, List.getElem_cons_zero, Act.put, List.setIfInBounds_toArray, List.set_cons_zero, List.set_cons_succ]
      refine seql_take 4 (v := ?_) rfl (by kernel_rfl) (fun _ _ _ h => h) (by rfl) (fun w' hw' => ?_) ?_
      rotate_left
      · go_simp; try with_reducible rfl
      try simp only [List.getElem_toArray, List.getElem_cons_succ, List.getElem_cons_zero, Act.put, List.setIfInBounds_toArray, List.set_cons_zero, List.set_cons_succ]
      refine seql_take 5 (v := ?_) rfl (by kernel_rfl) (fun _ _ _ h => h) (by rfl) (fun w' hw' => ?_) ?_
      rotate_left
      · go_simp; try with_reducible rfl
      try simp only [List.getElem_toArray, List.getElem_cons_succ, List.getElem_cons_zero, Act.put, List.setIfInBounds_toArray, List.set_cons_zero, List.set_cons_succ]
      refine seql_take 6 rfl (by kernel_rfl) (fun _ _ _ h => h) (by rfl) (seq_lds rfl rfl (HC.out.2.2)) ?_
      try simp only [List.getElem_toArray, List.getElem_cons_succ, List.getElem_cons_zero, Act.put, List.setIfInBounds_toArray, List.set_cons_zero, List.set_cons_succ]
      refine seql_take 7 (v := ?_) rfl (by kernel_rfl) (fun _ _ _ h => h) (by rfl) (fun w' hw' => ?_) ?_
      rotate_left
      · go_simp; try with_reducible rfl
      try simp only [List.getElem_toArray, List.getElem_cons_succ, List.getElem_cons_zero, Act.put, List.setIfInBounds_toArray, List.set_cons_zero, List.set_cons_succ]
      refine seql_take 8 rfl (by kernel_rfl) (fun _ _ _ h => h) (by rfl) (seq_ldSS rfl rfl (HC.out.2.1)) ?_
      try simp only [List.getElem_toArray, List.getElem_cons_succ, List.getElem_cons_zero, Act.put, List.setIfInBounds_toArray, List.set_cons_zero, List.set_cons_succ]
      refine seql_take 9 (v := ?_) rfl (by kernel_rfl) (fun _ _ _ h => h) (by rfl) (fun w' hw' => ?_) ?_
      rotate_left
      · go_simp; try with_reducible rfl
      try simp only [List.getElem_toArray, List.getElem_cons_succ, List.getElem_cons_zero, Act.put, List.setIfInBounds_toArray, List.set_cons_zero, List.set_cons_succ]
      refine seql_take 10 (v := ?_) rfl (by kernel_rfl) (fun _ _ _ h => h) (by rfl) (fun w' hw' => ?_) ?_
      rotate_left
      · go_simp; try with_reducible rfl
      try simp only [List.getElem_toArray, List.getElem_cons_succ, List.getElem_cons_zero, Act.put, List.setIfInBounds_toArray, List.set_cons_zero, List.set_cons_succ]
      refine seql_take 11 rfl (by kernel_rfl) (fun _ _ _ h => h) (by rfl) (seq_lds rfl rfl (HC.out.2.2)) ?_
      try simp only [List.getElem_toArray, List.getElem_cons_succ, List.getElem_cons_zero, Act.put, List.setIfInBounds_toArray, List.set_cons_zero, List.set_cons_succ]
      refine seql_take 12 (v := ?_) rfl (by kernel_rfl) (fun _ _ _ h => h) (by rfl) (fun w' hw' => ?_) ?_
      rotate_left
      · go_simp; try with_reducible rfl
      try simp only [List.getElem_toArray, List.getElem_cons_succ, List.getElem_cons_zero, Act.put, List.setIfInBounds_toArray, List.set_cons_zero, List.set_cons_succ]
      refine seql_take 13 rfl (by kernel_rfl) (fun _ _ _ h => h) (by rfl) (yields_min2 rfl rfl rfl (HM.out.1)) ?_
      try simp only [List.getElem_toArray, List.getElem_cons_succ, List.getElem_cons_zero, Act.put, List.setIfInBounds_toArray, List.set_cons_zero, List.set_cons_succ]
      refine seql_take 14 rfl (by kernel_rfl) (fun _ _ _ h => h) (by rfl) (yields_str_hi (by kernel_rfl) rfl rfl rfl (HM.out.2.1)) ?_
      try simp only [List.getElem_toArray, List.getElem_cons_succ, List.getElem_cons_zero, Act.put, List.setIfInBounds_toArray, List.set_cons_zero, List.set_cons_succ]
      refine seql_run 15 rfl (by kernel_rfl) (by rfl) (fun KK hKK => ?_)
      go_wp2_with fail
      refine ⟨(Below.refl _ _).alloc (Nat.le_refl _) _, ?_⟩
      have hba : Below wr.heap.size wr (wr.alloc (.cells #[.string ⟨(x.take n4).toArray⟩] 9)).drew := ((Below.refl _ wr).alloc (Nat.le_refl _) _).drew
      have HBA := Lib.hid hba
      clear hba
      refine seql_last 16 rfl (by kernel_rfl) (by kernel_rfl) (by rfl) (fun KK hKK => ?_)
      refine wp_strs _ _ rfl W5.heap.size ao cap i _ rfl (owns_below HI.out.2.1 HBA.out) (x.take n4) wr.heap.size rfl ((At.new wr #[.string ⟨(x.take n4).toArray⟩] 9).below (Below.refl _ _).drew) (by omega) (by have := HBA.out.size; omega) ?_
      intro ao2 cap2 w5 q1 q2 q3
      refine hKK _ _ ?_
      have hk5 : Keeps (fun b => blk ao = some b) wr w5 := (Keeps.of_below HBA.out).trans' (Keeps.of_grown' q2 (fun b hb => hb))
      have hao : ∀ b, blk ao = some b → W5.heap.size ≤ b := fun b hb => (HI.out.2.1.lt b (by rw [own_slice]; exact hb)).1
      have hs5 := HI.out.2.2.2.2.2.2
      have hr5 : w5.heap[g + 2]? = _ := (hk5.block (g + 2) (by omega) (fun h => by have := hao _ h; omega)).trans HI.out.1
      have c5 : w5.cell? ⟨g + 2, 1, none⟩ = some (.slice ao i cap) := cell_of_row _ _ 1 _ _ (0, 0) hr5
      have f5 := frozen_of_row w5 (g + 2) 1 _ _ hr5
      have HQ := Lib.hid (And.intro q1 (And.intro hk5 (And.intro hr5 (And.intro hao (show ∀ b, blk ao2 = some b → W5.heap.size ≤ b from fun b hb => (q1.lt b (by rw [own_slice]; exact hb)).1)))))
      clear q1 q2 q3 hk5 hr5 hao hs5
      refine seql_more 17 rfl (by kernel_rfl) (by kernel_rfl) (by rfl) (fun KK hKK => ?_)
      go_wp2_with fail
      refine seql_more 18 rfl (by kernel_rfl) (by kernel_rfl) (by rfl) (fun KK hKK => ?_)
      go_wp2_with fail
      refine seql_done (by kernel_rfl) ?_
      go_wp2_with fail
      go_roundw
      case rel =>
        have hk6 : Keeps (fun b => b = g + 2) w5 (w5.setCell ⟨g + 2, 1, none⟩ (.slice ao2 (i + 1) cap2)) := Keeps.of_grown (setCell_grown0 _ _ _ _) rfl
        refine ⟨i + 1, ao2, cap2, by omega, by omega, by simp, ?_, ?_, (HI.out.2.2.1.trans' (HQ.out.2.1.mono (fun b _ h => .inr (HQ.out.2.2.2.1 b h)))).trans' (hk6.mono (fun _ _ h => .inl h))⟩
        · rw [setCell_row0 1 _ HQ.out.2.2.1]
          rfl
        · have := owns_keeps HQ.out.1 hk6 (fun b hb h => by rw [own_slice] at hb; have := HQ.out.2.2.2.2 b hb; have := HI.out.2.2.2.2.2.2; omega)
          rw [HX.out, ← HM.out.2.2]
          exact this
      case measure => simp [intOf]; omega
    · have hend : i = (fewC c).strs.length := by simp [fewC]; omega
      have d0 : wr.cell? ⟨g + 2, 0, none⟩ = some (.slice io n6 icap) := cell_of_row _ _ 0 _ _ (0, 0) hr
      have d1 : wr.cell? ⟨g + 2, 1, none⟩ = some (.slice ao i cap) := cell_of_row _ _ 1 _ _ (0, 0) hr
      have d2 : wr.cell? ⟨g + 2, 2, none⟩ = some (.slice fo n8 fcap) := cell_of_row _ _ 2 _ _ (0, 0) hr
      have d3 : wr.cell? ⟨g + 2, 3, none⟩ = some (.int .i64 c.glob) := cell_of_row _ _ 3 _ _ (0, 0) hr
      have hpost : Fews w D c (.returned (.agg #[.slice io n6 icap, .slice ao i cap, .slice fo n8 fcap, .int .i64 c.glob])) (wr.setCells (g + 1) 0 [.slice io n6 icap, .slice ao i cap, .slice fo n8 fcap, .int .i64 c.glob]) := by
        have hks := Keeps.setCells (g + 1) [.slice io n6 icap, .slice ao i cap, .slice fo n8 fcap, .int .i64 c.glob] 0 wr
        have hs := hks.size
        have hg := H.out.2.2.2.2.2.2
        have e6 : n6 = (fewC c).ins.length := by simp only [fewC, List.length_take]; have := HN.out.2.2.2.2.1; omega
        have e8 : n8 = (fewC c).funs.length := by simp only [fewC, List.length_take]; have := HN.out.2.2.2.2.2; omega
        have haoL : ∀ b, blk ao = some b → W5.heap.size ≤ b ∧ b < wr.heap.size := fun b hb => hown.lt b (by rw [own_slice]; exact hb)
        have hst : (c.strs.take i).map (·.take 4100) = (fewC c).strs := by
          simp only [fewC]
          rcases Nat.lt_or_ge c.strs.length 10 with h | h
          · rw [show i = c.strs.length by omega, List.take_length, List.take_of_length_le (by omega)]
          · rw [show i = 10 by omega]
        have hcap := owns_form hown
        have h2 := HN.out.2.1
        have h4 := HN.out.2.2.2.1
        have hki := (hmw.keeps hks (fun b hb h => by omega))
        refine ⟨?_, io, ao, fo, icap, cap, fcap, by rw [e6, e8, hend], ⟨?_, ?_, ?_, fun b hb hne => ?_, fun b hb hne => ?_, fun b hb hne => ?_, fun x hx => hki.insR x (List.mem_of_mem_take hx), fun s hs => ?_, fun z hz => hki.funR z (List.mem_of_mem_take hz)⟩, by rw [← e6]; exact h2, ?_, by rw [← e8]; exact h4⟩
        · rw [hg]
          exact H5.out.2.2.2.2.2.trans ((hk.below (B := g) (fun b hb h => by omega) (by omega)).trans (hks.below (fun b hb h => by omega) (by omega)))
        · have := hki.ins.take 60
          simpa [fewC] using this
        · have h1 := At.own (owns_keeps hown hks (fun b hb h => by rw [own_slice] at hb; have := haoL b hb; omega))
          rw [hst] at h1
          exact h1
        · have := hki.funs
          rcases this with h | ⟨b, o, rfl, hc⟩
          · have hn : c.funs = [] := by simpa [intsV] using h
            exact .inl (by simp [fewC, hn, intsV])
          · refine .inr ⟨b, o, rfl, fun j v hj => hc j v ?_⟩
            simp only [fewC, intsV, List.map_take] at hj
            rw [List.getElem?_take] at hj
            split at hj
            · exact hj
            · cases hj
        · exact .inl (HM0.out.insD b hb (fun h => hne (by simp [fewC, h])))
        · have := haoL b hb; exact .inr ⟨by omega, by omega⟩
        · exact .inl (HM0.out.funD b hb (fun h => hne (by simp [fewC, h])))
        · simp only [fewC, List.mem_map] at hs
          obtain ⟨t, ht, rfl⟩ := hs
          rw [List.length_take]
          omega
        · obtain ⟨_, _, he, hle⟩ := hcap
          cases he
          omega
      have HP := Lib.hid hpost
      clear hpost
      by_cases h1 : i < c.strs.length
      · have hd1 : decide ((i : Int) < (c.strs.length : Int)) = true := decide_eq_true (by omega)
        have hd2 : decide ((i : Int) < 10) = false := decide_eq_false (by omega)
        clear hr hown hk hrg hrg1 hmw hlt hend
        go_wp2_with (refine wpList_store_mid rfl 26 _ _ rfl (g + 1) 0 #[.slice io n6 icap, .slice ao i cap, .slice fo n8 fcap, .int .i64 c.glob] rfl rfl (code_there HI.out.2.2.2.2.1) (by kernel_rfl) (code_one _ _ _ _ _ _ _ _ _ _) ?_)
        exact bodyPost_ret (v := .agg #[.slice io n6 icap, .slice ao i cap, .slice fo n8 fcap, .int .i64 c.glob]) (results_few _ _ (g + 1) _ _ _ _ rfl (code_row HI.out.2.2.2.2.1 _ _ _ _)) rfl HP.out
      · have hd1 : decide ((i : Int) < (c.strs.length : Int)) = false := decide_eq_false (by omega)
        clear hr hown hk hrg hrg1 hmw hlt hend
        go_wp2_with (refine wpList_store_mid rfl 26 _ _ rfl (g + 1) 0 #[.slice io n6 icap, .slice ao i cap, .slice fo n8 fcap, .int .i64 c.glob] rfl rfl (code_there HI.out.2.2.2.2.1) (by kernel_rfl) (code_one _ _ _ _ _ _ _ _ _ _) ?_)
        exact bodyPost_ret (v := .agg #[.slice io n6 icap, .slice ao i cap, .slice fo n8 fcap, .int .i64 c.glob]) (results_few _ _ (g + 1) _ _ _ _ rfl (code_row HI.out.2.2.2.2.1 _ _ _ _)) rfl HP.out
end Go.Proofs.YtnhdefaagicejaaDoor
