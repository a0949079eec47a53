/- THE LAW CodeDead: steps that are never come to don't matter, as long as their numbers are right. -/
import Derived.Test.YtnhdefaagicejaaDoorCodeL
import Derived.Test.YtnhdefaagicejaaDoorCodeTab
import Derived.Test.YtnhdefaagicejaaDoorCodeIn
import Derived.Deep.CutRange
import Derived.Deep.AppendLies
namespace Go.Proofs.YtnhdefaagicejaaDoor.codeDead
set_option linter.unusedSimpArgs false
set_option linter.unusedVariables false
open Go.ChangeShapes Go.WideShapes Go.ChangeAt Go.RowKit Go.ChangeMaps

theorem infoInsR : (Tryd.prog.info? 29).map (fun i => (i.zero, i.size, i.bytes)) = some (some (.agg #[.int .i64 0, .int .i64 0, .int .i64 0]), 3, 24) := by kernel_rfl
/-- A step more. -/
theorem app_insR {w : World} {ops : Array Oper} {rest : List Oper} {o : Oper} {a : Act} {Q : Exit → Act → World → Prop} (hgd : Region.wanted o (yielded ops a.tmps) = true) (s x : Operand)
    (ho : o.op = .call { callee := .builtin .append, args := #[s, x], argTypes := #[23, 23] })
    (base : Nat) (ao : Option Addr) (cap n : Nat) (l : List InsP) (hs : a.eval s = .slice ao n cap) (hown : w.ownsRow base 29 3 (.slice ao n cap) n (l.map insRow).flatten)
    (y : InsP) (g : Nat) (hx : a.eval x = .slice (some ⟨g, 0, none⟩) 1 1) (hat : At w (some ⟨g, 0, none⟩) (insRow y)) (hb : n ≤ 1000000000) (hbase : base ≤ w.heap.size)
    (h : ∀ ao' cap' w', w'.ownsRow base 29 3 (.slice ao' (n + 1) cap') (n + 1) ((l ++ [y]).map insRow).flatten → w.grownBy w' (blk ao) → (blk ao' = blk ao ∨ blk ao' = some w.heap.size) → wpList Tryd.prog ops Q rest (a.put o.dst (.slice ao' (n + 1) cap')) w') : wpList Tryd.prog ops Q (o :: rest) a w :=
  wpList_go hgd fun _ hK => by
    obtain ⟨i0, hi, hz0, hz1, hz2⟩ := info_parts infoInsR
    refine wp_append s x 23 23 ho base 29 i0 (.agg #[.int .i64 0, .int .i64 0, .int .i64 0]) 3 24 Tryd.underlying23 hi hz0 hz1 hz2 rfl _ n (l.map insRow).flatten hs hown _ 1 (insRow y) hx
      (hat.src Tryd.underlying23 rfl (by intro v hv; simp [insRow] at hv; rcases hv with rfl | rfl | rfl <;> rfl) (by decide)) (by unfold maxLen; omega) (by omega) hbase ?_
    intro ao' cap' w' g1 g2 g3
    rw [own_slice] at g2 g3
    exact hK _ _ (h ao' cap' w' (by simpa using g1) g2 g3)
/-- A step that is never come to, with its numbers made right. -/
def deadO (x : InsP) : Int := if wrap64 ((IntKind.u64.wrap x.op).tmod 29) = 12 then 17 else wrap64 ((IntKind.u64.wrap x.op).tmod 29)
def deadX (x : InsP) : InsP := ⟨deadO x, if usesP (deadO x) < 1 then 0 else x.a, if usesP (deadO x) < 2 then 0 else x.b⟩
/-- Code that is being made, in the block g of the world W: its steps are a row of its own. -/
def DeadI (W : World) (g n : Nat) (so : Option Addr) (sn scap : Nat) (gl : Int) (l : List InsP) (wr : World) : Prop :=
  ∃ ao cap, wr.heap[g]? = some (.cells #[.slice ao n cap, .slice so sn scap, .slice none 0 0, .int .i64 gl] 26 (0, 0)) ∧ wr.ownsRow W.heap.size 29 3 (.slice ao n cap) n (l.map insRow).flatten ∧ Keeps (fun b => b = g ∨ W.heap.size ≤ b) W wr
theorem deadI_step {W wr wa w5 : World} {g i sn scap : Nat} {gl : Int} {so ao ao2 : Option Addr} {cap cap2 : Nat} {l : List InsP} {y : InsP}
    (hr : wr.heap[g]? = some (.cells #[.slice ao i cap, .slice so sn scap, .slice none 0 0, .int .i64 gl] 26 (0, 0)))
    (hown : wr.ownsRow W.heap.size 29 3 (.slice ao i cap) i (l.map insRow).flatten) (hk : Keeps (fun b => b = g ∨ W.heap.size ≤ b) W wr) (hg : g < W.heap.size)
    (hba : Below wr.heap.size wr wa)
    (q1 : w5.ownsRow W.heap.size 29 3 (.slice ao2 (i + 1) cap2) (i + 1) ((l ++ [y]).map insRow).flatten) (q2 : wa.grownBy w5 (blk ao)) :
    w5.cell? ⟨g, 0, none⟩ = some (.slice ao i cap) ∧ w5.frozen? ⟨g, 0, none⟩ = false ∧ DeadI W g (i + 1) so sn scap gl (l ++ [y]) (w5.setCell ⟨g, 0, none⟩ (.slice ao2 (i + 1) cap2)) := by
  have hao : ∀ b, blk ao = some b → W.heap.size ≤ b := fun b hb => (hown.lt b (by rw [own_slice]; exact hb)).1
  have hao2 : ∀ b, blk ao2 = some b → W.heap.size ≤ b := fun b hb => (q1.lt b (by rw [own_slice]; exact hb)).1
  have hk5 : Keeps (fun b => blk ao = some b) wr w5 := (Keeps.of_below hba).trans' (Keeps.of_grown' q2 (fun b hb => hb))
  have hsk := hk.size
  have hr5 : w5.heap[g]? = _ := (hk5.block g (by omega) (fun h => by have := hao _ h; omega)).trans hr
  have hk6 : Keeps (fun b => b = g) w5 (w5.setCell ⟨g, 0, none⟩ (.slice ao2 (i + 1) cap2)) := Keeps.of_grown (setCell_grown0 _ _ _ _) rfl
  refine ⟨cell_of_row _ _ 0 _ _ (0, 0) hr5, frozen_of_row w5 g 0 _ _ hr5, ao2, cap2, ?_, ?_, (hk.trans' (hk5.mono (fun b _ h => .inr (hao b h)))).trans' (hk6.mono (fun _ _ h => .inl h))⟩
  · rw [setCell_row0 0 _ hr5]
    rfl
  · exact owns_keeps q1 hk6 (fun b hb h => by rw [own_slice] at hb; have := hao2 b hb; omega)
theorem insRows {w : World} {io : Option Addr} {l : List InsP} (h : RowsAt w io 3 (l.map insRow)) (i : Nat) (hi : i < l.length) :
    ∃ b o, io = some ⟨b, o, none⟩ ∧ w.cell? ⟨b, o + i * 3, none⟩ = some (.int .i64 l[i].op) ∧ w.cell? ⟨b, o + i * 3 + 1, none⟩ = some (.int .i64 l[i].a) ∧ w.cell? ⟨b, o + i * 3 + 2, none⟩ = some (.int .i64 l[i].b) := by
  obtain ⟨b, o, rfl, hc⟩ := h.cell i (by simpa using hi)
  have he : (l.map insRow)[i]'(by simpa using hi) = insRow l[i] := by simp
  rw [he] at hc
  exact ⟨b, o, rfl, by have := hc 0 _ rfl; rwa [Nat.add_zero] at this, by have := hc 1 _ rfl; rwa [← Nat.add_assoc] at this, by have := hc 2 _ rfl; rwa [← Nat.add_assoc] at this⟩
/-- A step that leads to a place near by. -/
def Small (x : InsP) : Prop := ((x.op = 15 ∨ x.op = 16 ∨ x.op = 24) → 0 ≤ x.a ∧ x.a ≤ 60) ∧ ((20 ≤ x.op ∧ x.op ≤ 22) → 0 ≤ x.b ∧ x.b ≤ 60)
/-- An append onto a row of one's own that is full only grows the world. -/
theorem wp_full {P : Program} {w : World} {o : Oper} {a : Act} {K : Act → World → Prop} {Q : Exit → Act → World → Prop} (s x : Operand) (t : TypeId)
    (ho : o.op = .call { callee := .builtin .append, args := #[s, x], argTypes := #[t, t] })
    (base : Nat) (e : TypeId) (i : TypeInfo) (z : Value) (size bytes : Nat) (ht : P.underlying t = some (.slice e)) (hi : P.info? e = some i) (hz : i.zero = some z) (hsize : i.size = size) (hby : i.bytes = bytes) (hzs : z.cells.size = size)
    (g n : Nat) (xs : List Value) (hs : a.eval s = .slice (some ⟨g, 0, none⟩) n n) (hown : w.ownsRow base e size (.slice (some ⟨g, 0, none⟩) n n) n xs)
    (xv : Value) (m : Nat) (news : List Value) (hx : a.eval x = xv) (hsrc : Src P size t xv m news w) (h63 : n + m ≤ maxLen) (hbytes : (n + m) * bytes ≤ 140737488355328) (hbase : base ≤ w.heap.size)
    (h : ∀ ao cap w', w'.ownsRow base e size (.slice ao (n + m) cap) (n + m) (xs ++ news) → Below w.heap.size w w' → K (a.put o.dst (.slice ao (n + m) cap)) w') : o.wp P a w K Q := by
  subst hsize
  subst hby
  have hnl := hsrc.newsLen
  rcases Nat.eq_zero_or_pos m with rfl | hm
  · obtain rfl : news = [] := List.eq_nil_of_length_eq_zero (by simpa using hnl)
    have hr := run_append_room_src w t t o.type e i ht hi g 0 n n xv 0 [] hsrc (by omega) (fun j hj => by simp at hj) (fun j hj => by simp at hj)
    unfold Oper.wp execOp
    simp only [ho, resolve, invoke, builtin, Sem.run_bind, Sem.run_pure, Result.andThen_ok, List.map_toArray, List.map_cons, List.map_nil, hs, hx, hr]
    exact h _ _ _ (by rw [List.append_nil]; exact hown) (Below.refl _ _)
  · have hlen : (xs ++ news).length = (n + m) * i.size := by rw [List.length_append, hown.1, hnl, Nat.add_mul]
    have hold : (Builtin.firstCells i.size n (.slice (some ⟨g, 0, none⟩) n n)).run P w.drew = .ok xs.toArray w.drew := by
      refine run_firstCells_some w.drew i.size n ⟨g, 0, none⟩ n n xs hown.1 (fun j u hj => ?_)
      have := hown.cells (g := g) rfl j u hj
      simpa using this
    have hr := run_append_grow_src (P := P) w t t o.type e i z ht hi hz (some ⟨g, 0, none⟩) n n xs hold xv m news hsrc (by omega) (by unfold maxLen at h63; omega) (growslice_fits (by omega) hbytes)
    have hge := grownCap_ge w (n + m) n e
    have hcm := grownCap_le_maxLen w (n + m) n e h63
    unfold Oper.wp execOp
    simp only [ho, resolve, invoke, builtin, Sem.run_bind, Sem.run_pure, Result.andThen_ok, List.map_toArray, List.map_cons, List.map_nil, hs, hx, hr]
    refine h _ _ _ ⟨hlen, .inr ⟨w.heap.size, _, _, rfl, hbase, heap_alloc_new w.drew _, hge, hcm, ?_, ?_⟩⟩ (((Below.refl _ w).drew).alloc (by simp) _)
    · rw [Array.size_append, List.size_toArray, hlen, size_zeroCells, hzs, ← Nat.add_mul]
      congr 1
      omega
    · rw [Array.toList_append, ← hlen]
      exact List.take_left
/-- What the operations give that lay the new code's first steps. -/
def PhiD (B : Nat) (nI : Int) (dl : List InsP) (so : Option Addr) (sn scap : Nat) (gl : Int) : Nat → Value → World → Prop
  | 2, v, w => ∃ b, v = .slice (some ⟨b, 0, none⟩) 1 1 ∧ w.ownsRow B 29 3 (.slice (some ⟨b, 0, none⟩) 1 1) 1 (insRow ⟨15, nI, 0⟩)
  | 5, v, w => ∃ ao cap, v = .slice ao (1 + dl.length) cap ∧ w.ownsRow B 29 3 (.slice ao (1 + dl.length) cap) (1 + dl.length) ((⟨15, nI, 0⟩ :: dl).map insRow).flatten
  | 10, v, w => ∃ ao cap, v = .agg #[.slice ao (1 + dl.length) cap, .slice so sn scap, .slice none 0 0, .int .i64 gl] ∧ w.ownsRow B 29 3 (.slice ao (1 + dl.length) cap) (1 + dl.length) ((⟨15, nI, 0⟩ :: dl).map insRow).flatten
  | 11, v, w => ∃ q, v = .pointer (some ⟨q, 0, none⟩) ∧ B ≤ q ∧ w.heap[q]? = some (.cells #[.slice none 0 0, .slice none 0 0, .slice none 0 0, .int .i64 0] 26 (0, 0))
  | _, _, _ => True
theorem PhiD_mono (B : Nat) (nI : Int) (dl : List InsP) (so : Option Addr) (sn scap : Nat) (gl : Int) : ∀ k v w w', PhiD B nI dl so sn scap gl k v w → Below w.heap.size w w' → PhiD B nI dl so sn scap gl k v w' := by
  intro k v w w' h hb
  have hs := hb.size
  unfold PhiD at h ⊢
  split at h
  · obtain ⟨b, h1, h2⟩ := h
    exact ⟨b, h1, owns_below h2 hb⟩
  · obtain ⟨ao, cap, h1, h2⟩ := h
    exact ⟨ao, cap, h1, owns_below h2 hb⟩
  · obtain ⟨ao, cap, h1, h2⟩ := h
    exact ⟨ao, cap, h1, owns_below h2 hb⟩
  · obtain ⟨g, h1, h2, h3⟩ := h
    exact ⟨g, h1, h2, (hb.block g (Array.getElem?_eq_some_iff.1 h3).1).trans h3⟩
  · trivial
/-- The new code: all that was there when it was begun stays. -/
def DeadJ (V : World) (q n : Nat) (so : Option Addr) (sn scap : Nat) (gl : Int) (l : List InsP) (wr : World) : Prop :=
  ∃ ao cap, wr.heap[q]? = some (.cells #[.slice ao n cap, .slice so sn scap, .slice none 0 0, .int .i64 gl] 26 (0, 0)) ∧ wr.ownsRow V.heap.size 29 3 (.slice ao n cap) n (l.map insRow).flatten ∧ blk ao ≠ some q ∧ Below V.heap.size V wr
theorem flat_len : ∀ l : List InsP, (l.map insRow).flatten.length = l.length * 3
  | [] => rfl
  | x :: l => by rw [List.map_cons, List.flatten_cons, List.length_append, flat_len l, List.length_cons, Nat.succ_mul]; show 3 + _ = _; omega
theorem flat_one (l : List InsP) : ∀ u ∈ (l.map insRow).flatten, u.oneCell' = true := by
  intro u hu
  obtain ⟨r, hr, hur⟩ := List.mem_flatten.1 hu
  obtain ⟨x, _, rfl⟩ := List.mem_map.1 hr
  simp [insRow] at hur
  rcases hur with rfl | rfl | rfl <;> rfl
theorem own_ne {w : World} {base q n cap : Nat} {ao : Option Addr} {xs : List Value} {cs : Array Value} (h : w.ownsRow base 29 3 (.slice ao n cap) n xs) (hq : w.heap[q]? = some (.cells cs 26 (0, 0))) : blk ao ≠ some q := by
  rcases h.2 with ⟨he, _⟩ | ⟨g, cap', cur, he, _, hg, _⟩
  · cases he
    intro h
    cases h
  · cases he
    intro h
    obtain rfl : g = q := by simpa [blk] using h
    rw [hq] at hg
    simp at hg
theorem deadJ_step {V wr wa w5 : World} {q i sn scap : Nat} {gl : Int} {so ao ao2 : Option Addr} {cap cap2 : Nat} {l : List InsP} {y : InsP}
    (hr : wr.heap[q]? = some (.cells #[.slice ao i cap, .slice so sn scap, .slice none 0 0, .int .i64 gl] 26 (0, 0)))
    (hown : wr.ownsRow V.heap.size 29 3 (.slice ao i cap) i (l.map insRow).flatten) (hne : blk ao ≠ some q) (hb : Below V.heap.size V wr) (hq : V.heap.size ≤ q)
    (hba : Below wr.heap.size wr wa)
    (q1 : w5.ownsRow V.heap.size 29 3 (.slice ao2 (i + 1) cap2) (i + 1) ((l ++ [y]).map insRow).flatten) (q2 : wa.grownBy w5 (blk ao)) :
    w5.cell? ⟨q, 0, none⟩ = some (.slice ao i cap) ∧ w5.frozen? ⟨q, 0, none⟩ = false ∧ DeadJ V q (i + 1) so sn scap gl (l ++ [y]) (w5.setCell ⟨q, 0, none⟩ (.slice ao2 (i + 1) cap2)) := by
  have hao : ∀ b, blk ao = some b → V.heap.size ≤ b := fun b hb => (hown.lt b (by rw [own_slice]; exact hb)).1
  have hk5 : Keeps (fun b => blk ao = some b) wr w5 := (Keeps.of_below hba).trans' (Keeps.of_grown' q2 (fun b hb => hb))
  have hql := (Array.getElem?_eq_some_iff.1 hr).1
  have hr5 : w5.heap[q]? = _ := (hk5.block q hql hne).trans hr
  have hne2 : blk ao2 ≠ some q := own_ne q1 hr5
  have hk6 : Keeps (fun b => b = q) w5 (w5.setCell ⟨q, 0, none⟩ (.slice ao2 (i + 1) cap2)) := Keeps.of_grown (setCell_grown0 _ _ _ _) rfl
  refine ⟨cell_of_row _ _ 0 _ _ (0, 0) hr5, frozen_of_row w5 q 0 _ _ hr5, ao2, cap2, ?_, ?_, hne2, hb.trans ((hk5.below (fun i hi h => by have := hao _ h; omega) hb.size).trans (hk6.below (fun i hi h => by omega) (by have := hb.size; have := hk5.size; omega)))⟩
  · rw [setCell_row0 0 _ hr5]
    rfl
  · exact owns_keeps q1 hk6 (fun b hb h => by rw [own_slice] at hb; subst h; exact hne2 hb)
/-- The new code's functions so far: a row of its own. -/
def DeadK (V : World) (q i : Nat) (io so : Option Addr) (inn icap sn scap : Nat) (gl : Int) (l : List Int) (wr : World) : Prop :=
  ∃ ao cap, wr.heap[q]? = some (.cells #[.slice io inn icap, .slice so sn scap, .slice ao i cap, .int .i64 gl] 26 (0, 0)) ∧ wr.ownsRow V.heap.size 3 1 (.slice ao i cap) i (intsV l) ∧ Keeps (fun b => b = q ∨ V.heap.size ≤ b) V wr
theorem deadK_step {V wr wa w5 : World} {q i inn icap sn scap : Nat} {gl : Int} {io so ao ao2 : Option Addr} {cap cap2 : Nat} {l : List Int} {y : Int}
    (hr : wr.heap[q]? = some (.cells #[.slice io inn icap, .slice so sn scap, .slice ao i cap, .int .i64 gl] 26 (0, 0)))
    (hown : wr.ownsRow V.heap.size 3 1 (.slice ao i cap) i (intsV l)) (hk : Keeps (fun b => b = q ∨ V.heap.size ≤ b) V wr) (hq : q < V.heap.size) (hba : Below wr.heap.size wr wa)
    (q1 : w5.ownsRow V.heap.size 3 1 (.slice ao2 (i + 1) cap2) (i + 1) (intsV (l ++ [y]))) (q2 : wa.grownBy w5 (blk ao)) :
    w5.cell? ⟨q, 2, none⟩ = some (.slice ao i cap) ∧ w5.frozen? ⟨q, 2, none⟩ = false ∧ DeadK V q (i + 1) io so inn icap sn scap gl (l ++ [y]) (w5.setCell ⟨q, 2, none⟩ (.slice ao2 (i + 1) cap2)) := by
  have hao : ∀ b, blk ao = some b → V.heap.size ≤ b := fun b hb => (hown.lt b (by rw [own_slice]; exact hb)).1
  have hao2 : ∀ b, blk ao2 = some b → V.heap.size ≤ b := fun b hb => (q1.lt b (by rw [own_slice]; exact hb)).1
  have hk5 : Keeps (fun b => blk ao = some b) wr w5 := (Keeps.of_below hba).trans' (Keeps.of_grown' q2 (fun b hb => hb))
  have hsk := hk.size
  have hr5 : w5.heap[q]? = _ := (hk5.block q (by omega) (fun h => by have := hao _ h; omega)).trans hr
  have hk6 : Keeps (fun b => b = q) w5 (w5.setCell ⟨q, 2, none⟩ (.slice ao2 (i + 1) cap2)) := Keeps.of_grown (setCell_grown0 _ _ _ _) rfl
  refine ⟨cell_of_row _ _ 2 _ _ (0, 0) hr5, frozen_of_row w5 q 2 _ _ hr5, ao2, cap2, ?_, ?_, (hk.trans' (hk5.mono (fun b _ h => .inr (hao b h)))).trans' (hk6.mono (fun _ _ h => .inl h))⟩
  · rw [setCell_row0 2 _ hr5]
    rfl
  · exact owns_keeps q1 hk6 (fun b hb h => by rw [own_slice] at hb; have := hao2 b hb; omega)
/-- The new code, made. -/
structure EndD (w : World) (g q : Nat) (c : CodeP) (io so fo : Option Addr) (icap scap fcap : Nat) (w1 : World) : Prop where
  below : Below g w w1
  row : w1.heap[q]? = some (.cells #[.slice io c.ins.length icap, .slice so c.strs.length scap, .slice fo c.funs.length fcap, .int .i64 c.glob] 26 (0, 0))
  mem : CodeMem w1 (fun b => b < w1.heap.size) c io so fo
  tab : ShTab w1
  gs : g ≤ w1.heap.size
theorem EndD.next {w w1 w2 : World} {g q : Nat} {c : CodeP} {io so fo : Option Addr} {icap scap fcap : Nat} (h : EndD w g q c io so fo icap scap fcap w1) (hb : Below w1.heap.size w1 w2) : EndD w g q c io so fo icap scap fcap w2 :=
  ⟨h.below.trans (hb.mono h.gs), (hb.block _ (Array.getElem?_eq_some_iff.1 h.row).1).trans h.row, (h.mem.below hb).mono (fun b hb' => by have := hb.size; omega), shtab_below h.tab hb, by have := h.gs; have := hb.size; omega⟩
theorem EndD.cells {w w1 : World} {g q : Nat} {c : CodeP} {io so fo : Option Addr} {icap scap fcap : Nat} (h : EndD w g q c io so fo icap scap fcap w1) :
    w1.cell? ⟨q, 0, none⟩ = some (.slice io c.ins.length icap) ∧ w1.cell? ⟨q, 1, none⟩ = some (.slice so c.strs.length scap) ∧ w1.cell? ⟨q, 2, none⟩ = some (.slice fo c.funs.length fcap) ∧ w1.cell? ⟨q, 3, none⟩ = some (.int .i64 c.glob) :=
  ⟨cell_of_row _ _ 0 _ _ (0, 0) h.row, cell_of_row _ _ 1 _ _ (0, 0) h.row, cell_of_row _ _ 2 _ _ (0, 0) h.row, cell_of_row _ _ 3 _ _ (0, 0) h.row⟩
theorem deadX_ok (x : InsP) : 0 ≤ (deadX x).op ∧ (deadX x).op ≤ 28 ∧ (deadX x).op ≠ 12 ∧ (usesP (deadX x).op = 0 → (deadX x).a = 0) ∧ (usesP (deadX x).op ≤ 1 → (deadX x).b = 0) := by
  obtain ⟨k, hk, hke⟩ := cutmod0 x.op 29 (by decide) (by decide)
  have hke' : wrap64 ((IntKind.u64.wrap x.op).tmod 29) = (k : Int) := hke
  have ho : deadO x = if (k : Int) = 12 then 17 else (k : Int) := by unfold deadO; rw [hke']
  refine ⟨?_, ?_, ?_, fun h => ?_, fun h => ?_⟩
  · show 0 ≤ deadO x
    rw [ho]; split <;> omega
  · show deadO x ≤ 28
    rw [ho]; split <;> omega
  · show deadO x ≠ 12
    rw [ho]; split <;> omega
  · show (if usesP (deadO x) < 1 then 0 else x.a) = 0
    rw [if_pos (by have : usesP (deadO x) = 0 := h; omega)]
  · show (if usesP (deadO x) < 2 then 0 else x.b) = 0
    rw [if_pos (by have : usesP (deadO x) ≤ 1 := h; omega)]
theorem R64i.small {z : Int} (h : -1000 ≤ z) (h2 : z ≤ 1000) : R64i z := ⟨by omega, by omega⟩
theorem shift_r (x : InsP) (n : Int) (h0 : 0 ≤ n) (h1 : n ≤ 11) (hx : R64i x.op ∧ R64i x.a ∧ R64i x.b) (hs : Small x) : R64i (shiftI n x).op ∧ R64i (shiftI n x).a ∧ R64i (shiftI n x).b := by
  unfold shiftI
  split
  · rename_i h
    have := hs.1 h
    exact ⟨hx.1, R64i.small (by simp only; omega) (by simp only; omega), hx.2.2⟩
  · split
    · rename_i h
      have := hs.2 h
      exact ⟨hx.1, hx.2.1, R64i.small (by simp only; omega) (by simp only; omega)⟩
    · exact hx
theorem shiftF_get (n : Int) (f0 : Int) (fr : List Int) : shiftF n (f0 :: fr) = (if f0 = 0 then ((f0 :: fr).map (· + n)).set 0 0 else (f0 :: fr).map (· + n)) := by
  rw [shiftF]
  split
  · rfl
  · rfl
theorem all_more {l : List InsP} {i : Nat} (hi : i < l.length) {P : InsP → Prop} (h : ∀ x ∈ l.take i, P x) (hx : P l[i]) : ∀ x ∈ l.take (i + 1), P x := by
  intro x hm
  rw [List.take_succ_eq_append_getElem hi] at hm
  rcases List.mem_append.1 hm with hm | hm
  · exact h x hm
  · rw [List.mem_singleton.1 hm]
    exact hx
set_option maxRecDepth 100000 in
set_option maxHeartbeats 40000000 in
theorem walk {w : World} {c : CodeP} {io so fo do_ : Option Addr} {icap scap fcap dcap : Nat} (hmem : CodeMem w (fun b => b < w.heap.size) c io so fo) (hil : c.ins.length ≤ icap) (hic : icap ≤ 9223372036854775807) (hsl : c.strs.length ≤ scap) (hsc : scap ≤ 9223372036854775807) (hfl : c.funs.length ≤ fcap) (hfc : fcap ≤ 9223372036854775807) (hgl : R64i c.glob)
    (ds : List InsP) (hds : RowsAt w do_ 3 (ds.map insRow)) (hdb : ∀ b, blk do_ = some b → ds ≠ [] → b < w.heap.size) (hdr : ∀ x ∈ ds, R64i x.op ∧ R64i x.a ∧ R64i x.b) (hdl : ds.length ≤ 9223372036854775807) (ht : ShTab w) :
    Calls Tryd.prog 4 #[.agg #[.slice io c.ins.length icap, .slice so c.strs.length scap, .slice fo c.funs.length fcap, .int .i64 c.glob], .slice do_ ds.length dcap] w (Says w (.bool true)) := by
  obtain ⟨g, hg⟩ : ∃ g, w.heap.size = g := ⟨_, rfl⟩
  obtain ⟨W1, hW1⟩ : ∃ W1, w.alloc (.cells #[.slice io c.ins.length icap, .slice so c.strs.length scap, .slice fo c.funs.length fcap, .int .i64 c.glob] 26) = W1 := ⟨_, rfl⟩
  have hb1 : Below g w W1 := by rw [← hW1, ← hg]; exact (Below.refl _ w).alloc (Nat.le_refl _) _
  have hr1 : W1.heap[g]? = some (.cells #[.slice io c.ins.length icap, .slice so c.strs.length scap, .slice fo c.funs.length fcap, .int .i64 c.glob] 26 (0, 0)) := by rw [← hW1, ← hg]; exact heap_alloc_new w _
  have hs1 : W1.heap.size = g + 1 := by rw [← hW1, ← hg]; simp
  have hm1 : CodeMem W1 (fun b => b < g) c io so fo := (hmem.below (by rw [hg]; exact hb1)).mono (fun b hb => by omega)
  have H := Lib.hid (And.intro hb1 (And.intro hr1 (And.intro hs1 (And.intro hm1 (And.intro hW1 hg)))))
  have HF := Lib.hid (few_any hm1 (fun b hb => by omega) hil hic hsl hsc hfl hfc)
  have HD := Lib.hid (And.intro hds (And.intro hdb (And.intro hdr (And.intro hgl ht))))
  clear hb1 hr1 hs1 hm1 hW1 hmem hds hdb hdr ht hg hil hic hsl hsc hfl hfc hgl
  go_enter Tryd.func4, Tryd.ntmps4
  go_upto_region 1 with (fail)
  rw [H.out.2.2.2.2.1, H.out.2.2.2.2.2]
  have c0 : W1.cell? ⟨g, 0, none⟩ = some (.slice io c.ins.length icap) := cell_of_row _ _ 0 _ _ (0, 0) H.out.2.1
  have c1 : W1.cell? ⟨g, 1, none⟩ = some (.slice so c.strs.length scap) := cell_of_row _ _ 1 _ _ (0, 0) H.out.2.1
  have c2 : W1.cell? ⟨g, 2, none⟩ = some (.slice fo c.funs.length fcap) := cell_of_row _ _ 2 _ _ (0, 0) H.out.2.1
  have c3 : W1.cell? ⟨g, 3, none⟩ = some (.int .i64 c.glob) := cell_of_row _ _ 3 _ _ (0, 0) H.out.2.1
  go_wp2_with fail
  refine HF.out.mono ?_
  rintro e w2 ⟨hb2, io2, so2, fo2, icap2, scap2, fcap2, rfl, hm2, hil2, hsl2, hfl2⟩
  have hr2 : w2.heap[g]? = _ := (hb2.block g (by have := H.out.2.2.1; omega)).trans H.out.2.1
  have hbw2 : Below g w w2 := H.out.1.trans (hb2.mono (by have := H.out.2.2.1; omega))
  have hl60 : (fewC c).ins.length ≤ 60 := by simp only [fewC, List.length_take]; omega
  have hl10 : (fewC c).strs.length ≤ 10 := by simp only [fewC, List.length_map, List.length_take]; omega
  have hl8 : (fewC c).funs.length ≤ 8 := by simp only [fewC, List.length_take]; omega
  obtain ⟨C, hC⟩ : ∃ C, fewC c = C := ⟨_, rfl⟩
  have hgC : c.glob = C.glob := by rw [← hC]; rfl
  rw [hgC, hC]
  rw [hC] at hm2 hil2 hsl2 hfl2 hl60 hl10 hl8
  have hgl : R64i C.glob := by rw [← hgC]; exact HD.out.2.2.2.1
  have hg1 : g < w2.heap.size := (Array.getElem?_eq_some_iff.1 hr2).1
  have H2 := Lib.hid (And.intro hr2 (And.intro hbw2 (And.intro hm2 (And.intro hgl (And.intro hl60 (And.intro hl10 (And.intro hl8 (And.intro hil2 (And.intro hfl2 hg1)))))))))
  obtain ⟨d0, d1, d2, d3⟩ : w2.cell? ⟨g, 0, none⟩ = some (.slice io c.ins.length icap) ∧ w2.cell? ⟨g, 1, none⟩ = some (.slice so c.strs.length scap) ∧ w2.cell? ⟨g, 2, none⟩ = some (.slice fo c.funs.length fcap) ∧ w2.cell? ⟨g, 3, none⟩ = some (.int .i64 c.glob) := ⟨cell_of_row _ _ 0 _ _ (0, 0) hr2, cell_of_row _ _ 1 _ _ (0, 0) hr2, cell_of_row _ _ 2 _ _ (0, 0) hr2, cell_of_row _ _ 3 _ _ (0, 0) hr2⟩
  have hf2 : ∀ j, w2.frozen? ⟨g, j, none⟩ = false := fun j => frozen_of_row w2 g j _ _ hr2
  clear hb2 hr2 hbw2 hm2 hgl hl60 hl10 hl8 hil2 hsl2 hfl2 hg1 hC hgC c0 c1 c2 c3
  go_upto_region 2 with (fail)
  obtain ⟨W3, hW3⟩ : ∃ W3, ((((w2.setCell ⟨g, 0, none⟩ (.slice io2 C.ins.length icap2)).setCell ⟨g, 1, none⟩ (.slice so2 C.strs.length scap2)).setCell ⟨g, 2, none⟩ (.slice fo2 C.funs.length fcap2)).setCell ⟨g, 3, none⟩ (.int .i64 C.glob)) = W3 := ⟨_, rfl⟩
  have hk3 : Keeps (fun b => b = g) w2 W3 := by
    rw [← hW3]
    exact Keeps.setCells g [.slice io2 C.ins.length icap2, .slice so2 C.strs.length scap2, .slice fo2 C.funs.length fcap2, .int .i64 C.glob] 0 w2
  have hr3 : W3.heap[g]? = some (.cells #[.slice io2 C.ins.length icap2, .slice so2 C.strs.length scap2, .slice fo2 C.funs.length fcap2, .int .i64 C.glob] 26 (0, 0)) := by
    rw [← hW3]
    exact code_row H2.out.1 _ _ _ _
  have hs3 := hk3.size
  have hg1 := H2.out.2.2.2.2.2.2.2.2.2
  have hm3 : CodeMem W3 (fun b => b < g ∨ (g + 1 ≤ b ∧ b < W3.heap.size)) C io2 so2 fo2 := (H2.out.2.2.1.keeps hk3 (fun b hb h => by have := H.out.2.2.1; omega)).mono (fun b hb => by have := H.out.2.2.1; omega)
  have hbw3 : Below g w W3 := H2.out.2.1.trans (hk3.below (fun i hi h => by omega) (by omega))
  have ht3 : ShTab W3 := shtab_below HD.out.2.2.2.2 (by rw [H.out.2.2.2.2.2]; exact hbw3)
  rw [hW3]
  have H3 := Lib.hid (And.intro hr3 (And.intro hm3 (And.intro hbw3 (And.intro ht3 (show g < W3.heap.size by omega)))))
  clear hW3 hk3 hr3 hs3 hg1 hm3 hbw3 ht3 d0 d1 d2 d3 hf2
  go_wp2_with fail
  refine (codes_any W3 H3.out.2.2.2.1).mono ?_
  rintro e w4 ⟨rfl, hb4⟩
  have hr4 : w4.heap[g]? = _ := (hb4.block g H3.out.2.2.2.2).trans H3.out.1
  have hm4 : CodeMem w4 (fun b => b < g ∨ (g + 1 ≤ b ∧ b < W3.heap.size)) C io2 so2 fo2 := H3.out.2.1.below hb4
  have hbw4 : Below g w w4 := H3.out.2.2.1.trans (hb4.mono (by have := H3.out.2.2.2.2; omega))
  have hs4 := hb4.size
  have ht4 := shtab_below H3.out.2.2.2.1 hb4
  obtain ⟨d0, d1, d2, d3⟩ : w4.cell? ⟨g, 0, none⟩ = _ ∧ w4.cell? ⟨g, 1, none⟩ = _ ∧ w4.cell? ⟨g, 2, none⟩ = _ ∧ w4.cell? ⟨g, 3, none⟩ = _ := ⟨cell_of_row _ _ 0 _ _ (0, 0) hr4, cell_of_row _ _ 1 _ _ (0, 0) hr4, cell_of_row _ _ 2 _ _ (0, 0) hr4, cell_of_row _ _ 3 _ _ (0, 0) hr4⟩
  have H4 := Lib.hid (And.intro hr4 (And.intro hm4 (And.intro hbw4 (And.intro ht4 hs4))))
  clear hb4 hr4 hm4 hbw4 ht4 hs4
  go_wp2_with fail
  refine (right_any (H4.out.2.1.mono (fun b hb => by have := H4.out.2.2.2.2; have := H3.out.2.2.2.2; omega)) (by have := H2.out.2.2.2.2.1; omega) (by have := H2.out.2.2.2.2.2.1; omega) (by have := H2.out.2.2.2.2.2.2.1; omega)).mono ?_
  rintro e w5 ⟨hb5, hres⟩
  have hr5 : w5.heap[g]? = _ := (hb5.block g (Array.getElem?_eq_some_iff.1 H4.out.1).1).trans H4.out.1
  have hm5 := H4.out.2.1.below hb5
  have hs5 := hb5.size
  have hbw5 : Below g w w5 := H4.out.2.2.1.trans (hb5.mono (by have := H3.out.2.2.2.2; have := H4.out.2.2.2.2; omega))
  have ht5 := shtab_below H4.out.2.2.2.1 hb5
  have H5 := Lib.hid (And.intro hr5 (And.intro hm5 (And.intro hbw5 (And.intro ht5 (show W3.heap.size ≤ w5.heap.size by have := H4.out.2.2.2.2; omega)))))
  clear hb5 hr5 hm5 hs5 hbw5 ht5 d0 d1 d2 d3
  rcases hres with ⟨ho, rfl⟩ | ⟨hno, rfl⟩
  rotate_left
  · clear hno
    go_wp2_with fail
    refine (codes_any w5 H5.out.2.2.2.1).mono ?_
    rintro e w6 ⟨rfl, hb6⟩
    have HB6 := Lib.hid (H5.out.2.2.1.trans (hb6.mono (by have := H5.out.2.2.2.2; have := H3.out.2.2.2.2; omega)))
    clear hb6
    go_wp2_with fail
    go_ret
    exact ⟨rfl, by rw [H.out.2.2.2.2.2]; exact HB6.out⟩
  have HO := Lib.hid ho
  clear ho
  go_upto_block 0 with (fail)
  obtain ⟨h, hh⟩ : ∃ h, w5.heap.size = h := ⟨_, rfl⟩
  obtain ⟨W6, hW6⟩ : ∃ W6, w5.alloc (.cells #[.slice none 0 0, .slice none 0 0, .slice none 0 0, .int .i64 0] 26) = W6 := ⟨_, rfl⟩
  have hb6 : Below h w5 W6 := by rw [← hW6, ← hh]; exact (Below.refl _ w5).alloc (Nat.le_refl _) _
  have hr6 : W6.heap[h]? = some (.cells #[.slice none 0 0, .slice none 0 0, .slice none 0 0, .int .i64 0] 26 (0, 0)) := by rw [← hW6, ← hh]; exact heap_alloc_new w5 _
  have hs6 : W6.heap.size = h + 1 := by rw [← hW6, ← hh]; simp
  have hgh : g < h := by rw [← hh]; have := H5.out.2.2.2.2; have := H3.out.2.2.2.2; omega
  have hrg6 : W6.heap[g]? = _ := (hb6.block g hgh).trans H5.out.1
  have hm6 : CodeMem W6 (fun b => b < g ∨ (g + 1 ≤ b ∧ b < h)) C io2 so2 fo2 := (H5.out.2.1.below (by rw [hh]; exact hb6)).mono (fun b hb => by have := H5.out.2.2.2.2; omega)
  have hbw6 : Below g w W6 := H5.out.2.2.1.trans (hb6.mono (by omega))
  have hds6 : RowsAt W6 do_ 3 (ds.map insRow) := HD.out.1.keeps (X := fun b => g ≤ b) ⟨hbw6.os, hbw6.tape, hbw6.output, by have := H.out.2.2.2.2.2; omega, fun k hk hne => hbw6.block k (by omega)⟩ (fun b hb hne => by have := HD.out.2.1 b hb (fun e => hne (by rw [e]; rfl)); have := H.out.2.2.2.2.2; omega)
  have ht6 := shtab_below H5.out.2.2.2.1 (by rw [hh]; exact hb6)
  rw [hW6, hh]
  have H6 := Lib.hid (And.intro hr6 (And.intro hs6 (And.intro hgh (And.intro hrg6 (And.intro hm6 (And.intro hbw6 (And.intro hds6 ht6)))))))
  clear hW6 hh hb6 hr6 hs6 hgh hrg6 hm6 hbw6 hds6 ht6
  go_cut [6, 7] from 25 to 64 (fun _ _ w' => DeadI W6 h (ds.take 10).length none 0 0 0 ((ds.take 10).map deadX) w')
  case first =>
    -- CUT L1
    go_wp2_with fail
    go_loopw [6] (fun v6 wr => ∃ i : Nat, i ≤ ds.length ∧ i ≤ 10 ∧ v6 = .int .i64 (i : Int) ∧ DeadI W6 h i none 0 0 0 ((ds.take i).map deadX) wr) (fun v6 _ => 10 - (intOf v6).toNat)
    case atStart => exact ⟨0, by omega, by omega, rfl, none, 0, H6.out.1, World.ownsRow_nil _ _ _ _, Keeps.refl _ _⟩
    case round =>
      obtain ⟨i, hi, hi10, rfl, hm⟩ := hrel
      have HMM := Lib.hid hm
      obtain ⟨ao, cap, hr, hown, hk⟩ := hm
      have hs1 := H6.out.2.1
      have hgh := H6.out.2.2.1
      have hsk := hk.size
      have HM := Lib.hid (And.intro hr (And.intro hown (And.intro hk hs1)))
      by_cases hlt : i < ds.length ∧ i < 10
      · obtain ⟨hlt, hl10⟩ := hlt
        have hd1 : decide ((i : Int) < (ds.length : Int)) = true := decide_eq_true (by omega)
        have hd2 : decide ((i : Int) < 10) = true := decide_eq_true (by omega)
        have hdsr : RowsAt wr do_ 3 (ds.map insRow) := H6.out.2.2.2.2.2.2.1.keeps hk (fun b hb hne hx => by have := HD.out.2.1 b hb (fun e => hne (by rw [e]; rfl)); have := H.out.2.2.2.2.2; omega)
        obtain ⟨db, di, rfl, e0, e1, e2⟩ := insRows hdsr i hlt
        obtain ⟨x, hx⟩ : ∃ x, ds[i] = x := ⟨_, rfl⟩
        rw [hx] at e0 e1 e2
        have HX := Lib.hid (show (ds.take (i + 1)).map deadX = (ds.take i).map deadX ++ [deadX x] by rw [← hx, List.take_succ_eq_append_getElem hlt, List.map_append]; rfl)
        obtain ⟨k, hk29, hke⟩ := cutmod0 x.op 29 (by decide) (by decide)
        have hke' : wrap64 ((IntKind.u64.wrap x.op).tmod 29) = (k : Int) := hke
        have HK := Lib.hid hke'
        obtain ⟨op, a, b⟩ := x
        simp only at e0 e1 e2 hke'
        clear hr hown hk hdsr hx hke
-- ARMS1
        -- CUT A1
        by_cases k12 : k = 12
        · subst k12
          have hk2 : wrap64 ((IntKind.u64.wrap op).tmod 29) = 12 := hke'
          have HKN := Lib.hid (show (12 : Int) = 12 from rfl)
          have hu : usesP 17 = 0 := by decide
          clear hke'
          have c0 : wr.cell? ⟨h, 0, none⟩ = some (.slice ao i cap) := cell_of_row _ _ 0 _ _ (0, 0) HM.out.1
          as_aux_lemma =>
            have HU := Lib.hid hu
            clear hu
            go_wp2_with fail
            refine (uses_any 17 (by omega) (by omega) _).mono ?_
            rintro e w1 ⟨rfl, rfl⟩
            rw [HU.out]
            go_wp2_with fail
            refine (uses_any 17 (by omega) (by omega) _).mono ?_
            rintro e w1 ⟨rfl, rfl⟩
            rw [HU.out]
            have hba : Below wr.heap.size wr ((wr.alloc (.cells #[.int .i64 17, .int .i64 0, .int .i64 0] 29)).alloc (.cells #[.int .i64 17, .int .i64 0, .int .i64 0] 29)) := ((Below.refl _ wr).alloc (Nat.le_refl _) _).alloc (by simp) _
            have HBA := Lib.hid hba
            have c0a : (wr.alloc (.cells #[.int .i64 17, .int .i64 0, .int .i64 0] 29)).cell? ⟨h, 0, none⟩ = some (.slice ao i cap) := (World.cell?_of_block (a := ⟨h, 0, none⟩) (Below.heap_alloc wr _ h (by omega))).trans c0
            clear hba
            go_wp2_with (refine app_insR rfl _ _ rfl W6.heap.size ao cap i _ rfl (owns_below HM.out.2.1 HBA.out) ⟨17, 0, 0⟩ (wr.heap.size + 1) rfl (At.newk (wr.alloc (.cells #[.int .i64 17, .int .i64 0, .int .i64 0] 29)) #[.int .i64 17, .int .i64 0, .int .i64 0] _ (0, 0) (by simp)) (by omega) (by simp; omega) ?_; rintro ao2 cap2 w5' q1 q2 q3; have hm5 := deadI_step HM.out.1 HM.out.2.1 HM.out.2.2.1 (by omega) HBA.out q1 q2; have c5 : w5'.cell? ⟨h, 0, none⟩ = some (.slice ao i cap) := hm5.1; have f5 : w5'.frozen? ⟨h, 0, none⟩ = false := hm5.2.1; have HN := Lib.hid hm5.2.2; clear q1 q2 q3 hm5)
            go_roundw
            case rel =>
              refine ⟨i + 1, by omega, by omega, by simp, ?_⟩
              rw [HX.out, show deadX ⟨op, a, b⟩ = ⟨17, 0, 0⟩ by simp [deadX, deadO, HK.out, HKN.out, HU.out]]
              exact HN.out
            case measure => simp [intOf]; omega
        have HKN := Lib.hid (show ¬ ((k : Int) = 12) by omega)
        have hd12 : decide ((k : Int) = 12) = false := decide_eq_false HKN.out
        have hb12 : ((k : Int) == 12) = false := by simp; omega
        have c0 : wr.cell? ⟨h, 0, none⟩ = some (.slice ao i cap) := cell_of_row _ _ 0 _ _ (0, 0) HM.out.1
        have huc : usesP (k : Int) = 0 ∨ usesP (k : Int) = 1 ∨ usesP (k : Int) = 2 := by unfold usesP; split; exact .inl rfl; split; exact .inr (.inr rfl); exact .inr (.inl rfl)
        rcases huc with hu | hu | hu
        · as_aux_lemma =>
            have HU := Lib.hid hu
            clear hu
            go_wp2_with fail
            refine (uses_any (k : Int) (by omega) (by omega) _).mono ?_
            rintro e w1 ⟨rfl, rfl⟩
            rw [HU.out]
            go_wp2_with fail
            refine (uses_any (k : Int) (by omega) (by omega) _).mono ?_
            rintro e w1 ⟨rfl, rfl⟩
            rw [HU.out]
            have hba : Below wr.heap.size wr ((wr.alloc (.cells #[.int .i64 (k : Int), .int .i64 0, .int .i64 0] 29)).alloc (.cells #[.int .i64 (k : Int), .int .i64 0, .int .i64 0] 29)) := ((Below.refl _ wr).alloc (Nat.le_refl _) _).alloc (by simp) _
            have HBA := Lib.hid hba
            have c0a : (wr.alloc (.cells #[.int .i64 (k : Int), .int .i64 0, .int .i64 0] 29)).cell? ⟨h, 0, none⟩ = some (.slice ao i cap) := (World.cell?_of_block (a := ⟨h, 0, none⟩) (Below.heap_alloc wr _ h (by omega))).trans c0
            clear hba
            go_wp2_with (refine app_insR rfl _ _ rfl W6.heap.size ao cap i _ rfl (owns_below HM.out.2.1 HBA.out) ⟨(k : Int), 0, 0⟩ (wr.heap.size + 1) rfl (At.newk (wr.alloc (.cells #[.int .i64 (k : Int), .int .i64 0, .int .i64 0] 29)) #[.int .i64 (k : Int), .int .i64 0, .int .i64 0] _ (0, 0) (by simp)) (by omega) (by simp; omega) ?_; rintro ao2 cap2 w5' q1 q2 q3; have hm5 := deadI_step HM.out.1 HM.out.2.1 HM.out.2.2.1 (by omega) HBA.out q1 q2; have c5 : w5'.cell? ⟨h, 0, none⟩ = some (.slice ao i cap) := hm5.1; have f5 : w5'.frozen? ⟨h, 0, none⟩ = false := hm5.2.1; have HN := Lib.hid hm5.2.2; clear q1 q2 q3 hm5)
            go_roundw
            case rel =>
              refine ⟨i + 1, by omega, by omega, by simp, ?_⟩
              rw [HX.out, show deadX ⟨op, a, b⟩ = ⟨(k : Int), 0, 0⟩ by simp [deadX, deadO, HK.out, HKN.out, HU.out]]
              exact HN.out
            case measure => simp [intOf]; omega
        · as_aux_lemma =>
            have HU := Lib.hid hu
            clear hu
            go_wp2_with fail
            refine (uses_any (k : Int) (by omega) (by omega) _).mono ?_
            rintro e w1 ⟨rfl, rfl⟩
            rw [HU.out]
            go_wp2_with fail
            refine (uses_any (k : Int) (by omega) (by omega) _).mono ?_
            rintro e w1 ⟨rfl, rfl⟩
            rw [HU.out]
            have hba : Below wr.heap.size wr ((wr.alloc (.cells #[.int .i64 (k : Int), .int .i64 a, .int .i64 0] 29)).alloc (.cells #[.int .i64 (k : Int), .int .i64 a, .int .i64 0] 29)) := ((Below.refl _ wr).alloc (Nat.le_refl _) _).alloc (by simp) _
            have HBA := Lib.hid hba
            have c0a : (wr.alloc (.cells #[.int .i64 (k : Int), .int .i64 a, .int .i64 0] 29)).cell? ⟨h, 0, none⟩ = some (.slice ao i cap) := (World.cell?_of_block (a := ⟨h, 0, none⟩) (Below.heap_alloc wr _ h (by omega))).trans c0
            clear hba
            go_wp2_with (refine app_insR rfl _ _ rfl W6.heap.size ao cap i _ rfl (owns_below HM.out.2.1 HBA.out) ⟨(k : Int), a, 0⟩ (wr.heap.size + 1) rfl (At.newk (wr.alloc (.cells #[.int .i64 (k : Int), .int .i64 a, .int .i64 0] 29)) #[.int .i64 (k : Int), .int .i64 a, .int .i64 0] _ (0, 0) (by simp)) (by omega) (by simp; omega) ?_; rintro ao2 cap2 w5' q1 q2 q3; have hm5 := deadI_step HM.out.1 HM.out.2.1 HM.out.2.2.1 (by omega) HBA.out q1 q2; have c5 : w5'.cell? ⟨h, 0, none⟩ = some (.slice ao i cap) := hm5.1; have f5 : w5'.frozen? ⟨h, 0, none⟩ = false := hm5.2.1; have HN := Lib.hid hm5.2.2; clear q1 q2 q3 hm5)
            go_roundw
            case rel =>
              refine ⟨i + 1, by omega, by omega, by simp, ?_⟩
              rw [HX.out, show deadX ⟨op, a, b⟩ = ⟨(k : Int), a, 0⟩ by simp [deadX, deadO, HK.out, HKN.out, HU.out]]
              exact HN.out
            case measure => simp [intOf]; omega
        · as_aux_lemma =>
            have HU := Lib.hid hu
            clear hu
            go_wp2_with fail
            refine (uses_any (k : Int) (by omega) (by omega) _).mono ?_
            rintro e w1 ⟨rfl, rfl⟩
            rw [HU.out]
            go_wp2_with fail
            refine (uses_any (k : Int) (by omega) (by omega) _).mono ?_
            rintro e w1 ⟨rfl, rfl⟩
            rw [HU.out]
            have hba : Below wr.heap.size wr ((wr.alloc (.cells #[.int .i64 (k : Int), .int .i64 a, .int .i64 b] 29)).alloc (.cells #[.int .i64 (k : Int), .int .i64 a, .int .i64 b] 29)) := ((Below.refl _ wr).alloc (Nat.le_refl _) _).alloc (by simp) _
            have HBA := Lib.hid hba
            have c0a : (wr.alloc (.cells #[.int .i64 (k : Int), .int .i64 a, .int .i64 b] 29)).cell? ⟨h, 0, none⟩ = some (.slice ao i cap) := (World.cell?_of_block (a := ⟨h, 0, none⟩) (Below.heap_alloc wr _ h (by omega))).trans c0
            clear hba
            go_wp2_with (refine app_insR rfl _ _ rfl W6.heap.size ao cap i _ rfl (owns_below HM.out.2.1 HBA.out) ⟨(k : Int), a, b⟩ (wr.heap.size + 1) rfl (At.newk (wr.alloc (.cells #[.int .i64 (k : Int), .int .i64 a, .int .i64 b] 29)) #[.int .i64 (k : Int), .int .i64 a, .int .i64 b] _ (0, 0) (by simp)) (by omega) (by simp; omega) ?_; rintro ao2 cap2 w5' q1 q2 q3; have hm5 := deadI_step HM.out.1 HM.out.2.1 HM.out.2.2.1 (by omega) HBA.out q1 q2; have c5 : w5'.cell? ⟨h, 0, none⟩ = some (.slice ao i cap) := hm5.1; have f5 : w5'.frozen? ⟨h, 0, none⟩ = false := hm5.2.1; have HN := Lib.hid hm5.2.2; clear q1 q2 q3 hm5)
            go_roundw
            case rel =>
              refine ⟨i + 1, by omega, by omega, by simp, ?_⟩
              rw [HX.out, show deadX ⟨op, a, b⟩ = ⟨(k : Int), a, b⟩ by simp [deadX, deadO, HK.out, HKN.out, HU.out]]
              exact HN.out
            case measure => simp [intOf]; omega
        -- END A1
-- ARMS1 END
      · have hend : i = (ds.take 10).length ∧ ds.take i = ds.take 10 := by
          rw [List.length_take]
          rcases Nat.lt_or_ge ds.length 10 with h | h
          · exact ⟨by omega, by rw [show i = ds.length by omega, List.take_length, List.take_of_length_le (by omega)]⟩
          · exact ⟨by omega, by rw [show i = 10 by omega]⟩
        have hE : DeadI W6 h (ds.take 10).length none 0 0 0 ((ds.take 10).map deadX) wr := by
          rw [← hend.1, ← hend.2]
          exact HMM.out
        have HE := Lib.hid hE
        clear hend hE hr hown hk
        by_cases h1 : i < ds.length
        · have hd1 : decide ((i : Int) < (ds.length : Int)) = true := decide_eq_true (by omega)
          have hd2 : decide ((i : Int) < 10) = false := decide_eq_false (by omega)
          clear hlt
          go_wp2_with fail
          go_meet
          case rel => exact HE.out
        · have hd1 : decide ((i : Int) < (ds.length : Int)) = false := decide_eq_false (by omega)
          clear hlt
          go_wp2_with fail
          go_meet
          case rel => exact HE.out
    -- END L1
  case rest =>
    obtain ⟨dl, hdl⟩ : ∃ dl, (ds.take 10).map deadX = dl := ⟨_, rfl⟩
    have hdn : (ds.take 10).length = dl.length := by rw [← hdl]; simp
    rw [hdl, hdn] at hcut
    have hdl10 : dl.length ≤ 10 := by rw [← hdn, List.length_take]; omega
    obtain ⟨ao, acap, hrh, hown, hk⟩ := hcut
    have hs6 := H6.out.2.1
    have hsk := hk.size
    have hgh := H6.out.2.2.1
    have hbc : Below g w wc := H6.out.2.2.2.2.2.1.trans (hk.below (fun i hi h => by omega) (by omega))
    have hrg : wc.heap[g]? = _ := (hk.block g (by omega) (fun h => by omega)).trans H6.out.2.2.2.1
    have hmc : CodeMem wc (fun b => b < g ∨ (g + 1 ≤ b ∧ b < h)) C io2 so2 fo2 := H6.out.2.2.2.2.1.keeps hk (fun b hb h => by omega)
    have htc : ShTab wc := shtab_below HD.out.2.2.2.2 (by rw [H.out.2.2.2.2.2]; exact hbc)
    have HCC := Lib.hid (And.intro hbc (And.intro hrg (And.intro hmc (And.intro htc (And.intro hrh (And.intro hown (And.intro (show h + 1 ≤ wc.heap.size by omega) (And.intro hgh (And.intro hdl hdl10)))))))))
    clear hdl hdn hdl10 hrh hown hk hsk hbc hrg hmc htc
    go_upto_block 2 with (fail)
    go_cut [8, 9] from 65 to 160 (fun _ _ w' => Below wc.heap.size wc w' ∧ ∀ x ∈ C.ins, Small x)
    case first =>
      -- CUT L2
      go_wp2_with fail
      go_loopw [8] (fun v8 wr => ∃ i : Nat, i ≤ C.ins.length ∧ v8 = .int .i64 (i : Int) ∧ Below wc.heap.size wc wr ∧ ∀ x ∈ C.ins.take i, Small x) (fun v8 _ => 70 - (intOf v8).toNat)
      case atStart => exact ⟨0, by omega, rfl, Below.refl _ _, by simp⟩
      case round =>
        obtain ⟨i, hi, rfl, hbr, hall⟩ := hrel
        have hsr := hbr.size
        have hsz := HCC.out.2.2.2.2.2.2.1
        have hrgr : wr.heap[g]? = _ := (hbr.block g (by omega)).trans HCC.out.2.1
        have hmr := HCC.out.2.2.1.below hbr
        have hl60 := H2.out.2.2.2.2.1
        have k0 : wr.cell? ⟨g, 0, none⟩ = some (.slice io2 C.ins.length icap2) := cell_of_row _ _ 0 _ _ (0, 0) hrgr
        have HR := Lib.hid (And.intro hbr (And.intro hall (And.intro hrgr hmr)))
        by_cases hlt : i < C.ins.length
        · have hd1 : decide ((i : Int) < (C.ins.length : Int)) = true := decide_eq_true (by omega)
          obtain ⟨ib, ii, rfl, e0, e1, e2⟩ := hmr.insAt i hlt
          obtain ⟨x, hx⟩ : ∃ x, C.ins[i] = x := ⟨_, rfl⟩
          rw [hx] at e0 e1 e2
          have HX := Lib.hid (show Small x → ∀ y ∈ C.ins.take (i + 1), Small y from fun h => all_more hlt hall (by rw [hx]; exact h))
          obtain ⟨f0, fr, hfs⟩ : ∃ f0 fr, C.funs = f0 :: fr := by
            have hp := HO.out.1.f1
            cases hf : C.funs with
            | nil => rw [hf] at hp; simp at hp
            | cons a r => exact ⟨a, r, rfl⟩
          obtain ⟨fb, fi, rfl, f00⟩ := hmr.funs.exv 0 (by rw [hfs]; simp [intsV])
          have hfl0 : 0 < C.funs.length := by rw [hfs]; simp
          have hce : (intsV C.funs)[0]'(by rw [hfs]; simp [intsV]) = .int .i64 f0 := by simp [intsV, hfs]
          rw [hce] at f00
          have hbA : Below wr.heap.size wr (wr.alloc (.cells #[.int .i64 x.op, .int .i64 x.a, .int .i64 x.b] 29)) := (Below.refl _ wr).alloc (Nat.le_refl _) _
          have hrx : (wr.alloc (.cells #[.int .i64 x.op, .int .i64 x.a, .int .i64 x.b] 29)).heap[wr.heap.size]? = some (.cells #[.int .i64 x.op, .int .i64 x.a, .int .i64 x.b] 29 (0, 0)) := heap_alloc_new wr _
          have HA := Lib.hid (And.intro (hbr.trans (hbA.mono hsr)) (And.intro (show (wr.alloc (.cells #[.int .i64 x.op, .int .i64 x.a, .int .i64 x.b] 29)).drew.cell? ⟨wr.heap.size, 0, none⟩ = some (.int .i64 x.op) from cell_of_row _ _ 0 _ _ (0, 0) hrx) (And.intro (show (wr.alloc (.cells #[.int .i64 x.op, .int .i64 x.a, .int .i64 x.b] 29)).drew.cell? ⟨wr.heap.size, 1, none⟩ = some (.int .i64 x.a) from cell_of_row _ _ 1 _ _ (0, 0) hrx) (And.intro (show (wr.alloc (.cells #[.int .i64 x.op, .int .i64 x.a, .int .i64 x.b] 29)).drew.cell? ⟨wr.heap.size, 2, none⟩ = some (.int .i64 x.b) from cell_of_row _ _ 2 _ _ (0, 0) hrx) (And.intro (show (wr.alloc (.cells #[.int .i64 x.op, .int .i64 x.a, .int .i64 x.b] 29)).drew.cell? ⟨g, 2, none⟩ = some (.slice (some ⟨fb, fi, none⟩) C.funs.length fcap2) from (World.cell?_of_block (a := ⟨g, 2, none⟩) (hbA.block g (by omega))).trans (cell_of_row _ _ 2 _ _ (0, 0) hrgr)) (show (wr.alloc (.cells #[.int .i64 x.op, .int .i64 x.a, .int .i64 x.b] 29)).drew.cell? ⟨fb, fi + 0, none⟩ = some (.int .i64 f0) from (World.cell?_of_block (a := ⟨fb, fi + 0, none⟩) (hbA.block fb (World.block_lt_of_cell? (a := ⟨fb, fi + 0, none⟩) wr f00))).trans f00))))))
          obtain ⟨op, a, b⟩ := x
          simp only at e0 e1 e2
          clear hbr hall hrgr hmr hx hfs f00 hce hbA hrx
-- ARMS2
          by_cases o15 : op = 15
          · subst o15
            by_cases hneg : a < 0
            · have hdn : decide (a < 0) = true := decide_eq_true hneg
              as_aux_lemma =>
                go_wp2_with fail
                go_ret
                exact ⟨rfl, by rw [H.out.2.2.2.2.2]; exact HCC.out.1.trans (HA.out.1.mono (by omega))⟩
            have hdn : decide (a < 0) = false := decide_eq_false hneg
            by_cases hbig : 60 < a
            · have hdb : decide (60 < a) = true := decide_eq_true hbig
              as_aux_lemma =>
                go_wp2_with fail
                go_ret
                exact ⟨rfl, by rw [H.out.2.2.2.2.2]; exact HCC.out.1.trans (HA.out.1.mono (by omega))⟩
            have hdb : decide (60 < a) = false := decide_eq_false hbig
            by_cases hf : a = f0
            · subst hf
              as_aux_lemma =>
                -- CUT B1
                go_wp2_with fail
                refine seq_start (by kernel_rfl) ?_
                refine seq_take 0 (v := ?_) rfl (by kernel_rfl) (fun _ _ _ h => h) (by rfl) (fun w' hw' => ?_) ?_
                rotate_left
                · go_simp; try with_reducible rfl
                try simp only [List.getElem_toArray, List.getElem_cons_succ, List.getElem_cons_zero, Act.put, List.setIfInBounds_toArray, List.set_cons_zero, List.set_cons_succ]
                refine seq_take 1 rfl (by kernel_rfl) (fun _ _ _ h => h) (by rfl) (seq_ldi rfl rfl (HA.out.2.1)) ?_
                try simp only [List.getElem_toArray, List.getElem_cons_succ, List.getElem_cons_zero, Act.put, List.setIfInBounds_toArray, List.set_cons_zero, List.set_cons_succ]
                refine seq_take 2 (v := ?_) rfl (by kernel_rfl) (fun _ _ _ h => h) (by rfl) (fun w' hw' => ?_) ?_
                rotate_left
                · go_simp; try with_reducible rfl
                try simp only [List.getElem_toArray, List.getElem_cons_succ, List.getElem_cons_zero, Act.put, List.setIfInBounds_toArray, List.set_cons_zero, List.set_cons_succ]
                refine seq_take 3 (v := ?_) rfl (by kernel_rfl) (fun _ _ _ h => h) (by rfl) (fun w' hw' => ?_) ?_
                rotate_left
                · go_simp; try with_reducible rfl
                try simp only [List.getElem_toArray, List.getElem_cons_succ, List.getElem_cons_zero, Act.put, List.setIfInBounds_toArray, List.set_cons_zero, List.set_cons_succ]
                refine seq_skip 4 rfl (by kernel_rfl) (fun _ _ _ h => h) (by rfl) ?_
                try simp only [List.getElem_toArray, List.getElem_cons_succ, List.getElem_cons_zero, Act.put, List.setIfInBounds_toArray, List.set_cons_zero, List.set_cons_succ]
                refine seq_skip 5 rfl (by kernel_rfl) (fun _ _ _ h => h) (by rfl) ?_
                try simp only [List.getElem_toArray, List.getElem_cons_succ, List.getElem_cons_zero, Act.put, List.setIfInBounds_toArray, List.set_cons_zero, List.set_cons_succ]
                refine seq_skip 6 rfl (by kernel_rfl) (fun _ _ _ h => h) (by rfl) ?_
                try simp only [List.getElem_toArray, List.getElem_cons_succ, List.getElem_cons_zero, Act.put, List.setIfInBounds_toArray, List.set_cons_zero, List.set_cons_succ]
                refine seq_take 7 (v := ?_) rfl (by kernel_rfl) (fun _ _ _ h => h) (by rfl) (fun w' hw' => ?_) ?_
                rotate_left
                · go_simp; try with_reducible rfl
                try simp only [List.getElem_toArray, List.getElem_cons_succ, List.getElem_cons_zero, Act.put, List.setIfInBounds_toArray, List.set_cons_zero, List.set_cons_succ]
                refine seq_take 8 (v := ?_) rfl (by kernel_rfl) (fun _ _ _ h => h) (by rfl) (fun w' hw' => ?_) ?_
                rotate_left
                · go_simp; try with_reducible rfl
                try simp only [List.getElem_toArray, List.getElem_cons_succ, List.getElem_cons_zero, Act.put, List.setIfInBounds_toArray, List.set_cons_zero, List.set_cons_succ]
                refine seq_skip 9 rfl (by kernel_rfl) (fun _ _ _ h => h) (by rfl) ?_
                try simp only [List.getElem_toArray, List.getElem_cons_succ, List.getElem_cons_zero, Act.put, List.setIfInBounds_toArray, List.set_cons_zero, List.set_cons_succ]
                refine seq_skip 10 rfl (by kernel_rfl) (fun _ _ _ h => h) (by rfl) ?_
                try simp only [List.getElem_toArray, List.getElem_cons_succ, List.getElem_cons_zero, Act.put, List.setIfInBounds_toArray, List.set_cons_zero, List.set_cons_succ]
                refine seq_skip 11 rfl (by kernel_rfl) (fun _ _ _ h => h) (by rfl) ?_
                try simp only [List.getElem_toArray, List.getElem_cons_succ, List.getElem_cons_zero, Act.put, List.setIfInBounds_toArray, List.set_cons_zero, List.set_cons_succ]
                refine seq_take 12 (v := ?_) rfl (by kernel_rfl) (fun _ _ _ h => h) (by rfl) (fun w' hw' => ?_) ?_
                rotate_left
                · go_simp; try with_reducible rfl
                try simp only [List.getElem_toArray, List.getElem_cons_succ, List.getElem_cons_zero, Act.put, List.setIfInBounds_toArray, List.set_cons_zero, List.set_cons_succ]
                refine seq_take 13 (v := ?_) rfl (by kernel_rfl) (fun _ _ _ h => h) (by rfl) (fun w' hw' => ?_) ?_
                rotate_left
                · go_simp; try with_reducible rfl
                try simp only [List.getElem_toArray, List.getElem_cons_succ, List.getElem_cons_zero, Act.put, List.setIfInBounds_toArray, List.set_cons_zero, List.set_cons_succ]
                refine seq_take 14 (v := ?_) rfl (by kernel_rfl) (fun _ _ _ h => h) (by rfl) (fun w' hw' => ?_) ?_
                rotate_left
                · go_simp; try with_reducible rfl
                try simp only [List.getElem_toArray, List.getElem_cons_succ, List.getElem_cons_zero, Act.put, List.setIfInBounds_toArray, List.set_cons_zero, List.set_cons_succ]
                refine seq_take 15 rfl (by kernel_rfl) (fun _ _ _ h => h) (by rfl) (seq_ldi rfl rfl (HA.out.2.2.1)) ?_
                try simp only [List.getElem_toArray, List.getElem_cons_succ, List.getElem_cons_zero, Act.put, List.setIfInBounds_toArray, List.set_cons_zero, List.set_cons_succ]
                refine seq_take 16 (v := ?_) rfl (by kernel_rfl) (fun _ _ _ h => h) (by rfl) (fun w' hw' => ?_) ?_
                rotate_left
                · go_simp; try with_reducible rfl
                try simp only [List.getElem_toArray, List.getElem_cons_succ, List.getElem_cons_zero, Act.put, List.setIfInBounds_toArray, List.set_cons_zero, List.set_cons_succ]
                refine seq_take 17 rfl (by kernel_rfl) (fun _ _ _ h => h) (by rfl) (seq_ldII rfl rfl (HA.out.2.2.2.2.1)) ?_
                try simp only [List.getElem_toArray, List.getElem_cons_succ, List.getElem_cons_zero, Act.put, List.setIfInBounds_toArray, List.set_cons_zero, List.set_cons_succ]
                refine seq_take 18 (v := ?_) rfl (by kernel_rfl) (fun _ _ _ h => h) (by rfl) (fun w' hw' => ?_) ?_
                rotate_left
                · go_simp; try with_reducible rfl
                try simp only [List.getElem_toArray, List.getElem_cons_succ, List.getElem_cons_zero, Act.put, List.setIfInBounds_toArray, List.set_cons_zero, List.set_cons_succ]
                refine seq_take 19 rfl (by kernel_rfl) (fun _ _ _ h => h) (by rfl) (seq_ldi rfl rfl (HA.out.2.2.2.2.2)) ?_
                try simp only [List.getElem_toArray, List.getElem_cons_succ, List.getElem_cons_zero, Act.put, List.setIfInBounds_toArray, List.set_cons_zero, List.set_cons_succ]
                refine seq_take 20 (v := ?_) rfl (by kernel_rfl) (fun _ _ _ h => h) (by rfl) (fun w' hw' => ?_) ?_
                rotate_left
                · go_simp; try with_reducible rfl
                try simp only [List.getElem_toArray, List.getElem_cons_succ, List.getElem_cons_zero, Act.put, List.setIfInBounds_toArray, List.set_cons_zero, List.set_cons_succ]
                refine seq_take 21 (v := ?_) rfl (by kernel_rfl) (fun _ _ _ h => h) (by rfl) (fun w' hw' => ?_) ?_
                rotate_left
                · go_simp; try with_reducible rfl
                try simp only [List.getElem_toArray, List.getElem_cons_succ, List.getElem_cons_zero, Act.put, List.setIfInBounds_toArray, List.set_cons_zero, List.set_cons_succ]
                refine seq_take 22 (v := ?_) rfl (by kernel_rfl) (fun _ _ _ h => h) (by rfl) (fun w' hw' => ?_) ?_
                rotate_left
                · go_simp; try with_reducible rfl
                try simp only [List.getElem_toArray, List.getElem_cons_succ, List.getElem_cons_zero, Act.put, List.setIfInBounds_toArray, List.set_cons_zero, List.set_cons_succ]
                refine seq_skip 23 rfl (by kernel_rfl) (fun _ _ _ h => h) (by rfl) ?_
                try simp only [List.getElem_toArray, List.getElem_cons_succ, List.getElem_cons_zero, Act.put, List.setIfInBounds_toArray, List.set_cons_zero, List.set_cons_succ]
                refine seq_skip 24 rfl (by kernel_rfl) (fun _ _ _ h => h) (by rfl) ?_
                try simp only [List.getElem_toArray, List.getElem_cons_succ, List.getElem_cons_zero, Act.put, List.setIfInBounds_toArray, List.set_cons_zero, List.set_cons_succ]
                refine seq_skip 25 rfl (by kernel_rfl) (fun _ _ _ h => h) (by rfl) ?_
                try simp only [List.getElem_toArray, List.getElem_cons_succ, List.getElem_cons_zero, Act.put, List.setIfInBounds_toArray, List.set_cons_zero, List.set_cons_succ]
                refine seq_skip 26 rfl (by kernel_rfl) (fun _ _ _ h => h) (by rfl) ?_
                try simp only [List.getElem_toArray, List.getElem_cons_succ, List.getElem_cons_zero, Act.put, List.setIfInBounds_toArray, List.set_cons_zero, List.set_cons_succ]
                refine seq_skip 27 rfl (by kernel_rfl) (fun _ _ _ h => h) (by rfl) ?_
                try simp only [List.getElem_toArray, List.getElem_cons_succ, List.getElem_cons_zero, Act.put, List.setIfInBounds_toArray, List.set_cons_zero, List.set_cons_succ]
                refine seq_skip 28 rfl (by kernel_rfl) (fun _ _ _ h => h) (by rfl) ?_
                try simp only [List.getElem_toArray, List.getElem_cons_succ, List.getElem_cons_zero, Act.put, List.setIfInBounds_toArray, List.set_cons_zero, List.set_cons_succ]
                refine seq_skip 29 rfl (by kernel_rfl) (fun _ _ _ h => h) (by rfl) ?_
                try simp only [List.getElem_toArray, List.getElem_cons_succ, List.getElem_cons_zero, Act.put, List.setIfInBounds_toArray, List.set_cons_zero, List.set_cons_succ]
                refine seq_skip 30 rfl (by kernel_rfl) (fun _ _ _ h => h) (by rfl) ?_
                try simp only [List.getElem_toArray, List.getElem_cons_succ, List.getElem_cons_zero, Act.put, List.setIfInBounds_toArray, List.set_cons_zero, List.set_cons_succ]
                refine seq_skip 31 rfl (by kernel_rfl) (fun _ _ _ h => h) (by rfl) ?_
                try simp only [List.getElem_toArray, List.getElem_cons_succ, List.getElem_cons_zero, Act.put, List.setIfInBounds_toArray, List.set_cons_zero, List.set_cons_succ]
                refine seq_skip 32 rfl (by kernel_rfl) (fun _ _ _ h => h) (by rfl) ?_
                try simp only [List.getElem_toArray, List.getElem_cons_succ, List.getElem_cons_zero, Act.put, List.setIfInBounds_toArray, List.set_cons_zero, List.set_cons_succ]
                refine seq_skip 33 rfl (by kernel_rfl) (fun _ _ _ h => h) (by rfl) ?_
                try simp only [List.getElem_toArray, List.getElem_cons_succ, List.getElem_cons_zero, Act.put, List.setIfInBounds_toArray, List.set_cons_zero, List.set_cons_succ]
                refine seq_skip 34 rfl (by kernel_rfl) (fun _ _ _ h => h) (by rfl) ?_
                try simp only [List.getElem_toArray, List.getElem_cons_succ, List.getElem_cons_zero, Act.put, List.setIfInBounds_toArray, List.set_cons_zero, List.set_cons_succ]
                refine seq_skip 35 rfl (by kernel_rfl) (fun _ _ _ h => h) (by rfl) ?_
                try simp only [List.getElem_toArray, List.getElem_cons_succ, List.getElem_cons_zero, Act.put, List.setIfInBounds_toArray, List.set_cons_zero, List.set_cons_succ]
                refine seq_skip 36 rfl (by kernel_rfl) (fun _ _ _ h => h) (by rfl) ?_
                try simp only [List.getElem_toArray, List.getElem_cons_succ, List.getElem_cons_zero, Act.put, List.setIfInBounds_toArray, List.set_cons_zero, List.set_cons_succ]
                refine seq_skip 37 rfl (by kernel_rfl) (fun _ _ _ h => h) (by rfl) ?_
                try simp only [List.getElem_toArray, List.getElem_cons_succ, List.getElem_cons_zero, Act.put, List.setIfInBounds_toArray, List.set_cons_zero, List.set_cons_succ]
                refine seq_skip 38 rfl (by kernel_rfl) (fun _ _ _ h => h) (by rfl) ?_
                try simp only [List.getElem_toArray, List.getElem_cons_succ, List.getElem_cons_zero, Act.put, List.setIfInBounds_toArray, List.set_cons_zero, List.set_cons_succ]
                refine seq_skip 39 rfl (by kernel_rfl) (fun _ _ _ h => h) (by rfl) ?_
                try simp only [List.getElem_toArray, List.getElem_cons_succ, List.getElem_cons_zero, Act.put, List.setIfInBounds_toArray, List.set_cons_zero, List.set_cons_succ]
                refine seq_take 40 (v := ?_) rfl (by kernel_rfl) (fun _ _ _ h => h) (by rfl) (fun w' hw' => ?_) ?_
                rotate_left
                · go_simp; try with_reducible rfl
                try simp only [List.getElem_toArray, List.getElem_cons_succ, List.getElem_cons_zero, Act.put, List.setIfInBounds_toArray, List.set_cons_zero, List.set_cons_succ]
                refine seq_done (by kernel_rfl) ?_
                go_wp2_with fail
                go_ret
                exact ⟨rfl, by rw [H.out.2.2.2.2.2]; exact HCC.out.1.trans (HA.out.1.drew.mono (by omega))⟩
                -- END B1
            · have hdf : decide (a = f0) = false := decide_eq_false hf
              have hbf : (a == f0) = false := by simp [hf]
              as_aux_lemma =>
                -- CUT B2
                go_wp2_with fail
                refine seq_start (by kernel_rfl) ?_
                refine seq_take 0 (v := ?_) rfl (by kernel_rfl) (fun _ _ _ h => h) (by rfl) (fun w' hw' => ?_) ?_
                rotate_left
                · go_simp; try with_reducible rfl
                try simp only [List.getElem_toArray, List.getElem_cons_succ, List.getElem_cons_zero, Act.put, List.setIfInBounds_toArray, List.set_cons_zero, List.set_cons_succ]
                refine seq_take 1 rfl (by kernel_rfl) (fun _ _ _ h => h) (by rfl) (seq_ldi rfl rfl (HA.out.2.1)) ?_
                try simp only [List.getElem_toArray, List.getElem_cons_succ, List.getElem_cons_zero, Act.put, List.setIfInBounds_toArray, List.set_cons_zero, List.set_cons_succ]
                refine seq_take 2 (v := ?_) rfl (by kernel_rfl) (fun _ _ _ h => h) (by rfl) (fun w' hw' => ?_) ?_
                rotate_left
                · go_simp; try with_reducible rfl
                try simp only [List.getElem_toArray, List.getElem_cons_succ, List.getElem_cons_zero, Act.put, List.setIfInBounds_toArray, List.set_cons_zero, List.set_cons_succ]
                refine seq_take 3 (v := ?_) rfl (by kernel_rfl) (fun _ _ _ h => h) (by rfl) (fun w' hw' => ?_) ?_
                rotate_left
                · go_simp; try with_reducible rfl
                try simp only [List.getElem_toArray, List.getElem_cons_succ, List.getElem_cons_zero, Act.put, List.setIfInBounds_toArray, List.set_cons_zero, List.set_cons_succ]
                refine seq_skip 4 rfl (by kernel_rfl) (fun _ _ _ h => h) (by rfl) ?_
                try simp only [List.getElem_toArray, List.getElem_cons_succ, List.getElem_cons_zero, Act.put, List.setIfInBounds_toArray, List.set_cons_zero, List.set_cons_succ]
                refine seq_skip 5 rfl (by kernel_rfl) (fun _ _ _ h => h) (by rfl) ?_
                try simp only [List.getElem_toArray, List.getElem_cons_succ, List.getElem_cons_zero, Act.put, List.setIfInBounds_toArray, List.set_cons_zero, List.set_cons_succ]
                refine seq_skip 6 rfl (by kernel_rfl) (fun _ _ _ h => h) (by rfl) ?_
                try simp only [List.getElem_toArray, List.getElem_cons_succ, List.getElem_cons_zero, Act.put, List.setIfInBounds_toArray, List.set_cons_zero, List.set_cons_succ]
                refine seq_take 7 (v := ?_) rfl (by kernel_rfl) (fun _ _ _ h => h) (by rfl) (fun w' hw' => ?_) ?_
                rotate_left
                · go_simp; try with_reducible rfl
                try simp only [List.getElem_toArray, List.getElem_cons_succ, List.getElem_cons_zero, Act.put, List.setIfInBounds_toArray, List.set_cons_zero, List.set_cons_succ]
                refine seq_take 8 (v := ?_) rfl (by kernel_rfl) (fun _ _ _ h => h) (by rfl) (fun w' hw' => ?_) ?_
                rotate_left
                · go_simp; try with_reducible rfl
                try simp only [List.getElem_toArray, List.getElem_cons_succ, List.getElem_cons_zero, Act.put, List.setIfInBounds_toArray, List.set_cons_zero, List.set_cons_succ]
                refine seq_skip 9 rfl (by kernel_rfl) (fun _ _ _ h => h) (by rfl) ?_
                try simp only [List.getElem_toArray, List.getElem_cons_succ, List.getElem_cons_zero, Act.put, List.setIfInBounds_toArray, List.set_cons_zero, List.set_cons_succ]
                refine seq_skip 10 rfl (by kernel_rfl) (fun _ _ _ h => h) (by rfl) ?_
                try simp only [List.getElem_toArray, List.getElem_cons_succ, List.getElem_cons_zero, Act.put, List.setIfInBounds_toArray, List.set_cons_zero, List.set_cons_succ]
                refine seq_skip 11 rfl (by kernel_rfl) (fun _ _ _ h => h) (by rfl) ?_
                try simp only [List.getElem_toArray, List.getElem_cons_succ, List.getElem_cons_zero, Act.put, List.setIfInBounds_toArray, List.set_cons_zero, List.set_cons_succ]
                refine seq_take 12 (v := ?_) rfl (by kernel_rfl) (fun _ _ _ h => h) (by rfl) (fun w' hw' => ?_) ?_
                rotate_left
                · go_simp; try with_reducible rfl
                try simp only [List.getElem_toArray, List.getElem_cons_succ, List.getElem_cons_zero, Act.put, List.setIfInBounds_toArray, List.set_cons_zero, List.set_cons_succ]
                refine seq_take 13 (v := ?_) rfl (by kernel_rfl) (fun _ _ _ h => h) (by rfl) (fun w' hw' => ?_) ?_
                rotate_left
                · go_simp; try with_reducible rfl
                try simp only [List.getElem_toArray, List.getElem_cons_succ, List.getElem_cons_zero, Act.put, List.setIfInBounds_toArray, List.set_cons_zero, List.set_cons_succ]
                refine seq_take 14 (v := ?_) rfl (by kernel_rfl) (fun _ _ _ h => h) (by rfl) (fun w' hw' => ?_) ?_
                rotate_left
                · go_simp; try with_reducible rfl
                try simp only [List.getElem_toArray, List.getElem_cons_succ, List.getElem_cons_zero, Act.put, List.setIfInBounds_toArray, List.set_cons_zero, List.set_cons_succ]
                refine seq_take 15 rfl (by kernel_rfl) (fun _ _ _ h => h) (by rfl) (seq_ldi rfl rfl (HA.out.2.2.1)) ?_
                try simp only [List.getElem_toArray, List.getElem_cons_succ, List.getElem_cons_zero, Act.put, List.setIfInBounds_toArray, List.set_cons_zero, List.set_cons_succ]
                refine seq_take 16 (v := ?_) rfl (by kernel_rfl) (fun _ _ _ h => h) (by rfl) (fun w' hw' => ?_) ?_
                rotate_left
                · go_simp; try with_reducible rfl
                try simp only [List.getElem_toArray, List.getElem_cons_succ, List.getElem_cons_zero, Act.put, List.setIfInBounds_toArray, List.set_cons_zero, List.set_cons_succ]
                refine seq_take 17 rfl (by kernel_rfl) (fun _ _ _ h => h) (by rfl) (seq_ldII rfl rfl (HA.out.2.2.2.2.1)) ?_
                try simp only [List.getElem_toArray, List.getElem_cons_succ, List.getElem_cons_zero, Act.put, List.setIfInBounds_toArray, List.set_cons_zero, List.set_cons_succ]
                refine seq_take 18 (v := ?_) rfl (by kernel_rfl) (fun _ _ _ h => h) (by rfl) (fun w' hw' => ?_) ?_
                rotate_left
                · go_simp; try with_reducible rfl
                try simp only [List.getElem_toArray, List.getElem_cons_succ, List.getElem_cons_zero, Act.put, List.setIfInBounds_toArray, List.set_cons_zero, List.set_cons_succ]
                refine seq_take 19 rfl (by kernel_rfl) (fun _ _ _ h => h) (by rfl) (seq_ldi rfl rfl (HA.out.2.2.2.2.2)) ?_
                try simp only [List.getElem_toArray, List.getElem_cons_succ, List.getElem_cons_zero, Act.put, List.setIfInBounds_toArray, List.set_cons_zero, List.set_cons_succ]
                refine seq_take 20 (v := ?_) rfl (by kernel_rfl) (fun _ _ _ h => h) (by rfl) (fun w' hw' => ?_) ?_
                rotate_left
                · go_simp; try with_reducible rfl
                try simp only [List.getElem_toArray, List.getElem_cons_succ, List.getElem_cons_zero, Act.put, List.setIfInBounds_toArray, List.set_cons_zero, List.set_cons_succ]
                refine seq_take 21 (v := ?_) rfl (by kernel_rfl) (fun _ _ _ h => h) (by rfl) (fun w' hw' => ?_) ?_
                rotate_left
                · go_simp; try with_reducible rfl
                try simp only [List.getElem_toArray, List.getElem_cons_succ, List.getElem_cons_zero, Act.put, List.setIfInBounds_toArray, List.set_cons_zero, List.set_cons_succ]
                refine seq_take 22 (v := ?_) rfl (by kernel_rfl) (fun _ _ _ h => h) (by rfl) (fun w' hw' => ?_) ?_
                rotate_left
                · go_simp; try with_reducible rfl
                try simp only [List.getElem_toArray, List.getElem_cons_succ, List.getElem_cons_zero, Act.put, List.setIfInBounds_toArray, List.set_cons_zero, List.set_cons_succ]
                refine seq_take 23 (v := ?_) rfl (by kernel_rfl) (fun _ _ _ h => h) (by rfl) (fun w' hw' => ?_) ?_
                rotate_left
                · go_simp; try with_reducible rfl
                try simp only [List.getElem_toArray, List.getElem_cons_succ, List.getElem_cons_zero, Act.put, List.setIfInBounds_toArray, List.set_cons_zero, List.set_cons_succ]
                refine seq_take 24 rfl (by kernel_rfl) (fun _ _ _ h => h) (by rfl) (seq_ldi rfl rfl (HA.out.2.1)) ?_
                try simp only [List.getElem_toArray, List.getElem_cons_succ, List.getElem_cons_zero, Act.put, List.setIfInBounds_toArray, List.set_cons_zero, List.set_cons_succ]
                refine seq_take 25 (v := ?_) rfl (by kernel_rfl) (fun _ _ _ h => h) (by rfl) (fun w' hw' => ?_) ?_
                rotate_left
                · go_simp; try with_reducible rfl
                try simp only [List.getElem_toArray, List.getElem_cons_succ, List.getElem_cons_zero, Act.put, List.setIfInBounds_toArray, List.set_cons_zero, List.set_cons_succ]
                refine seq_take 26 (v := ?_) rfl (by kernel_rfl) (fun _ _ _ h => h) (by rfl) (fun w' hw' => ?_) ?_
                rotate_left
                · go_simp; try with_reducible rfl
                try simp only [List.getElem_toArray, List.getElem_cons_succ, List.getElem_cons_zero, Act.put, List.setIfInBounds_toArray, List.set_cons_zero, List.set_cons_succ]
                refine seq_skip 27 rfl (by kernel_rfl) (fun _ _ _ h => h) (by rfl) ?_
                try simp only [List.getElem_toArray, List.getElem_cons_succ, List.getElem_cons_zero, Act.put, List.setIfInBounds_toArray, List.set_cons_zero, List.set_cons_succ]
                refine seq_skip 28 rfl (by kernel_rfl) (fun _ _ _ h => h) (by rfl) ?_
                try simp only [List.getElem_toArray, List.getElem_cons_succ, List.getElem_cons_zero, Act.put, List.setIfInBounds_toArray, List.set_cons_zero, List.set_cons_succ]
                refine seq_skip 29 rfl (by kernel_rfl) (fun _ _ _ h => h) (by rfl) ?_
                try simp only [List.getElem_toArray, List.getElem_cons_succ, List.getElem_cons_zero, Act.put, List.setIfInBounds_toArray, List.set_cons_zero, List.set_cons_succ]
                refine seq_take 30 (v := ?_) rfl (by kernel_rfl) (fun _ _ _ h => h) (by rfl) (fun w' hw' => ?_) ?_
                rotate_left
                · go_simp; try with_reducible rfl
                try simp only [List.getElem_toArray, List.getElem_cons_succ, List.getElem_cons_zero, Act.put, List.setIfInBounds_toArray, List.set_cons_zero, List.set_cons_succ]
                refine seq_take 31 (v := ?_) rfl (by kernel_rfl) (fun _ _ _ h => h) (by rfl) (fun w' hw' => ?_) ?_
                rotate_left
                · go_simp; try with_reducible rfl
                try simp only [List.getElem_toArray, List.getElem_cons_succ, List.getElem_cons_zero, Act.put, List.setIfInBounds_toArray, List.set_cons_zero, List.set_cons_succ]
                refine seq_skip 32 rfl (by kernel_rfl) (fun _ _ _ h => h) (by rfl) ?_
                try simp only [List.getElem_toArray, List.getElem_cons_succ, List.getElem_cons_zero, Act.put, List.setIfInBounds_toArray, List.set_cons_zero, List.set_cons_succ]
                refine seq_skip 33 rfl (by kernel_rfl) (fun _ _ _ h => h) (by rfl) ?_
                try simp only [List.getElem_toArray, List.getElem_cons_succ, List.getElem_cons_zero, Act.put, List.setIfInBounds_toArray, List.set_cons_zero, List.set_cons_succ]
                refine seq_skip 34 rfl (by kernel_rfl) (fun _ _ _ h => h) (by rfl) ?_
                try simp only [List.getElem_toArray, List.getElem_cons_succ, List.getElem_cons_zero, Act.put, List.setIfInBounds_toArray, List.set_cons_zero, List.set_cons_succ]
                refine seq_skip 35 rfl (by kernel_rfl) (fun _ _ _ h => h) (by rfl) ?_
                try simp only [List.getElem_toArray, List.getElem_cons_succ, List.getElem_cons_zero, Act.put, List.setIfInBounds_toArray, List.set_cons_zero, List.set_cons_succ]
                refine seq_skip 36 rfl (by kernel_rfl) (fun _ _ _ h => h) (by rfl) ?_
                try simp only [List.getElem_toArray, List.getElem_cons_succ, List.getElem_cons_zero, Act.put, List.setIfInBounds_toArray, List.set_cons_zero, List.set_cons_succ]
                refine seq_skip 37 rfl (by kernel_rfl) (fun _ _ _ h => h) (by rfl) ?_
                try simp only [List.getElem_toArray, List.getElem_cons_succ, List.getElem_cons_zero, Act.put, List.setIfInBounds_toArray, List.set_cons_zero, List.set_cons_succ]
                refine seq_skip 38 rfl (by kernel_rfl) (fun _ _ _ h => h) (by rfl) ?_
                try simp only [List.getElem_toArray, List.getElem_cons_succ, List.getElem_cons_zero, Act.put, List.setIfInBounds_toArray, List.set_cons_zero, List.set_cons_succ]
                refine seq_take 39 (v := ?_) rfl (by kernel_rfl) (fun _ _ _ h => h) (by rfl) (fun w' hw' => ?_) ?_
                rotate_left
                · go_simp; try with_reducible rfl
                try simp only [List.getElem_toArray, List.getElem_cons_succ, List.getElem_cons_zero, Act.put, List.setIfInBounds_toArray, List.set_cons_zero, List.set_cons_succ]
                refine seq_take 40 (v := ?_) rfl (by kernel_rfl) (fun _ _ _ h => h) (by rfl) (fun w' hw' => ?_) ?_
                rotate_left
                · go_simp; try with_reducible rfl
                try simp only [List.getElem_toArray, List.getElem_cons_succ, List.getElem_cons_zero, Act.put, List.setIfInBounds_toArray, List.set_cons_zero, List.set_cons_succ]
                refine seq_done (by kernel_rfl) ?_
                go_wp2_with fail
                go_roundw
                case rel => exact ⟨i + 1, by omega, by simp, HA.out.1.drew, HX.out ⟨fun _ => ⟨by simp only; omega, by simp only; omega⟩, fun h => absurd h (by simp only; omega)⟩⟩
                case measure => simp [intOf]; omega
                -- END B2
          have d15 : decide (op = 15) = false := decide_eq_false o15
          have b15 : (op == 15) = false := by simp [o15]
          by_cases o16 : op = 16
          · subst o16
            by_cases hneg : a < 0
            · have hdn : decide (a < 0) = true := decide_eq_true hneg
              as_aux_lemma =>
                go_wp2_with fail
                go_ret
                exact ⟨rfl, by rw [H.out.2.2.2.2.2]; exact HCC.out.1.trans (HA.out.1.mono (by omega))⟩
            have hdn : decide (a < 0) = false := decide_eq_false hneg
            by_cases hbig : 60 < a
            · have hdb : decide (60 < a) = true := decide_eq_true hbig
              as_aux_lemma =>
                go_wp2_with fail
                go_ret
                exact ⟨rfl, by rw [H.out.2.2.2.2.2]; exact HCC.out.1.trans (HA.out.1.mono (by omega))⟩
            have hdb : decide (60 < a) = false := decide_eq_false hbig
            by_cases hf : a = f0
            · subst hf
              as_aux_lemma =>
                -- CUT B3
                go_wp2_with fail
                refine seq_start (by kernel_rfl) ?_
                refine seq_take 0 (v := ?_) rfl (by kernel_rfl) (fun _ _ _ h => h) (by rfl) (fun w' hw' => ?_) ?_
                rotate_left
                · go_simp; try with_reducible rfl
                try simp only [List.getElem_toArray, List.getElem_cons_succ, List.getElem_cons_zero, Act.put, List.setIfInBounds_toArray, List.set_cons_zero, List.set_cons_succ]
                refine seq_take 1 rfl (by kernel_rfl) (fun _ _ _ h => h) (by rfl) (seq_ldi rfl rfl (HA.out.2.1)) ?_
                try simp only [List.getElem_toArray, List.getElem_cons_succ, List.getElem_cons_zero, Act.put, List.setIfInBounds_toArray, List.set_cons_zero, List.set_cons_succ]
                refine seq_take 2 (v := ?_) rfl (by kernel_rfl) (fun _ _ _ h => h) (by rfl) (fun w' hw' => ?_) ?_
                rotate_left
                · go_simp; try with_reducible rfl
                try simp only [List.getElem_toArray, List.getElem_cons_succ, List.getElem_cons_zero, Act.put, List.setIfInBounds_toArray, List.set_cons_zero, List.set_cons_succ]
                refine seq_take 3 (v := ?_) rfl (by kernel_rfl) (fun _ _ _ h => h) (by rfl) (fun w' hw' => ?_) ?_
                rotate_left
                · go_simp; try with_reducible rfl
                try simp only [List.getElem_toArray, List.getElem_cons_succ, List.getElem_cons_zero, Act.put, List.setIfInBounds_toArray, List.set_cons_zero, List.set_cons_succ]
                refine seq_take 4 (v := ?_) rfl (by kernel_rfl) (fun _ _ _ h => h) (by rfl) (fun w' hw' => ?_) ?_
                rotate_left
                · go_simp; try with_reducible rfl
                try simp only [List.getElem_toArray, List.getElem_cons_succ, List.getElem_cons_zero, Act.put, List.setIfInBounds_toArray, List.set_cons_zero, List.set_cons_succ]
                refine seq_take 5 rfl (by kernel_rfl) (fun _ _ _ h => h) (by rfl) (seq_ldi rfl rfl (HA.out.2.1)) ?_
                try simp only [List.getElem_toArray, List.getElem_cons_succ, List.getElem_cons_zero, Act.put, List.setIfInBounds_toArray, List.set_cons_zero, List.set_cons_succ]
                refine seq_take 6 (v := ?_) rfl (by kernel_rfl) (fun _ _ _ h => h) (by rfl) (fun w' hw' => ?_) ?_
                rotate_left
                · go_simp; try with_reducible rfl
                try simp only [List.getElem_toArray, List.getElem_cons_succ, List.getElem_cons_zero, Act.put, List.setIfInBounds_toArray, List.set_cons_zero, List.set_cons_succ]
                refine seq_take 7 (v := ?_) rfl (by kernel_rfl) (fun _ _ _ h => h) (by rfl) (fun w' hw' => ?_) ?_
                rotate_left
                · go_simp; try with_reducible rfl
                try simp only [List.getElem_toArray, List.getElem_cons_succ, List.getElem_cons_zero, Act.put, List.setIfInBounds_toArray, List.set_cons_zero, List.set_cons_succ]
                refine seq_take 8 (v := ?_) rfl (by kernel_rfl) (fun _ _ _ h => h) (by rfl) (fun w' hw' => ?_) ?_
                rotate_left
                · go_simp; try with_reducible rfl
                try simp only [List.getElem_toArray, List.getElem_cons_succ, List.getElem_cons_zero, Act.put, List.setIfInBounds_toArray, List.set_cons_zero, List.set_cons_succ]
                refine seq_skip 9 rfl (by kernel_rfl) (fun _ _ _ h => h) (by rfl) ?_
                try simp only [List.getElem_toArray, List.getElem_cons_succ, List.getElem_cons_zero, Act.put, List.setIfInBounds_toArray, List.set_cons_zero, List.set_cons_succ]
                refine seq_skip 10 rfl (by kernel_rfl) (fun _ _ _ h => h) (by rfl) ?_
                try simp only [List.getElem_toArray, List.getElem_cons_succ, List.getElem_cons_zero, Act.put, List.setIfInBounds_toArray, List.set_cons_zero, List.set_cons_succ]
                refine seq_skip 11 rfl (by kernel_rfl) (fun _ _ _ h => h) (by rfl) ?_
                try simp only [List.getElem_toArray, List.getElem_cons_succ, List.getElem_cons_zero, Act.put, List.setIfInBounds_toArray, List.set_cons_zero, List.set_cons_succ]
                refine seq_take 12 (v := ?_) rfl (by kernel_rfl) (fun _ _ _ h => h) (by rfl) (fun w' hw' => ?_) ?_
                rotate_left
                · go_simp; try with_reducible rfl
                try simp only [List.getElem_toArray, List.getElem_cons_succ, List.getElem_cons_zero, Act.put, List.setIfInBounds_toArray, List.set_cons_zero, List.set_cons_succ]
                refine seq_take 13 (v := ?_) rfl (by kernel_rfl) (fun _ _ _ h => h) (by rfl) (fun w' hw' => ?_) ?_
                rotate_left
                · go_simp; try with_reducible rfl
                try simp only [List.getElem_toArray, List.getElem_cons_succ, List.getElem_cons_zero, Act.put, List.setIfInBounds_toArray, List.set_cons_zero, List.set_cons_succ]
                refine seq_take 14 (v := ?_) rfl (by kernel_rfl) (fun _ _ _ h => h) (by rfl) (fun w' hw' => ?_) ?_
                rotate_left
                · go_simp; try with_reducible rfl
                try simp only [List.getElem_toArray, List.getElem_cons_succ, List.getElem_cons_zero, Act.put, List.setIfInBounds_toArray, List.set_cons_zero, List.set_cons_succ]
                refine seq_take 15 rfl (by kernel_rfl) (fun _ _ _ h => h) (by rfl) (seq_ldi rfl rfl (HA.out.2.2.1)) ?_
                try simp only [List.getElem_toArray, List.getElem_cons_succ, List.getElem_cons_zero, Act.put, List.setIfInBounds_toArray, List.set_cons_zero, List.set_cons_succ]
                refine seq_take 16 (v := ?_) rfl (by kernel_rfl) (fun _ _ _ h => h) (by rfl) (fun w' hw' => ?_) ?_
                rotate_left
                · go_simp; try with_reducible rfl
                try simp only [List.getElem_toArray, List.getElem_cons_succ, List.getElem_cons_zero, Act.put, List.setIfInBounds_toArray, List.set_cons_zero, List.set_cons_succ]
                refine seq_take 17 rfl (by kernel_rfl) (fun _ _ _ h => h) (by rfl) (seq_ldII rfl rfl (HA.out.2.2.2.2.1)) ?_
                try simp only [List.getElem_toArray, List.getElem_cons_succ, List.getElem_cons_zero, Act.put, List.setIfInBounds_toArray, List.set_cons_zero, List.set_cons_succ]
                refine seq_take 18 (v := ?_) rfl (by kernel_rfl) (fun _ _ _ h => h) (by rfl) (fun w' hw' => ?_) ?_
                rotate_left
                · go_simp; try with_reducible rfl
                try simp only [List.getElem_toArray, List.getElem_cons_succ, List.getElem_cons_zero, Act.put, List.setIfInBounds_toArray, List.set_cons_zero, List.set_cons_succ]
                refine seq_take 19 rfl (by kernel_rfl) (fun _ _ _ h => h) (by rfl) (seq_ldi rfl rfl (HA.out.2.2.2.2.2)) ?_
                try simp only [List.getElem_toArray, List.getElem_cons_succ, List.getElem_cons_zero, Act.put, List.setIfInBounds_toArray, List.set_cons_zero, List.set_cons_succ]
                refine seq_take 20 (v := ?_) rfl (by kernel_rfl) (fun _ _ _ h => h) (by rfl) (fun w' hw' => ?_) ?_
                rotate_left
                · go_simp; try with_reducible rfl
                try simp only [List.getElem_toArray, List.getElem_cons_succ, List.getElem_cons_zero, Act.put, List.setIfInBounds_toArray, List.set_cons_zero, List.set_cons_succ]
                refine seq_take 21 (v := ?_) rfl (by kernel_rfl) (fun _ _ _ h => h) (by rfl) (fun w' hw' => ?_) ?_
                rotate_left
                · go_simp; try with_reducible rfl
                try simp only [List.getElem_toArray, List.getElem_cons_succ, List.getElem_cons_zero, Act.put, List.setIfInBounds_toArray, List.set_cons_zero, List.set_cons_succ]
                refine seq_take 22 (v := ?_) rfl (by kernel_rfl) (fun _ _ _ h => h) (by rfl) (fun w' hw' => ?_) ?_
                rotate_left
                · go_simp; try with_reducible rfl
                try simp only [List.getElem_toArray, List.getElem_cons_succ, List.getElem_cons_zero, Act.put, List.setIfInBounds_toArray, List.set_cons_zero, List.set_cons_succ]
                refine seq_skip 23 rfl (by kernel_rfl) (fun _ _ _ h => h) (by rfl) ?_
                try simp only [List.getElem_toArray, List.getElem_cons_succ, List.getElem_cons_zero, Act.put, List.setIfInBounds_toArray, List.set_cons_zero, List.set_cons_succ]
                refine seq_skip 24 rfl (by kernel_rfl) (fun _ _ _ h => h) (by rfl) ?_
                try simp only [List.getElem_toArray, List.getElem_cons_succ, List.getElem_cons_zero, Act.put, List.setIfInBounds_toArray, List.set_cons_zero, List.set_cons_succ]
                refine seq_skip 25 rfl (by kernel_rfl) (fun _ _ _ h => h) (by rfl) ?_
                try simp only [List.getElem_toArray, List.getElem_cons_succ, List.getElem_cons_zero, Act.put, List.setIfInBounds_toArray, List.set_cons_zero, List.set_cons_succ]
                refine seq_skip 26 rfl (by kernel_rfl) (fun _ _ _ h => h) (by rfl) ?_
                try simp only [List.getElem_toArray, List.getElem_cons_succ, List.getElem_cons_zero, Act.put, List.setIfInBounds_toArray, List.set_cons_zero, List.set_cons_succ]
                refine seq_skip 27 rfl (by kernel_rfl) (fun _ _ _ h => h) (by rfl) ?_
                try simp only [List.getElem_toArray, List.getElem_cons_succ, List.getElem_cons_zero, Act.put, List.setIfInBounds_toArray, List.set_cons_zero, List.set_cons_succ]
                refine seq_skip 28 rfl (by kernel_rfl) (fun _ _ _ h => h) (by rfl) ?_
                try simp only [List.getElem_toArray, List.getElem_cons_succ, List.getElem_cons_zero, Act.put, List.setIfInBounds_toArray, List.set_cons_zero, List.set_cons_succ]
                refine seq_skip 29 rfl (by kernel_rfl) (fun _ _ _ h => h) (by rfl) ?_
                try simp only [List.getElem_toArray, List.getElem_cons_succ, List.getElem_cons_zero, Act.put, List.setIfInBounds_toArray, List.set_cons_zero, List.set_cons_succ]
                refine seq_skip 30 rfl (by kernel_rfl) (fun _ _ _ h => h) (by rfl) ?_
                try simp only [List.getElem_toArray, List.getElem_cons_succ, List.getElem_cons_zero, Act.put, List.setIfInBounds_toArray, List.set_cons_zero, List.set_cons_succ]
                refine seq_skip 31 rfl (by kernel_rfl) (fun _ _ _ h => h) (by rfl) ?_
                try simp only [List.getElem_toArray, List.getElem_cons_succ, List.getElem_cons_zero, Act.put, List.setIfInBounds_toArray, List.set_cons_zero, List.set_cons_succ]
                refine seq_skip 32 rfl (by kernel_rfl) (fun _ _ _ h => h) (by rfl) ?_
                try simp only [List.getElem_toArray, List.getElem_cons_succ, List.getElem_cons_zero, Act.put, List.setIfInBounds_toArray, List.set_cons_zero, List.set_cons_succ]
                refine seq_skip 33 rfl (by kernel_rfl) (fun _ _ _ h => h) (by rfl) ?_
                try simp only [List.getElem_toArray, List.getElem_cons_succ, List.getElem_cons_zero, Act.put, List.setIfInBounds_toArray, List.set_cons_zero, List.set_cons_succ]
                refine seq_skip 34 rfl (by kernel_rfl) (fun _ _ _ h => h) (by rfl) ?_
                try simp only [List.getElem_toArray, List.getElem_cons_succ, List.getElem_cons_zero, Act.put, List.setIfInBounds_toArray, List.set_cons_zero, List.set_cons_succ]
                refine seq_skip 35 rfl (by kernel_rfl) (fun _ _ _ h => h) (by rfl) ?_
                try simp only [List.getElem_toArray, List.getElem_cons_succ, List.getElem_cons_zero, Act.put, List.setIfInBounds_toArray, List.set_cons_zero, List.set_cons_succ]
                refine seq_skip 36 rfl (by kernel_rfl) (fun _ _ _ h => h) (by rfl) ?_
                try simp only [List.getElem_toArray, List.getElem_cons_succ, List.getElem_cons_zero, Act.put, List.setIfInBounds_toArray, List.set_cons_zero, List.set_cons_succ]
                refine seq_skip 37 rfl (by kernel_rfl) (fun _ _ _ h => h) (by rfl) ?_
                try simp only [List.getElem_toArray, List.getElem_cons_succ, List.getElem_cons_zero, Act.put, List.setIfInBounds_toArray, List.set_cons_zero, List.set_cons_succ]
                refine seq_skip 38 rfl (by kernel_rfl) (fun _ _ _ h => h) (by rfl) ?_
                try simp only [List.getElem_toArray, List.getElem_cons_succ, List.getElem_cons_zero, Act.put, List.setIfInBounds_toArray, List.set_cons_zero, List.set_cons_succ]
                refine seq_skip 39 rfl (by kernel_rfl) (fun _ _ _ h => h) (by rfl) ?_
                try simp only [List.getElem_toArray, List.getElem_cons_succ, List.getElem_cons_zero, Act.put, List.setIfInBounds_toArray, List.set_cons_zero, List.set_cons_succ]
                refine seq_take 40 (v := ?_) rfl (by kernel_rfl) (fun _ _ _ h => h) (by rfl) (fun w' hw' => ?_) ?_
                rotate_left
                · go_simp; try with_reducible rfl
                try simp only [List.getElem_toArray, List.getElem_cons_succ, List.getElem_cons_zero, Act.put, List.setIfInBounds_toArray, List.set_cons_zero, List.set_cons_succ]
                refine seq_done (by kernel_rfl) ?_
                go_wp2_with fail
                go_ret
                exact ⟨rfl, by rw [H.out.2.2.2.2.2]; exact HCC.out.1.trans (HA.out.1.drew.mono (by omega))⟩
                -- END B3
            · have hdf : decide (a = f0) = false := decide_eq_false hf
              have hbf : (a == f0) = false := by simp [hf]
              as_aux_lemma =>
                -- CUT B4
                go_wp2_with fail
                refine seq_start (by kernel_rfl) ?_
                refine seq_take 0 (v := ?_) rfl (by kernel_rfl) (fun _ _ _ h => h) (by rfl) (fun w' hw' => ?_) ?_
                rotate_left
                · go_simp; try with_reducible rfl
                try simp only [List.getElem_toArray, List.getElem_cons_succ, List.getElem_cons_zero, Act.put, List.setIfInBounds_toArray, List.set_cons_zero, List.set_cons_succ]
                refine seq_take 1 rfl (by kernel_rfl) (fun _ _ _ h => h) (by rfl) (seq_ldi rfl rfl (HA.out.2.1)) ?_
                try simp only [List.getElem_toArray, List.getElem_cons_succ, List.getElem_cons_zero, Act.put, List.setIfInBounds_toArray, List.set_cons_zero, List.set_cons_succ]
                refine seq_take 2 (v := ?_) rfl (by kernel_rfl) (fun _ _ _ h => h) (by rfl) (fun w' hw' => ?_) ?_
                rotate_left
                · go_simp; try with_reducible rfl
                try simp only [List.getElem_toArray, List.getElem_cons_succ, List.getElem_cons_zero, Act.put, List.setIfInBounds_toArray, List.set_cons_zero, List.set_cons_succ]
                refine seq_take 3 (v := ?_) rfl (by kernel_rfl) (fun _ _ _ h => h) (by rfl) (fun w' hw' => ?_) ?_
                rotate_left
                · go_simp; try with_reducible rfl
                try simp only [List.getElem_toArray, List.getElem_cons_succ, List.getElem_cons_zero, Act.put, List.setIfInBounds_toArray, List.set_cons_zero, List.set_cons_succ]
                refine seq_take 4 (v := ?_) rfl (by kernel_rfl) (fun _ _ _ h => h) (by rfl) (fun w' hw' => ?_) ?_
                rotate_left
                · go_simp; try with_reducible rfl
                try simp only [List.getElem_toArray, List.getElem_cons_succ, List.getElem_cons_zero, Act.put, List.setIfInBounds_toArray, List.set_cons_zero, List.set_cons_succ]
                refine seq_take 5 rfl (by kernel_rfl) (fun _ _ _ h => h) (by rfl) (seq_ldi rfl rfl (HA.out.2.1)) ?_
                try simp only [List.getElem_toArray, List.getElem_cons_succ, List.getElem_cons_zero, Act.put, List.setIfInBounds_toArray, List.set_cons_zero, List.set_cons_succ]
                refine seq_take 6 (v := ?_) rfl (by kernel_rfl) (fun _ _ _ h => h) (by rfl) (fun w' hw' => ?_) ?_
                rotate_left
                · go_simp; try with_reducible rfl
                try simp only [List.getElem_toArray, List.getElem_cons_succ, List.getElem_cons_zero, Act.put, List.setIfInBounds_toArray, List.set_cons_zero, List.set_cons_succ]
                refine seq_take 7 (v := ?_) rfl (by kernel_rfl) (fun _ _ _ h => h) (by rfl) (fun w' hw' => ?_) ?_
                rotate_left
                · go_simp; try with_reducible rfl
                try simp only [List.getElem_toArray, List.getElem_cons_succ, List.getElem_cons_zero, Act.put, List.setIfInBounds_toArray, List.set_cons_zero, List.set_cons_succ]
                refine seq_take 8 (v := ?_) rfl (by kernel_rfl) (fun _ _ _ h => h) (by rfl) (fun w' hw' => ?_) ?_
                rotate_left
                · go_simp; try with_reducible rfl
                try simp only [List.getElem_toArray, List.getElem_cons_succ, List.getElem_cons_zero, Act.put, List.setIfInBounds_toArray, List.set_cons_zero, List.set_cons_succ]
                refine seq_skip 9 rfl (by kernel_rfl) (fun _ _ _ h => h) (by rfl) ?_
                try simp only [List.getElem_toArray, List.getElem_cons_succ, List.getElem_cons_zero, Act.put, List.setIfInBounds_toArray, List.set_cons_zero, List.set_cons_succ]
                refine seq_skip 10 rfl (by kernel_rfl) (fun _ _ _ h => h) (by rfl) ?_
                try simp only [List.getElem_toArray, List.getElem_cons_succ, List.getElem_cons_zero, Act.put, List.setIfInBounds_toArray, List.set_cons_zero, List.set_cons_succ]
                refine seq_skip 11 rfl (by kernel_rfl) (fun _ _ _ h => h) (by rfl) ?_
                try simp only [List.getElem_toArray, List.getElem_cons_succ, List.getElem_cons_zero, Act.put, List.setIfInBounds_toArray, List.set_cons_zero, List.set_cons_succ]
                refine seq_take 12 (v := ?_) rfl (by kernel_rfl) (fun _ _ _ h => h) (by rfl) (fun w' hw' => ?_) ?_
                rotate_left
                · go_simp; try with_reducible rfl
                try simp only [List.getElem_toArray, List.getElem_cons_succ, List.getElem_cons_zero, Act.put, List.setIfInBounds_toArray, List.set_cons_zero, List.set_cons_succ]
                refine seq_take 13 (v := ?_) rfl (by kernel_rfl) (fun _ _ _ h => h) (by rfl) (fun w' hw' => ?_) ?_
                rotate_left
                · go_simp; try with_reducible rfl
                try simp only [List.getElem_toArray, List.getElem_cons_succ, List.getElem_cons_zero, Act.put, List.setIfInBounds_toArray, List.set_cons_zero, List.set_cons_succ]
                refine seq_take 14 (v := ?_) rfl (by kernel_rfl) (fun _ _ _ h => h) (by rfl) (fun w' hw' => ?_) ?_
                rotate_left
                · go_simp; try with_reducible rfl
                try simp only [List.getElem_toArray, List.getElem_cons_succ, List.getElem_cons_zero, Act.put, List.setIfInBounds_toArray, List.set_cons_zero, List.set_cons_succ]
                refine seq_take 15 rfl (by kernel_rfl) (fun _ _ _ h => h) (by rfl) (seq_ldi rfl rfl (HA.out.2.2.1)) ?_
                try simp only [List.getElem_toArray, List.getElem_cons_succ, List.getElem_cons_zero, Act.put, List.setIfInBounds_toArray, List.set_cons_zero, List.set_cons_succ]
                refine seq_take 16 (v := ?_) rfl (by kernel_rfl) (fun _ _ _ h => h) (by rfl) (fun w' hw' => ?_) ?_
                rotate_left
                · go_simp; try with_reducible rfl
                try simp only [List.getElem_toArray, List.getElem_cons_succ, List.getElem_cons_zero, Act.put, List.setIfInBounds_toArray, List.set_cons_zero, List.set_cons_succ]
                refine seq_take 17 rfl (by kernel_rfl) (fun _ _ _ h => h) (by rfl) (seq_ldII rfl rfl (HA.out.2.2.2.2.1)) ?_
                try simp only [List.getElem_toArray, List.getElem_cons_succ, List.getElem_cons_zero, Act.put, List.setIfInBounds_toArray, List.set_cons_zero, List.set_cons_succ]
                refine seq_take 18 (v := ?_) rfl (by kernel_rfl) (fun _ _ _ h => h) (by rfl) (fun w' hw' => ?_) ?_
                rotate_left
                · go_simp; try with_reducible rfl
                try simp only [List.getElem_toArray, List.getElem_cons_succ, List.getElem_cons_zero, Act.put, List.setIfInBounds_toArray, List.set_cons_zero, List.set_cons_succ]
                refine seq_take 19 rfl (by kernel_rfl) (fun _ _ _ h => h) (by rfl) (seq_ldi rfl rfl (HA.out.2.2.2.2.2)) ?_
                try simp only [List.getElem_toArray, List.getElem_cons_succ, List.getElem_cons_zero, Act.put, List.setIfInBounds_toArray, List.set_cons_zero, List.set_cons_succ]
                refine seq_take 20 (v := ?_) rfl (by kernel_rfl) (fun _ _ _ h => h) (by rfl) (fun w' hw' => ?_) ?_
                rotate_left
                · go_simp; try with_reducible rfl
                try simp only [List.getElem_toArray, List.getElem_cons_succ, List.getElem_cons_zero, Act.put, List.setIfInBounds_toArray, List.set_cons_zero, List.set_cons_succ]
                refine seq_take 21 (v := ?_) rfl (by kernel_rfl) (fun _ _ _ h => h) (by rfl) (fun w' hw' => ?_) ?_
                rotate_left
                · go_simp; try with_reducible rfl
                try simp only [List.getElem_toArray, List.getElem_cons_succ, List.getElem_cons_zero, Act.put, List.setIfInBounds_toArray, List.set_cons_zero, List.set_cons_succ]
                refine seq_take 22 (v := ?_) rfl (by kernel_rfl) (fun _ _ _ h => h) (by rfl) (fun w' hw' => ?_) ?_
                rotate_left
                · go_simp; try with_reducible rfl
                try simp only [List.getElem_toArray, List.getElem_cons_succ, List.getElem_cons_zero, Act.put, List.setIfInBounds_toArray, List.set_cons_zero, List.set_cons_succ]
                refine seq_take 23 (v := ?_) rfl (by kernel_rfl) (fun _ _ _ h => h) (by rfl) (fun w' hw' => ?_) ?_
                rotate_left
                · go_simp; try with_reducible rfl
                try simp only [List.getElem_toArray, List.getElem_cons_succ, List.getElem_cons_zero, Act.put, List.setIfInBounds_toArray, List.set_cons_zero, List.set_cons_succ]
                refine seq_take 24 rfl (by kernel_rfl) (fun _ _ _ h => h) (by rfl) (seq_ldi rfl rfl (HA.out.2.1)) ?_
                try simp only [List.getElem_toArray, List.getElem_cons_succ, List.getElem_cons_zero, Act.put, List.setIfInBounds_toArray, List.set_cons_zero, List.set_cons_succ]
                refine seq_take 25 (v := ?_) rfl (by kernel_rfl) (fun _ _ _ h => h) (by rfl) (fun w' hw' => ?_) ?_
                rotate_left
                · go_simp; try with_reducible rfl
                try simp only [List.getElem_toArray, List.getElem_cons_succ, List.getElem_cons_zero, Act.put, List.setIfInBounds_toArray, List.set_cons_zero, List.set_cons_succ]
                refine seq_take 26 (v := ?_) rfl (by kernel_rfl) (fun _ _ _ h => h) (by rfl) (fun w' hw' => ?_) ?_
                rotate_left
                · go_simp; try with_reducible rfl
                try simp only [List.getElem_toArray, List.getElem_cons_succ, List.getElem_cons_zero, Act.put, List.setIfInBounds_toArray, List.set_cons_zero, List.set_cons_succ]
                refine seq_skip 27 rfl (by kernel_rfl) (fun _ _ _ h => h) (by rfl) ?_
                try simp only [List.getElem_toArray, List.getElem_cons_succ, List.getElem_cons_zero, Act.put, List.setIfInBounds_toArray, List.set_cons_zero, List.set_cons_succ]
                refine seq_skip 28 rfl (by kernel_rfl) (fun _ _ _ h => h) (by rfl) ?_
                try simp only [List.getElem_toArray, List.getElem_cons_succ, List.getElem_cons_zero, Act.put, List.setIfInBounds_toArray, List.set_cons_zero, List.set_cons_succ]
                refine seq_skip 29 rfl (by kernel_rfl) (fun _ _ _ h => h) (by rfl) ?_
                try simp only [List.getElem_toArray, List.getElem_cons_succ, List.getElem_cons_zero, Act.put, List.setIfInBounds_toArray, List.set_cons_zero, List.set_cons_succ]
                refine seq_take 30 (v := ?_) rfl (by kernel_rfl) (fun _ _ _ h => h) (by rfl) (fun w' hw' => ?_) ?_
                rotate_left
                · go_simp; try with_reducible rfl
                try simp only [List.getElem_toArray, List.getElem_cons_succ, List.getElem_cons_zero, Act.put, List.setIfInBounds_toArray, List.set_cons_zero, List.set_cons_succ]
                refine seq_take 31 (v := ?_) rfl (by kernel_rfl) (fun _ _ _ h => h) (by rfl) (fun w' hw' => ?_) ?_
                rotate_left
                · go_simp; try with_reducible rfl
                try simp only [List.getElem_toArray, List.getElem_cons_succ, List.getElem_cons_zero, Act.put, List.setIfInBounds_toArray, List.set_cons_zero, List.set_cons_succ]
                refine seq_skip 32 rfl (by kernel_rfl) (fun _ _ _ h => h) (by rfl) ?_
                try simp only [List.getElem_toArray, List.getElem_cons_succ, List.getElem_cons_zero, Act.put, List.setIfInBounds_toArray, List.set_cons_zero, List.set_cons_succ]
                refine seq_skip 33 rfl (by kernel_rfl) (fun _ _ _ h => h) (by rfl) ?_
                try simp only [List.getElem_toArray, List.getElem_cons_succ, List.getElem_cons_zero, Act.put, List.setIfInBounds_toArray, List.set_cons_zero, List.set_cons_succ]
                refine seq_skip 34 rfl (by kernel_rfl) (fun _ _ _ h => h) (by rfl) ?_
                try simp only [List.getElem_toArray, List.getElem_cons_succ, List.getElem_cons_zero, Act.put, List.setIfInBounds_toArray, List.set_cons_zero, List.set_cons_succ]
                refine seq_skip 35 rfl (by kernel_rfl) (fun _ _ _ h => h) (by rfl) ?_
                try simp only [List.getElem_toArray, List.getElem_cons_succ, List.getElem_cons_zero, Act.put, List.setIfInBounds_toArray, List.set_cons_zero, List.set_cons_succ]
                refine seq_skip 36 rfl (by kernel_rfl) (fun _ _ _ h => h) (by rfl) ?_
                try simp only [List.getElem_toArray, List.getElem_cons_succ, List.getElem_cons_zero, Act.put, List.setIfInBounds_toArray, List.set_cons_zero, List.set_cons_succ]
                refine seq_skip 37 rfl (by kernel_rfl) (fun _ _ _ h => h) (by rfl) ?_
                try simp only [List.getElem_toArray, List.getElem_cons_succ, List.getElem_cons_zero, Act.put, List.setIfInBounds_toArray, List.set_cons_zero, List.set_cons_succ]
                refine seq_skip 38 rfl (by kernel_rfl) (fun _ _ _ h => h) (by rfl) ?_
                try simp only [List.getElem_toArray, List.getElem_cons_succ, List.getElem_cons_zero, Act.put, List.setIfInBounds_toArray, List.set_cons_zero, List.set_cons_succ]
                refine seq_take 39 (v := ?_) rfl (by kernel_rfl) (fun _ _ _ h => h) (by rfl) (fun w' hw' => ?_) ?_
                rotate_left
                · go_simp; try with_reducible rfl
                try simp only [List.getElem_toArray, List.getElem_cons_succ, List.getElem_cons_zero, Act.put, List.setIfInBounds_toArray, List.set_cons_zero, List.set_cons_succ]
                refine seq_take 40 (v := ?_) rfl (by kernel_rfl) (fun _ _ _ h => h) (by rfl) (fun w' hw' => ?_) ?_
                rotate_left
                · go_simp; try with_reducible rfl
                try simp only [List.getElem_toArray, List.getElem_cons_succ, List.getElem_cons_zero, Act.put, List.setIfInBounds_toArray, List.set_cons_zero, List.set_cons_succ]
                refine seq_done (by kernel_rfl) ?_
                go_wp2_with fail
                go_roundw
                case rel => exact ⟨i + 1, by omega, by simp, HA.out.1.drew, HX.out ⟨fun _ => ⟨by simp only; omega, by simp only; omega⟩, fun h => absurd h (by simp only; omega)⟩⟩
                case measure => simp [intOf]; omega
                -- END B4
          have d16 : decide (op = 16) = false := decide_eq_false o16
          have b16 : (op == 16) = false := by simp [o16]
          by_cases o24 : op = 24
          · subst o24
            by_cases hneg : a < 0
            · have hdn : decide (a < 0) = true := decide_eq_true hneg
              as_aux_lemma =>
                go_wp2_with fail
                go_ret
                exact ⟨rfl, by rw [H.out.2.2.2.2.2]; exact HCC.out.1.trans (HA.out.1.mono (by omega))⟩
            have hdn : decide (a < 0) = false := decide_eq_false hneg
            by_cases hbig : 60 < a
            · have hdb : decide (60 < a) = true := decide_eq_true hbig
              as_aux_lemma =>
                go_wp2_with fail
                go_ret
                exact ⟨rfl, by rw [H.out.2.2.2.2.2]; exact HCC.out.1.trans (HA.out.1.mono (by omega))⟩
            have hdb : decide (60 < a) = false := decide_eq_false hbig
            by_cases hf : a = f0
            · subst hf
              as_aux_lemma =>
                -- CUT B5
                go_wp2_with fail
                refine seq_start (by kernel_rfl) ?_
                refine seq_take 0 (v := ?_) rfl (by kernel_rfl) (fun _ _ _ h => h) (by rfl) (fun w' hw' => ?_) ?_
                rotate_left
                · go_simp; try with_reducible rfl
                try simp only [List.getElem_toArray, List.getElem_cons_succ, List.getElem_cons_zero, Act.put, List.setIfInBounds_toArray, List.set_cons_zero, List.set_cons_succ]
                refine seq_take 1 rfl (by kernel_rfl) (fun _ _ _ h => h) (by rfl) (seq_ldi rfl rfl (HA.out.2.1)) ?_
                try simp only [List.getElem_toArray, List.getElem_cons_succ, List.getElem_cons_zero, Act.put, List.setIfInBounds_toArray, List.set_cons_zero, List.set_cons_succ]
                refine seq_take 2 (v := ?_) rfl (by kernel_rfl) (fun _ _ _ h => h) (by rfl) (fun w' hw' => ?_) ?_
                rotate_left
                · go_simp; try with_reducible rfl
                try simp only [List.getElem_toArray, List.getElem_cons_succ, List.getElem_cons_zero, Act.put, List.setIfInBounds_toArray, List.set_cons_zero, List.set_cons_succ]
                refine seq_take 3 (v := ?_) rfl (by kernel_rfl) (fun _ _ _ h => h) (by rfl) (fun w' hw' => ?_) ?_
                rotate_left
                · go_simp; try with_reducible rfl
                try simp only [List.getElem_toArray, List.getElem_cons_succ, List.getElem_cons_zero, Act.put, List.setIfInBounds_toArray, List.set_cons_zero, List.set_cons_succ]
                refine seq_take 4 (v := ?_) rfl (by kernel_rfl) (fun _ _ _ h => h) (by rfl) (fun w' hw' => ?_) ?_
                rotate_left
                · go_simp; try with_reducible rfl
                try simp only [List.getElem_toArray, List.getElem_cons_succ, List.getElem_cons_zero, Act.put, List.setIfInBounds_toArray, List.set_cons_zero, List.set_cons_succ]
                refine seq_take 5 rfl (by kernel_rfl) (fun _ _ _ h => h) (by rfl) (seq_ldi rfl rfl (HA.out.2.1)) ?_
                try simp only [List.getElem_toArray, List.getElem_cons_succ, List.getElem_cons_zero, Act.put, List.setIfInBounds_toArray, List.set_cons_zero, List.set_cons_succ]
                refine seq_take 6 (v := ?_) rfl (by kernel_rfl) (fun _ _ _ h => h) (by rfl) (fun w' hw' => ?_) ?_
                rotate_left
                · go_simp; try with_reducible rfl
                try simp only [List.getElem_toArray, List.getElem_cons_succ, List.getElem_cons_zero, Act.put, List.setIfInBounds_toArray, List.set_cons_zero, List.set_cons_succ]
                refine seq_take 7 (v := ?_) rfl (by kernel_rfl) (fun _ _ _ h => h) (by rfl) (fun w' hw' => ?_) ?_
                rotate_left
                · go_simp; try with_reducible rfl
                try simp only [List.getElem_toArray, List.getElem_cons_succ, List.getElem_cons_zero, Act.put, List.setIfInBounds_toArray, List.set_cons_zero, List.set_cons_succ]
                refine seq_take 8 (v := ?_) rfl (by kernel_rfl) (fun _ _ _ h => h) (by rfl) (fun w' hw' => ?_) ?_
                rotate_left
                · go_simp; try with_reducible rfl
                try simp only [List.getElem_toArray, List.getElem_cons_succ, List.getElem_cons_zero, Act.put, List.setIfInBounds_toArray, List.set_cons_zero, List.set_cons_succ]
                refine seq_take 9 (v := ?_) rfl (by kernel_rfl) (fun _ _ _ h => h) (by rfl) (fun w' hw' => ?_) ?_
                rotate_left
                · go_simp; try with_reducible rfl
                try simp only [List.getElem_toArray, List.getElem_cons_succ, List.getElem_cons_zero, Act.put, List.setIfInBounds_toArray, List.set_cons_zero, List.set_cons_succ]
                refine seq_take 10 rfl (by kernel_rfl) (fun _ _ _ h => h) (by rfl) (seq_ldi rfl rfl (HA.out.2.1)) ?_
                try simp only [List.getElem_toArray, List.getElem_cons_succ, List.getElem_cons_zero, Act.put, List.setIfInBounds_toArray, List.set_cons_zero, List.set_cons_succ]
                refine seq_take 11 (v := ?_) rfl (by kernel_rfl) (fun _ _ _ h => h) (by rfl) (fun w' hw' => ?_) ?_
                rotate_left
                · go_simp; try with_reducible rfl
                try simp only [List.getElem_toArray, List.getElem_cons_succ, List.getElem_cons_zero, Act.put, List.setIfInBounds_toArray, List.set_cons_zero, List.set_cons_succ]
                refine seq_take 12 (v := ?_) rfl (by kernel_rfl) (fun _ _ _ h => h) (by rfl) (fun w' hw' => ?_) ?_
                rotate_left
                · go_simp; try with_reducible rfl
                try simp only [List.getElem_toArray, List.getElem_cons_succ, List.getElem_cons_zero, Act.put, List.setIfInBounds_toArray, List.set_cons_zero, List.set_cons_succ]
                refine seq_take 13 (v := ?_) rfl (by kernel_rfl) (fun _ _ _ h => h) (by rfl) (fun w' hw' => ?_) ?_
                rotate_left
                · go_simp; try with_reducible rfl
                try simp only [List.getElem_toArray, List.getElem_cons_succ, List.getElem_cons_zero, Act.put, List.setIfInBounds_toArray, List.set_cons_zero, List.set_cons_succ]
                refine seq_take 14 (v := ?_) rfl (by kernel_rfl) (fun _ _ _ h => h) (by rfl) (fun w' hw' => ?_) ?_
                rotate_left
                · go_simp; try with_reducible rfl
                try simp only [List.getElem_toArray, List.getElem_cons_succ, List.getElem_cons_zero, Act.put, List.setIfInBounds_toArray, List.set_cons_zero, List.set_cons_succ]
                refine seq_take 15 rfl (by kernel_rfl) (fun _ _ _ h => h) (by rfl) (seq_ldi rfl rfl (HA.out.2.2.1)) ?_
                try simp only [List.getElem_toArray, List.getElem_cons_succ, List.getElem_cons_zero, Act.put, List.setIfInBounds_toArray, List.set_cons_zero, List.set_cons_succ]
                refine seq_take 16 (v := ?_) rfl (by kernel_rfl) (fun _ _ _ h => h) (by rfl) (fun w' hw' => ?_) ?_
                rotate_left
                · go_simp; try with_reducible rfl
                try simp only [List.getElem_toArray, List.getElem_cons_succ, List.getElem_cons_zero, Act.put, List.setIfInBounds_toArray, List.set_cons_zero, List.set_cons_succ]
                refine seq_take 17 rfl (by kernel_rfl) (fun _ _ _ h => h) (by rfl) (seq_ldII rfl rfl (HA.out.2.2.2.2.1)) ?_
                try simp only [List.getElem_toArray, List.getElem_cons_succ, List.getElem_cons_zero, Act.put, List.setIfInBounds_toArray, List.set_cons_zero, List.set_cons_succ]
                refine seq_take 18 (v := ?_) rfl (by kernel_rfl) (fun _ _ _ h => h) (by rfl) (fun w' hw' => ?_) ?_
                rotate_left
                · go_simp; try with_reducible rfl
                try simp only [List.getElem_toArray, List.getElem_cons_succ, List.getElem_cons_zero, Act.put, List.setIfInBounds_toArray, List.set_cons_zero, List.set_cons_succ]
                refine seq_take 19 rfl (by kernel_rfl) (fun _ _ _ h => h) (by rfl) (seq_ldi rfl rfl (HA.out.2.2.2.2.2)) ?_
                try simp only [List.getElem_toArray, List.getElem_cons_succ, List.getElem_cons_zero, Act.put, List.setIfInBounds_toArray, List.set_cons_zero, List.set_cons_succ]
                refine seq_take 20 (v := ?_) rfl (by kernel_rfl) (fun _ _ _ h => h) (by rfl) (fun w' hw' => ?_) ?_
                rotate_left
                · go_simp; try with_reducible rfl
                try simp only [List.getElem_toArray, List.getElem_cons_succ, List.getElem_cons_zero, Act.put, List.setIfInBounds_toArray, List.set_cons_zero, List.set_cons_succ]
                refine seq_take 21 (v := ?_) rfl (by kernel_rfl) (fun _ _ _ h => h) (by rfl) (fun w' hw' => ?_) ?_
                rotate_left
                · go_simp; try with_reducible rfl
                try simp only [List.getElem_toArray, List.getElem_cons_succ, List.getElem_cons_zero, Act.put, List.setIfInBounds_toArray, List.set_cons_zero, List.set_cons_succ]
                refine seq_take 22 (v := ?_) rfl (by kernel_rfl) (fun _ _ _ h => h) (by rfl) (fun w' hw' => ?_) ?_
                rotate_left
                · go_simp; try with_reducible rfl
                try simp only [List.getElem_toArray, List.getElem_cons_succ, List.getElem_cons_zero, Act.put, List.setIfInBounds_toArray, List.set_cons_zero, List.set_cons_succ]
                refine seq_skip 23 rfl (by kernel_rfl) (fun _ _ _ h => h) (by rfl) ?_
                try simp only [List.getElem_toArray, List.getElem_cons_succ, List.getElem_cons_zero, Act.put, List.setIfInBounds_toArray, List.set_cons_zero, List.set_cons_succ]
                refine seq_skip 24 rfl (by kernel_rfl) (fun _ _ _ h => h) (by rfl) ?_
                try simp only [List.getElem_toArray, List.getElem_cons_succ, List.getElem_cons_zero, Act.put, List.setIfInBounds_toArray, List.set_cons_zero, List.set_cons_succ]
                refine seq_skip 25 rfl (by kernel_rfl) (fun _ _ _ h => h) (by rfl) ?_
                try simp only [List.getElem_toArray, List.getElem_cons_succ, List.getElem_cons_zero, Act.put, List.setIfInBounds_toArray, List.set_cons_zero, List.set_cons_succ]
                refine seq_skip 26 rfl (by kernel_rfl) (fun _ _ _ h => h) (by rfl) ?_
                try simp only [List.getElem_toArray, List.getElem_cons_succ, List.getElem_cons_zero, Act.put, List.setIfInBounds_toArray, List.set_cons_zero, List.set_cons_succ]
                refine seq_skip 27 rfl (by kernel_rfl) (fun _ _ _ h => h) (by rfl) ?_
                try simp only [List.getElem_toArray, List.getElem_cons_succ, List.getElem_cons_zero, Act.put, List.setIfInBounds_toArray, List.set_cons_zero, List.set_cons_succ]
                refine seq_skip 28 rfl (by kernel_rfl) (fun _ _ _ h => h) (by rfl) ?_
                try simp only [List.getElem_toArray, List.getElem_cons_succ, List.getElem_cons_zero, Act.put, List.setIfInBounds_toArray, List.set_cons_zero, List.set_cons_succ]
                refine seq_skip 29 rfl (by kernel_rfl) (fun _ _ _ h => h) (by rfl) ?_
                try simp only [List.getElem_toArray, List.getElem_cons_succ, List.getElem_cons_zero, Act.put, List.setIfInBounds_toArray, List.set_cons_zero, List.set_cons_succ]
                refine seq_skip 30 rfl (by kernel_rfl) (fun _ _ _ h => h) (by rfl) ?_
                try simp only [List.getElem_toArray, List.getElem_cons_succ, List.getElem_cons_zero, Act.put, List.setIfInBounds_toArray, List.set_cons_zero, List.set_cons_succ]
                refine seq_skip 31 rfl (by kernel_rfl) (fun _ _ _ h => h) (by rfl) ?_
                try simp only [List.getElem_toArray, List.getElem_cons_succ, List.getElem_cons_zero, Act.put, List.setIfInBounds_toArray, List.set_cons_zero, List.set_cons_succ]
                refine seq_skip 32 rfl (by kernel_rfl) (fun _ _ _ h => h) (by rfl) ?_
                try simp only [List.getElem_toArray, List.getElem_cons_succ, List.getElem_cons_zero, Act.put, List.setIfInBounds_toArray, List.set_cons_zero, List.set_cons_succ]
                refine seq_skip 33 rfl (by kernel_rfl) (fun _ _ _ h => h) (by rfl) ?_
                try simp only [List.getElem_toArray, List.getElem_cons_succ, List.getElem_cons_zero, Act.put, List.setIfInBounds_toArray, List.set_cons_zero, List.set_cons_succ]
                refine seq_skip 34 rfl (by kernel_rfl) (fun _ _ _ h => h) (by rfl) ?_
                try simp only [List.getElem_toArray, List.getElem_cons_succ, List.getElem_cons_zero, Act.put, List.setIfInBounds_toArray, List.set_cons_zero, List.set_cons_succ]
                refine seq_skip 35 rfl (by kernel_rfl) (fun _ _ _ h => h) (by rfl) ?_
                try simp only [List.getElem_toArray, List.getElem_cons_succ, List.getElem_cons_zero, Act.put, List.setIfInBounds_toArray, List.set_cons_zero, List.set_cons_succ]
                refine seq_skip 36 rfl (by kernel_rfl) (fun _ _ _ h => h) (by rfl) ?_
                try simp only [List.getElem_toArray, List.getElem_cons_succ, List.getElem_cons_zero, Act.put, List.setIfInBounds_toArray, List.set_cons_zero, List.set_cons_succ]
                refine seq_skip 37 rfl (by kernel_rfl) (fun _ _ _ h => h) (by rfl) ?_
                try simp only [List.getElem_toArray, List.getElem_cons_succ, List.getElem_cons_zero, Act.put, List.setIfInBounds_toArray, List.set_cons_zero, List.set_cons_succ]
                refine seq_skip 38 rfl (by kernel_rfl) (fun _ _ _ h => h) (by rfl) ?_
                try simp only [List.getElem_toArray, List.getElem_cons_succ, List.getElem_cons_zero, Act.put, List.setIfInBounds_toArray, List.set_cons_zero, List.set_cons_succ]
                refine seq_skip 39 rfl (by kernel_rfl) (fun _ _ _ h => h) (by rfl) ?_
                try simp only [List.getElem_toArray, List.getElem_cons_succ, List.getElem_cons_zero, Act.put, List.setIfInBounds_toArray, List.set_cons_zero, List.set_cons_succ]
                refine seq_take 40 (v := ?_) rfl (by kernel_rfl) (fun _ _ _ h => h) (by rfl) (fun w' hw' => ?_) ?_
                rotate_left
                · go_simp; try with_reducible rfl
                try simp only [List.getElem_toArray, List.getElem_cons_succ, List.getElem_cons_zero, Act.put, List.setIfInBounds_toArray, List.set_cons_zero, List.set_cons_succ]
                refine seq_done (by kernel_rfl) ?_
                go_wp2_with fail
                go_ret
                exact ⟨rfl, by rw [H.out.2.2.2.2.2]; exact HCC.out.1.trans (HA.out.1.drew.mono (by omega))⟩
                -- END B5
            · have hdf : decide (a = f0) = false := decide_eq_false hf
              have hbf : (a == f0) = false := by simp [hf]
              as_aux_lemma =>
                -- CUT B6
                go_wp2_with fail
                refine seq_start (by kernel_rfl) ?_
                refine seq_take 0 (v := ?_) rfl (by kernel_rfl) (fun _ _ _ h => h) (by rfl) (fun w' hw' => ?_) ?_
                rotate_left
                · go_simp; try with_reducible rfl
                try simp only [List.getElem_toArray, List.getElem_cons_succ, List.getElem_cons_zero, Act.put, List.setIfInBounds_toArray, List.set_cons_zero, List.set_cons_succ]
                refine seq_take 1 rfl (by kernel_rfl) (fun _ _ _ h => h) (by rfl) (seq_ldi rfl rfl (HA.out.2.1)) ?_
                try simp only [List.getElem_toArray, List.getElem_cons_succ, List.getElem_cons_zero, Act.put, List.setIfInBounds_toArray, List.set_cons_zero, List.set_cons_succ]
                refine seq_take 2 (v := ?_) rfl (by kernel_rfl) (fun _ _ _ h => h) (by rfl) (fun w' hw' => ?_) ?_
                rotate_left
                · go_simp; try with_reducible rfl
                try simp only [List.getElem_toArray, List.getElem_cons_succ, List.getElem_cons_zero, Act.put, List.setIfInBounds_toArray, List.set_cons_zero, List.set_cons_succ]
                refine seq_take 3 (v := ?_) rfl (by kernel_rfl) (fun _ _ _ h => h) (by rfl) (fun w' hw' => ?_) ?_
                rotate_left
                · go_simp; try with_reducible rfl
                try simp only [List.getElem_toArray, List.getElem_cons_succ, List.getElem_cons_zero, Act.put, List.setIfInBounds_toArray, List.set_cons_zero, List.set_cons_succ]
                refine seq_take 4 (v := ?_) rfl (by kernel_rfl) (fun _ _ _ h => h) (by rfl) (fun w' hw' => ?_) ?_
                rotate_left
                · go_simp; try with_reducible rfl
                try simp only [List.getElem_toArray, List.getElem_cons_succ, List.getElem_cons_zero, Act.put, List.setIfInBounds_toArray, List.set_cons_zero, List.set_cons_succ]
                refine seq_take 5 rfl (by kernel_rfl) (fun _ _ _ h => h) (by rfl) (seq_ldi rfl rfl (HA.out.2.1)) ?_
                try simp only [List.getElem_toArray, List.getElem_cons_succ, List.getElem_cons_zero, Act.put, List.setIfInBounds_toArray, List.set_cons_zero, List.set_cons_succ]
                refine seq_take 6 (v := ?_) rfl (by kernel_rfl) (fun _ _ _ h => h) (by rfl) (fun w' hw' => ?_) ?_
                rotate_left
                · go_simp; try with_reducible rfl
                try simp only [List.getElem_toArray, List.getElem_cons_succ, List.getElem_cons_zero, Act.put, List.setIfInBounds_toArray, List.set_cons_zero, List.set_cons_succ]
                refine seq_take 7 (v := ?_) rfl (by kernel_rfl) (fun _ _ _ h => h) (by rfl) (fun w' hw' => ?_) ?_
                rotate_left
                · go_simp; try with_reducible rfl
                try simp only [List.getElem_toArray, List.getElem_cons_succ, List.getElem_cons_zero, Act.put, List.setIfInBounds_toArray, List.set_cons_zero, List.set_cons_succ]
                refine seq_take 8 (v := ?_) rfl (by kernel_rfl) (fun _ _ _ h => h) (by rfl) (fun w' hw' => ?_) ?_
                rotate_left
                · go_simp; try with_reducible rfl
                try simp only [List.getElem_toArray, List.getElem_cons_succ, List.getElem_cons_zero, Act.put, List.setIfInBounds_toArray, List.set_cons_zero, List.set_cons_succ]
                refine seq_take 9 (v := ?_) rfl (by kernel_rfl) (fun _ _ _ h => h) (by rfl) (fun w' hw' => ?_) ?_
                rotate_left
                · go_simp; try with_reducible rfl
                try simp only [List.getElem_toArray, List.getElem_cons_succ, List.getElem_cons_zero, Act.put, List.setIfInBounds_toArray, List.set_cons_zero, List.set_cons_succ]
                refine seq_take 10 rfl (by kernel_rfl) (fun _ _ _ h => h) (by rfl) (seq_ldi rfl rfl (HA.out.2.1)) ?_
                try simp only [List.getElem_toArray, List.getElem_cons_succ, List.getElem_cons_zero, Act.put, List.setIfInBounds_toArray, List.set_cons_zero, List.set_cons_succ]
                refine seq_take 11 (v := ?_) rfl (by kernel_rfl) (fun _ _ _ h => h) (by rfl) (fun w' hw' => ?_) ?_
                rotate_left
                · go_simp; try with_reducible rfl
                try simp only [List.getElem_toArray, List.getElem_cons_succ, List.getElem_cons_zero, Act.put, List.setIfInBounds_toArray, List.set_cons_zero, List.set_cons_succ]
                refine seq_take 12 (v := ?_) rfl (by kernel_rfl) (fun _ _ _ h => h) (by rfl) (fun w' hw' => ?_) ?_
                rotate_left
                · go_simp; try with_reducible rfl
                try simp only [List.getElem_toArray, List.getElem_cons_succ, List.getElem_cons_zero, Act.put, List.setIfInBounds_toArray, List.set_cons_zero, List.set_cons_succ]
                refine seq_take 13 (v := ?_) rfl (by kernel_rfl) (fun _ _ _ h => h) (by rfl) (fun w' hw' => ?_) ?_
                rotate_left
                · go_simp; try with_reducible rfl
                try simp only [List.getElem_toArray, List.getElem_cons_succ, List.getElem_cons_zero, Act.put, List.setIfInBounds_toArray, List.set_cons_zero, List.set_cons_succ]
                refine seq_take 14 (v := ?_) rfl (by kernel_rfl) (fun _ _ _ h => h) (by rfl) (fun w' hw' => ?_) ?_
                rotate_left
                · go_simp; try with_reducible rfl
                try simp only [List.getElem_toArray, List.getElem_cons_succ, List.getElem_cons_zero, Act.put, List.setIfInBounds_toArray, List.set_cons_zero, List.set_cons_succ]
                refine seq_take 15 rfl (by kernel_rfl) (fun _ _ _ h => h) (by rfl) (seq_ldi rfl rfl (HA.out.2.2.1)) ?_
                try simp only [List.getElem_toArray, List.getElem_cons_succ, List.getElem_cons_zero, Act.put, List.setIfInBounds_toArray, List.set_cons_zero, List.set_cons_succ]
                refine seq_take 16 (v := ?_) rfl (by kernel_rfl) (fun _ _ _ h => h) (by rfl) (fun w' hw' => ?_) ?_
                rotate_left
                · go_simp; try with_reducible rfl
                try simp only [List.getElem_toArray, List.getElem_cons_succ, List.getElem_cons_zero, Act.put, List.setIfInBounds_toArray, List.set_cons_zero, List.set_cons_succ]
                refine seq_take 17 rfl (by kernel_rfl) (fun _ _ _ h => h) (by rfl) (seq_ldII rfl rfl (HA.out.2.2.2.2.1)) ?_
                try simp only [List.getElem_toArray, List.getElem_cons_succ, List.getElem_cons_zero, Act.put, List.setIfInBounds_toArray, List.set_cons_zero, List.set_cons_succ]
                refine seq_take 18 (v := ?_) rfl (by kernel_rfl) (fun _ _ _ h => h) (by rfl) (fun w' hw' => ?_) ?_
                rotate_left
                · go_simp; try with_reducible rfl
                try simp only [List.getElem_toArray, List.getElem_cons_succ, List.getElem_cons_zero, Act.put, List.setIfInBounds_toArray, List.set_cons_zero, List.set_cons_succ]
                refine seq_take 19 rfl (by kernel_rfl) (fun _ _ _ h => h) (by rfl) (seq_ldi rfl rfl (HA.out.2.2.2.2.2)) ?_
                try simp only [List.getElem_toArray, List.getElem_cons_succ, List.getElem_cons_zero, Act.put, List.setIfInBounds_toArray, List.set_cons_zero, List.set_cons_succ]
                refine seq_take 20 (v := ?_) rfl (by kernel_rfl) (fun _ _ _ h => h) (by rfl) (fun w' hw' => ?_) ?_
                rotate_left
                · go_simp; try with_reducible rfl
                try simp only [List.getElem_toArray, List.getElem_cons_succ, List.getElem_cons_zero, Act.put, List.setIfInBounds_toArray, List.set_cons_zero, List.set_cons_succ]
                refine seq_take 21 (v := ?_) rfl (by kernel_rfl) (fun _ _ _ h => h) (by rfl) (fun w' hw' => ?_) ?_
                rotate_left
                · go_simp; try with_reducible rfl
                try simp only [List.getElem_toArray, List.getElem_cons_succ, List.getElem_cons_zero, Act.put, List.setIfInBounds_toArray, List.set_cons_zero, List.set_cons_succ]
                refine seq_take 22 (v := ?_) rfl (by kernel_rfl) (fun _ _ _ h => h) (by rfl) (fun w' hw' => ?_) ?_
                rotate_left
                · go_simp; try with_reducible rfl
                try simp only [List.getElem_toArray, List.getElem_cons_succ, List.getElem_cons_zero, Act.put, List.setIfInBounds_toArray, List.set_cons_zero, List.set_cons_succ]
                refine seq_take 23 (v := ?_) rfl (by kernel_rfl) (fun _ _ _ h => h) (by rfl) (fun w' hw' => ?_) ?_
                rotate_left
                · go_simp; try with_reducible rfl
                try simp only [List.getElem_toArray, List.getElem_cons_succ, List.getElem_cons_zero, Act.put, List.setIfInBounds_toArray, List.set_cons_zero, List.set_cons_succ]
                refine seq_take 24 rfl (by kernel_rfl) (fun _ _ _ h => h) (by rfl) (seq_ldi rfl rfl (HA.out.2.1)) ?_
                try simp only [List.getElem_toArray, List.getElem_cons_succ, List.getElem_cons_zero, Act.put, List.setIfInBounds_toArray, List.set_cons_zero, List.set_cons_succ]
                refine seq_take 25 (v := ?_) rfl (by kernel_rfl) (fun _ _ _ h => h) (by rfl) (fun w' hw' => ?_) ?_
                rotate_left
                · go_simp; try with_reducible rfl
                try simp only [List.getElem_toArray, List.getElem_cons_succ, List.getElem_cons_zero, Act.put, List.setIfInBounds_toArray, List.set_cons_zero, List.set_cons_succ]
                refine seq_take 26 (v := ?_) rfl (by kernel_rfl) (fun _ _ _ h => h) (by rfl) (fun w' hw' => ?_) ?_
                rotate_left
                · go_simp; try with_reducible rfl
                try simp only [List.getElem_toArray, List.getElem_cons_succ, List.getElem_cons_zero, Act.put, List.setIfInBounds_toArray, List.set_cons_zero, List.set_cons_succ]
                refine seq_take 27 (v := ?_) rfl (by kernel_rfl) (fun _ _ _ h => h) (by rfl) (fun w' hw' => ?_) ?_
                rotate_left
                · go_simp; try with_reducible rfl
                try simp only [List.getElem_toArray, List.getElem_cons_succ, List.getElem_cons_zero, Act.put, List.setIfInBounds_toArray, List.set_cons_zero, List.set_cons_succ]
                refine seq_take 28 rfl (by kernel_rfl) (fun _ _ _ h => h) (by rfl) (seq_ldi rfl rfl (HA.out.2.1)) ?_
                try simp only [List.getElem_toArray, List.getElem_cons_succ, List.getElem_cons_zero, Act.put, List.setIfInBounds_toArray, List.set_cons_zero, List.set_cons_succ]
                refine seq_take 29 (v := ?_) rfl (by kernel_rfl) (fun _ _ _ h => h) (by rfl) (fun w' hw' => ?_) ?_
                rotate_left
                · go_simp; try with_reducible rfl
                try simp only [List.getElem_toArray, List.getElem_cons_succ, List.getElem_cons_zero, Act.put, List.setIfInBounds_toArray, List.set_cons_zero, List.set_cons_succ]
                refine seq_take 30 (v := ?_) rfl (by kernel_rfl) (fun _ _ _ h => h) (by rfl) (fun w' hw' => ?_) ?_
                rotate_left
                · go_simp; try with_reducible rfl
                try simp only [List.getElem_toArray, List.getElem_cons_succ, List.getElem_cons_zero, Act.put, List.setIfInBounds_toArray, List.set_cons_zero, List.set_cons_succ]
                refine seq_take 31 (v := ?_) rfl (by kernel_rfl) (fun _ _ _ h => h) (by rfl) (fun w' hw' => ?_) ?_
                rotate_left
                · go_simp; try with_reducible rfl
                try simp only [List.getElem_toArray, List.getElem_cons_succ, List.getElem_cons_zero, Act.put, List.setIfInBounds_toArray, List.set_cons_zero, List.set_cons_succ]
                refine seq_skip 32 rfl (by kernel_rfl) (fun _ _ _ h => h) (by rfl) ?_
                try simp only [List.getElem_toArray, List.getElem_cons_succ, List.getElem_cons_zero, Act.put, List.setIfInBounds_toArray, List.set_cons_zero, List.set_cons_succ]
                refine seq_skip 33 rfl (by kernel_rfl) (fun _ _ _ h => h) (by rfl) ?_
                try simp only [List.getElem_toArray, List.getElem_cons_succ, List.getElem_cons_zero, Act.put, List.setIfInBounds_toArray, List.set_cons_zero, List.set_cons_succ]
                refine seq_skip 34 rfl (by kernel_rfl) (fun _ _ _ h => h) (by rfl) ?_
                try simp only [List.getElem_toArray, List.getElem_cons_succ, List.getElem_cons_zero, Act.put, List.setIfInBounds_toArray, List.set_cons_zero, List.set_cons_succ]
                refine seq_skip 35 rfl (by kernel_rfl) (fun _ _ _ h => h) (by rfl) ?_
                try simp only [List.getElem_toArray, List.getElem_cons_succ, List.getElem_cons_zero, Act.put, List.setIfInBounds_toArray, List.set_cons_zero, List.set_cons_succ]
                refine seq_skip 36 rfl (by kernel_rfl) (fun _ _ _ h => h) (by rfl) ?_
                try simp only [List.getElem_toArray, List.getElem_cons_succ, List.getElem_cons_zero, Act.put, List.setIfInBounds_toArray, List.set_cons_zero, List.set_cons_succ]
                refine seq_skip 37 rfl (by kernel_rfl) (fun _ _ _ h => h) (by rfl) ?_
                try simp only [List.getElem_toArray, List.getElem_cons_succ, List.getElem_cons_zero, Act.put, List.setIfInBounds_toArray, List.set_cons_zero, List.set_cons_succ]
                refine seq_skip 38 rfl (by kernel_rfl) (fun _ _ _ h => h) (by rfl) ?_
                try simp only [List.getElem_toArray, List.getElem_cons_succ, List.getElem_cons_zero, Act.put, List.setIfInBounds_toArray, List.set_cons_zero, List.set_cons_succ]
                refine seq_take 39 (v := ?_) rfl (by kernel_rfl) (fun _ _ _ h => h) (by rfl) (fun w' hw' => ?_) ?_
                rotate_left
                · go_simp; try with_reducible rfl
                try simp only [List.getElem_toArray, List.getElem_cons_succ, List.getElem_cons_zero, Act.put, List.setIfInBounds_toArray, List.set_cons_zero, List.set_cons_succ]
                refine seq_take 40 (v := ?_) rfl (by kernel_rfl) (fun _ _ _ h => h) (by rfl) (fun w' hw' => ?_) ?_
                rotate_left
                · go_simp; try with_reducible rfl
                try simp only [List.getElem_toArray, List.getElem_cons_succ, List.getElem_cons_zero, Act.put, List.setIfInBounds_toArray, List.set_cons_zero, List.set_cons_succ]
                refine seq_done (by kernel_rfl) ?_
                go_wp2_with fail
                go_roundw
                case rel => exact ⟨i + 1, by omega, by simp, HA.out.1.drew, HX.out ⟨fun _ => ⟨by simp only; omega, by simp only; omega⟩, fun h => absurd h (by simp only; omega)⟩⟩
                case measure => simp [intOf]; omega
                -- END B6
          have d24 : decide (op = 24) = false := decide_eq_false o24
          have b24 : (op == 24) = false := by simp [o24]
          by_cases hge : 20 ≤ op
          · have hdge : decide (20 ≤ op) = true := decide_eq_true hge
            by_cases hle : op ≤ 22
            · have hdle : decide (op ≤ 22) = true := decide_eq_true hle
              by_cases hneg : b < 0
              · have hdn : decide (b < 0) = true := decide_eq_true hneg
                as_aux_lemma =>
                  go_wp2_with fail
                  go_ret
                  exact ⟨rfl, by rw [H.out.2.2.2.2.2]; exact HCC.out.1.trans (HA.out.1.mono (by omega))⟩
              have hdn : decide (b < 0) = false := decide_eq_false hneg
              by_cases hbig : 60 < b
              · have hdb : decide (60 < b) = true := decide_eq_true hbig
                as_aux_lemma =>
                  go_wp2_with fail
                  go_ret
                  exact ⟨rfl, by rw [H.out.2.2.2.2.2]; exact HCC.out.1.trans (HA.out.1.mono (by omega))⟩
              have hdb : decide (60 < b) = false := decide_eq_false hbig
              by_cases hf : b = f0
              · subst hf
                as_aux_lemma =>
                  -- CUT B7
                  go_wp2_with fail
                  refine seq_start (by kernel_rfl) ?_
                  refine seq_take 0 (v := ?_) rfl (by kernel_rfl) (fun _ _ _ h => h) (by rfl) (fun w' hw' => ?_) ?_
                  rotate_left
                  · go_simp; try with_reducible rfl
                  try simp only [List.getElem_toArray, List.getElem_cons_succ, List.getElem_cons_zero, Act.put, List.setIfInBounds_toArray, List.set_cons_zero, List.set_cons_succ]
                  refine seq_take 1 rfl (by kernel_rfl) (fun _ _ _ h => h) (by rfl) (seq_ldi rfl rfl (HA.out.2.1)) ?_
                  try simp only [List.getElem_toArray, List.getElem_cons_succ, List.getElem_cons_zero, Act.put, List.setIfInBounds_toArray, List.set_cons_zero, List.set_cons_succ]
                  refine seq_take 2 (v := ?_) rfl (by kernel_rfl) (fun _ _ _ h => h) (by rfl) (fun w' hw' => ?_) ?_
                  rotate_left
                  · go_simp; try with_reducible rfl
                  try simp only [List.getElem_toArray, List.getElem_cons_succ, List.getElem_cons_zero, Act.put, List.setIfInBounds_toArray, List.set_cons_zero, List.set_cons_succ]
                  refine seq_take 3 (v := ?_) rfl (by kernel_rfl) (fun _ _ _ h => h) (by rfl) (fun w' hw' => ?_) ?_
                  rotate_left
                  · go_simp; try with_reducible rfl
                  try simp only [List.getElem_toArray, List.getElem_cons_succ, List.getElem_cons_zero, Act.put, List.setIfInBounds_toArray, List.set_cons_zero, List.set_cons_succ]
                  refine seq_take 4 (v := ?_) rfl (by kernel_rfl) (fun _ _ _ h => h) (by rfl) (fun w' hw' => ?_) ?_
                  rotate_left
                  · go_simp; try with_reducible rfl
                  try simp only [List.getElem_toArray, List.getElem_cons_succ, List.getElem_cons_zero, Act.put, List.setIfInBounds_toArray, List.set_cons_zero, List.set_cons_succ]
                  refine seq_take 5 rfl (by kernel_rfl) (fun _ _ _ h => h) (by rfl) (seq_ldi rfl rfl (HA.out.2.1)) ?_
                  try simp only [List.getElem_toArray, List.getElem_cons_succ, List.getElem_cons_zero, Act.put, List.setIfInBounds_toArray, List.set_cons_zero, List.set_cons_succ]
                  refine seq_take 6 (v := ?_) rfl (by kernel_rfl) (fun _ _ _ h => h) (by rfl) (fun w' hw' => ?_) ?_
                  rotate_left
                  · go_simp; try with_reducible rfl
                  try simp only [List.getElem_toArray, List.getElem_cons_succ, List.getElem_cons_zero, Act.put, List.setIfInBounds_toArray, List.set_cons_zero, List.set_cons_succ]
                  refine seq_take 7 (v := ?_) rfl (by kernel_rfl) (fun _ _ _ h => h) (by rfl) (fun w' hw' => ?_) ?_
                  rotate_left
                  · go_simp; try with_reducible rfl
                  try simp only [List.getElem_toArray, List.getElem_cons_succ, List.getElem_cons_zero, Act.put, List.setIfInBounds_toArray, List.set_cons_zero, List.set_cons_succ]
                  refine seq_take 8 (v := ?_) rfl (by kernel_rfl) (fun _ _ _ h => h) (by rfl) (fun w' hw' => ?_) ?_
                  rotate_left
                  · go_simp; try with_reducible rfl
                  try simp only [List.getElem_toArray, List.getElem_cons_succ, List.getElem_cons_zero, Act.put, List.setIfInBounds_toArray, List.set_cons_zero, List.set_cons_succ]
                  refine seq_take 9 (v := ?_) rfl (by kernel_rfl) (fun _ _ _ h => h) (by rfl) (fun w' hw' => ?_) ?_
                  rotate_left
                  · go_simp; try with_reducible rfl
                  try simp only [List.getElem_toArray, List.getElem_cons_succ, List.getElem_cons_zero, Act.put, List.setIfInBounds_toArray, List.set_cons_zero, List.set_cons_succ]
                  refine seq_take 10 rfl (by kernel_rfl) (fun _ _ _ h => h) (by rfl) (seq_ldi rfl rfl (HA.out.2.1)) ?_
                  try simp only [List.getElem_toArray, List.getElem_cons_succ, List.getElem_cons_zero, Act.put, List.setIfInBounds_toArray, List.set_cons_zero, List.set_cons_succ]
                  refine seq_take 11 (v := ?_) rfl (by kernel_rfl) (fun _ _ _ h => h) (by rfl) (fun w' hw' => ?_) ?_
                  rotate_left
                  · go_simp; try with_reducible rfl
                  try simp only [List.getElem_toArray, List.getElem_cons_succ, List.getElem_cons_zero, Act.put, List.setIfInBounds_toArray, List.set_cons_zero, List.set_cons_succ]
                  refine seq_take 12 (v := ?_) rfl (by kernel_rfl) (fun _ _ _ h => h) (by rfl) (fun w' hw' => ?_) ?_
                  rotate_left
                  · go_simp; try with_reducible rfl
                  try simp only [List.getElem_toArray, List.getElem_cons_succ, List.getElem_cons_zero, Act.put, List.setIfInBounds_toArray, List.set_cons_zero, List.set_cons_succ]
                  refine seq_take 13 (v := ?_) rfl (by kernel_rfl) (fun _ _ _ h => h) (by rfl) (fun w' hw' => ?_) ?_
                  rotate_left
                  · go_simp; try with_reducible rfl
                  try simp only [List.getElem_toArray, List.getElem_cons_succ, List.getElem_cons_zero, Act.put, List.setIfInBounds_toArray, List.set_cons_zero, List.set_cons_succ]
                  refine seq_skip 14 rfl (by kernel_rfl) (fun _ _ _ h => h) (by rfl) ?_
                  try simp only [List.getElem_toArray, List.getElem_cons_succ, List.getElem_cons_zero, Act.put, List.setIfInBounds_toArray, List.set_cons_zero, List.set_cons_succ]
                  refine seq_skip 15 rfl (by kernel_rfl) (fun _ _ _ h => h) (by rfl) ?_
                  try simp only [List.getElem_toArray, List.getElem_cons_succ, List.getElem_cons_zero, Act.put, List.setIfInBounds_toArray, List.set_cons_zero, List.set_cons_succ]
                  refine seq_skip 16 rfl (by kernel_rfl) (fun _ _ _ h => h) (by rfl) ?_
                  try simp only [List.getElem_toArray, List.getElem_cons_succ, List.getElem_cons_zero, Act.put, List.setIfInBounds_toArray, List.set_cons_zero, List.set_cons_succ]
                  refine seq_skip 17 rfl (by kernel_rfl) (fun _ _ _ h => h) (by rfl) ?_
                  try simp only [List.getElem_toArray, List.getElem_cons_succ, List.getElem_cons_zero, Act.put, List.setIfInBounds_toArray, List.set_cons_zero, List.set_cons_succ]
                  refine seq_skip 18 rfl (by kernel_rfl) (fun _ _ _ h => h) (by rfl) ?_
                  try simp only [List.getElem_toArray, List.getElem_cons_succ, List.getElem_cons_zero, Act.put, List.setIfInBounds_toArray, List.set_cons_zero, List.set_cons_succ]
                  refine seq_skip 19 rfl (by kernel_rfl) (fun _ _ _ h => h) (by rfl) ?_
                  try simp only [List.getElem_toArray, List.getElem_cons_succ, List.getElem_cons_zero, Act.put, List.setIfInBounds_toArray, List.set_cons_zero, List.set_cons_succ]
                  refine seq_skip 20 rfl (by kernel_rfl) (fun _ _ _ h => h) (by rfl) ?_
                  try simp only [List.getElem_toArray, List.getElem_cons_succ, List.getElem_cons_zero, Act.put, List.setIfInBounds_toArray, List.set_cons_zero, List.set_cons_succ]
                  refine seq_take 21 (v := ?_) rfl (by kernel_rfl) (fun _ _ _ h => h) (by rfl) (fun w' hw' => ?_) ?_
                  rotate_left
                  · go_simp; try with_reducible rfl
                  try simp only [List.getElem_toArray, List.getElem_cons_succ, List.getElem_cons_zero, Act.put, List.setIfInBounds_toArray, List.set_cons_zero, List.set_cons_succ]
                  refine seq_take 22 (v := ?_) rfl (by kernel_rfl) (fun _ _ _ h => h) (by rfl) (fun w' hw' => ?_) ?_
                  rotate_left
                  · go_simp; try with_reducible rfl
                  try simp only [List.getElem_toArray, List.getElem_cons_succ, List.getElem_cons_zero, Act.put, List.setIfInBounds_toArray, List.set_cons_zero, List.set_cons_succ]
                  refine seq_take 23 (v := ?_) rfl (by kernel_rfl) (fun _ _ _ h => h) (by rfl) (fun w' hw' => ?_) ?_
                  rotate_left
                  · go_simp; try with_reducible rfl
                  try simp only [List.getElem_toArray, List.getElem_cons_succ, List.getElem_cons_zero, Act.put, List.setIfInBounds_toArray, List.set_cons_zero, List.set_cons_succ]
                  refine seq_take 24 rfl (by kernel_rfl) (fun _ _ _ h => h) (by rfl) (seq_ldi rfl rfl (HA.out.2.1)) ?_
                  try simp only [List.getElem_toArray, List.getElem_cons_succ, List.getElem_cons_zero, Act.put, List.setIfInBounds_toArray, List.set_cons_zero, List.set_cons_succ]
                  refine seq_take 25 (v := ?_) rfl (by kernel_rfl) (fun _ _ _ h => h) (by rfl) (fun w' hw' => ?_) ?_
                  rotate_left
                  · go_simp; try with_reducible rfl
                  try simp only [List.getElem_toArray, List.getElem_cons_succ, List.getElem_cons_zero, Act.put, List.setIfInBounds_toArray, List.set_cons_zero, List.set_cons_succ]
                  refine seq_take 26 (v := ?_) rfl (by kernel_rfl) (fun _ _ _ h => h) (by rfl) (fun w' hw' => ?_) ?_
                  rotate_left
                  · go_simp; try with_reducible rfl
                  try simp only [List.getElem_toArray, List.getElem_cons_succ, List.getElem_cons_zero, Act.put, List.setIfInBounds_toArray, List.set_cons_zero, List.set_cons_succ]
                  refine seq_take 27 (v := ?_) rfl (by kernel_rfl) (fun _ _ _ h => h) (by rfl) (fun w' hw' => ?_) ?_
                  rotate_left
                  · go_simp; try with_reducible rfl
                  try simp only [List.getElem_toArray, List.getElem_cons_succ, List.getElem_cons_zero, Act.put, List.setIfInBounds_toArray, List.set_cons_zero, List.set_cons_succ]
                  refine seq_take 28 rfl (by kernel_rfl) (fun _ _ _ h => h) (by rfl) (seq_ldi rfl rfl (HA.out.2.1)) ?_
                  try simp only [List.getElem_toArray, List.getElem_cons_succ, List.getElem_cons_zero, Act.put, List.setIfInBounds_toArray, List.set_cons_zero, List.set_cons_succ]
                  refine seq_take 29 (v := ?_) rfl (by kernel_rfl) (fun _ _ _ h => h) (by rfl) (fun w' hw' => ?_) ?_
                  rotate_left
                  · go_simp; try with_reducible rfl
                  try simp only [List.getElem_toArray, List.getElem_cons_succ, List.getElem_cons_zero, Act.put, List.setIfInBounds_toArray, List.set_cons_zero, List.set_cons_succ]
                  refine seq_take 30 (v := ?_) rfl (by kernel_rfl) (fun _ _ _ h => h) (by rfl) (fun w' hw' => ?_) ?_
                  rotate_left
                  · go_simp; try with_reducible rfl
                  try simp only [List.getElem_toArray, List.getElem_cons_succ, List.getElem_cons_zero, Act.put, List.setIfInBounds_toArray, List.set_cons_zero, List.set_cons_succ]
                  refine seq_take 31 (v := ?_) rfl (by kernel_rfl) (fun _ _ _ h => h) (by rfl) (fun w' hw' => ?_) ?_
                  rotate_left
                  · go_simp; try with_reducible rfl
                  try simp only [List.getElem_toArray, List.getElem_cons_succ, List.getElem_cons_zero, Act.put, List.setIfInBounds_toArray, List.set_cons_zero, List.set_cons_succ]
                  refine seq_take 32 (v := ?_) rfl (by kernel_rfl) (fun _ _ _ h => h) (by rfl) (fun w' hw' => ?_) ?_
                  rotate_left
                  · go_simp; try with_reducible rfl
                  try simp only [List.getElem_toArray, List.getElem_cons_succ, List.getElem_cons_zero, Act.put, List.setIfInBounds_toArray, List.set_cons_zero, List.set_cons_succ]
                  refine seq_take 33 rfl (by kernel_rfl) (fun _ _ _ h => h) (by rfl) (seq_ldi rfl rfl (HA.out.2.2.2.1)) ?_
                  try simp only [List.getElem_toArray, List.getElem_cons_succ, List.getElem_cons_zero, Act.put, List.setIfInBounds_toArray, List.set_cons_zero, List.set_cons_succ]
                  refine seq_take 34 (v := ?_) rfl (by kernel_rfl) (fun _ _ _ h => h) (by rfl) (fun w' hw' => ?_) ?_
                  rotate_left
                  · go_simp; try with_reducible rfl
                  try simp only [List.getElem_toArray, List.getElem_cons_succ, List.getElem_cons_zero, Act.put, List.setIfInBounds_toArray, List.set_cons_zero, List.set_cons_succ]
                  refine seq_take 35 rfl (by kernel_rfl) (fun _ _ _ h => h) (by rfl) (seq_ldII rfl rfl (HA.out.2.2.2.2.1)) ?_
                  try simp only [List.getElem_toArray, List.getElem_cons_succ, List.getElem_cons_zero, Act.put, List.setIfInBounds_toArray, List.set_cons_zero, List.set_cons_succ]
                  refine seq_take 36 (v := ?_) rfl (by kernel_rfl) (fun _ _ _ h => h) (by rfl) (fun w' hw' => ?_) ?_
                  rotate_left
                  · go_simp; try with_reducible rfl
                  try simp only [List.getElem_toArray, List.getElem_cons_succ, List.getElem_cons_zero, Act.put, List.setIfInBounds_toArray, List.set_cons_zero, List.set_cons_succ]
                  refine seq_take 37 rfl (by kernel_rfl) (fun _ _ _ h => h) (by rfl) (seq_ldi rfl rfl (HA.out.2.2.2.2.2)) ?_
                  try simp only [List.getElem_toArray, List.getElem_cons_succ, List.getElem_cons_zero, Act.put, List.setIfInBounds_toArray, List.set_cons_zero, List.set_cons_succ]
                  refine seq_take 38 (v := ?_) rfl (by kernel_rfl) (fun _ _ _ h => h) (by rfl) (fun w' hw' => ?_) ?_
                  rotate_left
                  · go_simp; try with_reducible rfl
                  try simp only [List.getElem_toArray, List.getElem_cons_succ, List.getElem_cons_zero, Act.put, List.setIfInBounds_toArray, List.set_cons_zero, List.set_cons_succ]
                  refine seq_take 39 (v := ?_) rfl (by kernel_rfl) (fun _ _ _ h => h) (by rfl) (fun w' hw' => ?_) ?_
                  rotate_left
                  · go_simp; try with_reducible rfl
                  try simp only [List.getElem_toArray, List.getElem_cons_succ, List.getElem_cons_zero, Act.put, List.setIfInBounds_toArray, List.set_cons_zero, List.set_cons_succ]
                  refine seq_take 40 (v := ?_) rfl (by kernel_rfl) (fun _ _ _ h => h) (by rfl) (fun w' hw' => ?_) ?_
                  rotate_left
                  · go_simp; try with_reducible rfl
                  try simp only [List.getElem_toArray, List.getElem_cons_succ, List.getElem_cons_zero, Act.put, List.setIfInBounds_toArray, List.set_cons_zero, List.set_cons_succ]
                  refine seq_done (by kernel_rfl) ?_
                  go_wp2_with fail
                  go_ret
                  exact ⟨rfl, by rw [H.out.2.2.2.2.2]; exact HCC.out.1.trans (HA.out.1.drew.mono (by omega))⟩
                  -- END B7
              · have hdf : decide (b = f0) = false := decide_eq_false hf
                have hbf : (b == f0) = false := by simp [hf]
                as_aux_lemma =>
                  -- CUT B8
                  go_wp2_with fail
                  refine seq_start (by kernel_rfl) ?_
                  refine seq_take 0 (v := ?_) rfl (by kernel_rfl) (fun _ _ _ h => h) (by rfl) (fun w' hw' => ?_) ?_
                  rotate_left
                  · go_simp; try with_reducible rfl
                  try simp only [List.getElem_toArray, List.getElem_cons_succ, List.getElem_cons_zero, Act.put, List.setIfInBounds_toArray, List.set_cons_zero, List.set_cons_succ]
                  refine seq_take 1 rfl (by kernel_rfl) (fun _ _ _ h => h) (by rfl) (seq_ldi rfl rfl (HA.out.2.1)) ?_
                  try simp only [List.getElem_toArray, List.getElem_cons_succ, List.getElem_cons_zero, Act.put, List.setIfInBounds_toArray, List.set_cons_zero, List.set_cons_succ]
                  refine seq_take 2 (v := ?_) rfl (by kernel_rfl) (fun _ _ _ h => h) (by rfl) (fun w' hw' => ?_) ?_
                  rotate_left
                  · go_simp; try with_reducible rfl
                  try simp only [List.getElem_toArray, List.getElem_cons_succ, List.getElem_cons_zero, Act.put, List.setIfInBounds_toArray, List.set_cons_zero, List.set_cons_succ]
                  refine seq_take 3 (v := ?_) rfl (by kernel_rfl) (fun _ _ _ h => h) (by rfl) (fun w' hw' => ?_) ?_
                  rotate_left
                  · go_simp; try with_reducible rfl
                  try simp only [List.getElem_toArray, List.getElem_cons_succ, List.getElem_cons_zero, Act.put, List.setIfInBounds_toArray, List.set_cons_zero, List.set_cons_succ]
                  refine seq_take 4 (v := ?_) rfl (by kernel_rfl) (fun _ _ _ h => h) (by rfl) (fun w' hw' => ?_) ?_
                  rotate_left
                  · go_simp; try with_reducible rfl
                  try simp only [List.getElem_toArray, List.getElem_cons_succ, List.getElem_cons_zero, Act.put, List.setIfInBounds_toArray, List.set_cons_zero, List.set_cons_succ]
                  refine seq_take 5 rfl (by kernel_rfl) (fun _ _ _ h => h) (by rfl) (seq_ldi rfl rfl (HA.out.2.1)) ?_
                  try simp only [List.getElem_toArray, List.getElem_cons_succ, List.getElem_cons_zero, Act.put, List.setIfInBounds_toArray, List.set_cons_zero, List.set_cons_succ]
                  refine seq_take 6 (v := ?_) rfl (by kernel_rfl) (fun _ _ _ h => h) (by rfl) (fun w' hw' => ?_) ?_
                  rotate_left
                  · go_simp; try with_reducible rfl
                  try simp only [List.getElem_toArray, List.getElem_cons_succ, List.getElem_cons_zero, Act.put, List.setIfInBounds_toArray, List.set_cons_zero, List.set_cons_succ]
                  refine seq_take 7 (v := ?_) rfl (by kernel_rfl) (fun _ _ _ h => h) (by rfl) (fun w' hw' => ?_) ?_
                  rotate_left
                  · go_simp; try with_reducible rfl
                  try simp only [List.getElem_toArray, List.getElem_cons_succ, List.getElem_cons_zero, Act.put, List.setIfInBounds_toArray, List.set_cons_zero, List.set_cons_succ]
                  refine seq_take 8 (v := ?_) rfl (by kernel_rfl) (fun _ _ _ h => h) (by rfl) (fun w' hw' => ?_) ?_
                  rotate_left
                  · go_simp; try with_reducible rfl
                  try simp only [List.getElem_toArray, List.getElem_cons_succ, List.getElem_cons_zero, Act.put, List.setIfInBounds_toArray, List.set_cons_zero, List.set_cons_succ]
                  refine seq_take 9 (v := ?_) rfl (by kernel_rfl) (fun _ _ _ h => h) (by rfl) (fun w' hw' => ?_) ?_
                  rotate_left
                  · go_simp; try with_reducible rfl
                  try simp only [List.getElem_toArray, List.getElem_cons_succ, List.getElem_cons_zero, Act.put, List.setIfInBounds_toArray, List.set_cons_zero, List.set_cons_succ]
                  refine seq_take 10 rfl (by kernel_rfl) (fun _ _ _ h => h) (by rfl) (seq_ldi rfl rfl (HA.out.2.1)) ?_
                  try simp only [List.getElem_toArray, List.getElem_cons_succ, List.getElem_cons_zero, Act.put, List.setIfInBounds_toArray, List.set_cons_zero, List.set_cons_succ]
                  refine seq_take 11 (v := ?_) rfl (by kernel_rfl) (fun _ _ _ h => h) (by rfl) (fun w' hw' => ?_) ?_
                  rotate_left
                  · go_simp; try with_reducible rfl
                  try simp only [List.getElem_toArray, List.getElem_cons_succ, List.getElem_cons_zero, Act.put, List.setIfInBounds_toArray, List.set_cons_zero, List.set_cons_succ]
                  refine seq_take 12 (v := ?_) rfl (by kernel_rfl) (fun _ _ _ h => h) (by rfl) (fun w' hw' => ?_) ?_
                  rotate_left
                  · go_simp; try with_reducible rfl
                  try simp only [List.getElem_toArray, List.getElem_cons_succ, List.getElem_cons_zero, Act.put, List.setIfInBounds_toArray, List.set_cons_zero, List.set_cons_succ]
                  refine seq_take 13 (v := ?_) rfl (by kernel_rfl) (fun _ _ _ h => h) (by rfl) (fun w' hw' => ?_) ?_
                  rotate_left
                  · go_simp; try with_reducible rfl
                  try simp only [List.getElem_toArray, List.getElem_cons_succ, List.getElem_cons_zero, Act.put, List.setIfInBounds_toArray, List.set_cons_zero, List.set_cons_succ]
                  refine seq_skip 14 rfl (by kernel_rfl) (fun _ _ _ h => h) (by rfl) ?_
                  try simp only [List.getElem_toArray, List.getElem_cons_succ, List.getElem_cons_zero, Act.put, List.setIfInBounds_toArray, List.set_cons_zero, List.set_cons_succ]
                  refine seq_skip 15 rfl (by kernel_rfl) (fun _ _ _ h => h) (by rfl) ?_
                  try simp only [List.getElem_toArray, List.getElem_cons_succ, List.getElem_cons_zero, Act.put, List.setIfInBounds_toArray, List.set_cons_zero, List.set_cons_succ]
                  refine seq_skip 16 rfl (by kernel_rfl) (fun _ _ _ h => h) (by rfl) ?_
                  try simp only [List.getElem_toArray, List.getElem_cons_succ, List.getElem_cons_zero, Act.put, List.setIfInBounds_toArray, List.set_cons_zero, List.set_cons_succ]
                  refine seq_skip 17 rfl (by kernel_rfl) (fun _ _ _ h => h) (by rfl) ?_
                  try simp only [List.getElem_toArray, List.getElem_cons_succ, List.getElem_cons_zero, Act.put, List.setIfInBounds_toArray, List.set_cons_zero, List.set_cons_succ]
                  refine seq_skip 18 rfl (by kernel_rfl) (fun _ _ _ h => h) (by rfl) ?_
                  try simp only [List.getElem_toArray, List.getElem_cons_succ, List.getElem_cons_zero, Act.put, List.setIfInBounds_toArray, List.set_cons_zero, List.set_cons_succ]
                  refine seq_skip 19 rfl (by kernel_rfl) (fun _ _ _ h => h) (by rfl) ?_
                  try simp only [List.getElem_toArray, List.getElem_cons_succ, List.getElem_cons_zero, Act.put, List.setIfInBounds_toArray, List.set_cons_zero, List.set_cons_succ]
                  refine seq_skip 20 rfl (by kernel_rfl) (fun _ _ _ h => h) (by rfl) ?_
                  try simp only [List.getElem_toArray, List.getElem_cons_succ, List.getElem_cons_zero, Act.put, List.setIfInBounds_toArray, List.set_cons_zero, List.set_cons_succ]
                  refine seq_take 21 (v := ?_) rfl (by kernel_rfl) (fun _ _ _ h => h) (by rfl) (fun w' hw' => ?_) ?_
                  rotate_left
                  · go_simp; try with_reducible rfl
                  try simp only [List.getElem_toArray, List.getElem_cons_succ, List.getElem_cons_zero, Act.put, List.setIfInBounds_toArray, List.set_cons_zero, List.set_cons_succ]
                  refine seq_take 22 (v := ?_) rfl (by kernel_rfl) (fun _ _ _ h => h) (by rfl) (fun w' hw' => ?_) ?_
                  rotate_left
                  · go_simp; try with_reducible rfl
                  try simp only [List.getElem_toArray, List.getElem_cons_succ, List.getElem_cons_zero, Act.put, List.setIfInBounds_toArray, List.set_cons_zero, List.set_cons_succ]
                  refine seq_take 23 (v := ?_) rfl (by kernel_rfl) (fun _ _ _ h => h) (by rfl) (fun w' hw' => ?_) ?_
                  rotate_left
                  · go_simp; try with_reducible rfl
                  try simp only [List.getElem_toArray, List.getElem_cons_succ, List.getElem_cons_zero, Act.put, List.setIfInBounds_toArray, List.set_cons_zero, List.set_cons_succ]
                  refine seq_take 24 rfl (by kernel_rfl) (fun _ _ _ h => h) (by rfl) (seq_ldi rfl rfl (HA.out.2.1)) ?_
                  try simp only [List.getElem_toArray, List.getElem_cons_succ, List.getElem_cons_zero, Act.put, List.setIfInBounds_toArray, List.set_cons_zero, List.set_cons_succ]
                  refine seq_take 25 (v := ?_) rfl (by kernel_rfl) (fun _ _ _ h => h) (by rfl) (fun w' hw' => ?_) ?_
                  rotate_left
                  · go_simp; try with_reducible rfl
                  try simp only [List.getElem_toArray, List.getElem_cons_succ, List.getElem_cons_zero, Act.put, List.setIfInBounds_toArray, List.set_cons_zero, List.set_cons_succ]
                  refine seq_take 26 (v := ?_) rfl (by kernel_rfl) (fun _ _ _ h => h) (by rfl) (fun w' hw' => ?_) ?_
                  rotate_left
                  · go_simp; try with_reducible rfl
                  try simp only [List.getElem_toArray, List.getElem_cons_succ, List.getElem_cons_zero, Act.put, List.setIfInBounds_toArray, List.set_cons_zero, List.set_cons_succ]
                  refine seq_take 27 (v := ?_) rfl (by kernel_rfl) (fun _ _ _ h => h) (by rfl) (fun w' hw' => ?_) ?_
                  rotate_left
                  · go_simp; try with_reducible rfl
                  try simp only [List.getElem_toArray, List.getElem_cons_succ, List.getElem_cons_zero, Act.put, List.setIfInBounds_toArray, List.set_cons_zero, List.set_cons_succ]
                  refine seq_take 28 rfl (by kernel_rfl) (fun _ _ _ h => h) (by rfl) (seq_ldi rfl rfl (HA.out.2.1)) ?_
                  try simp only [List.getElem_toArray, List.getElem_cons_succ, List.getElem_cons_zero, Act.put, List.setIfInBounds_toArray, List.set_cons_zero, List.set_cons_succ]
                  refine seq_take 29 (v := ?_) rfl (by kernel_rfl) (fun _ _ _ h => h) (by rfl) (fun w' hw' => ?_) ?_
                  rotate_left
                  · go_simp; try with_reducible rfl
                  try simp only [List.getElem_toArray, List.getElem_cons_succ, List.getElem_cons_zero, Act.put, List.setIfInBounds_toArray, List.set_cons_zero, List.set_cons_succ]
                  refine seq_take 30 (v := ?_) rfl (by kernel_rfl) (fun _ _ _ h => h) (by rfl) (fun w' hw' => ?_) ?_
                  rotate_left
                  · go_simp; try with_reducible rfl
                  try simp only [List.getElem_toArray, List.getElem_cons_succ, List.getElem_cons_zero, Act.put, List.setIfInBounds_toArray, List.set_cons_zero, List.set_cons_succ]
                  refine seq_take 31 (v := ?_) rfl (by kernel_rfl) (fun _ _ _ h => h) (by rfl) (fun w' hw' => ?_) ?_
                  rotate_left
                  · go_simp; try with_reducible rfl
                  try simp only [List.getElem_toArray, List.getElem_cons_succ, List.getElem_cons_zero, Act.put, List.setIfInBounds_toArray, List.set_cons_zero, List.set_cons_succ]
                  refine seq_take 32 (v := ?_) rfl (by kernel_rfl) (fun _ _ _ h => h) (by rfl) (fun w' hw' => ?_) ?_
                  rotate_left
                  · go_simp; try with_reducible rfl
                  try simp only [List.getElem_toArray, List.getElem_cons_succ, List.getElem_cons_zero, Act.put, List.setIfInBounds_toArray, List.set_cons_zero, List.set_cons_succ]
                  refine seq_take 33 rfl (by kernel_rfl) (fun _ _ _ h => h) (by rfl) (seq_ldi rfl rfl (HA.out.2.2.2.1)) ?_
                  try simp only [List.getElem_toArray, List.getElem_cons_succ, List.getElem_cons_zero, Act.put, List.setIfInBounds_toArray, List.set_cons_zero, List.set_cons_succ]
                  refine seq_take 34 (v := ?_) rfl (by kernel_rfl) (fun _ _ _ h => h) (by rfl) (fun w' hw' => ?_) ?_
                  rotate_left
                  · go_simp; try with_reducible rfl
                  try simp only [List.getElem_toArray, List.getElem_cons_succ, List.getElem_cons_zero, Act.put, List.setIfInBounds_toArray, List.set_cons_zero, List.set_cons_succ]
                  refine seq_take 35 rfl (by kernel_rfl) (fun _ _ _ h => h) (by rfl) (seq_ldII rfl rfl (HA.out.2.2.2.2.1)) ?_
                  try simp only [List.getElem_toArray, List.getElem_cons_succ, List.getElem_cons_zero, Act.put, List.setIfInBounds_toArray, List.set_cons_zero, List.set_cons_succ]
                  refine seq_take 36 (v := ?_) rfl (by kernel_rfl) (fun _ _ _ h => h) (by rfl) (fun w' hw' => ?_) ?_
                  rotate_left
                  · go_simp; try with_reducible rfl
                  try simp only [List.getElem_toArray, List.getElem_cons_succ, List.getElem_cons_zero, Act.put, List.setIfInBounds_toArray, List.set_cons_zero, List.set_cons_succ]
                  refine seq_take 37 rfl (by kernel_rfl) (fun _ _ _ h => h) (by rfl) (seq_ldi rfl rfl (HA.out.2.2.2.2.2)) ?_
                  try simp only [List.getElem_toArray, List.getElem_cons_succ, List.getElem_cons_zero, Act.put, List.setIfInBounds_toArray, List.set_cons_zero, List.set_cons_succ]
                  refine seq_take 38 (v := ?_) rfl (by kernel_rfl) (fun _ _ _ h => h) (by rfl) (fun w' hw' => ?_) ?_
                  rotate_left
                  · go_simp; try with_reducible rfl
                  try simp only [List.getElem_toArray, List.getElem_cons_succ, List.getElem_cons_zero, Act.put, List.setIfInBounds_toArray, List.set_cons_zero, List.set_cons_succ]
                  refine seq_take 39 (v := ?_) rfl (by kernel_rfl) (fun _ _ _ h => h) (by rfl) (fun w' hw' => ?_) ?_
                  rotate_left
                  · go_simp; try with_reducible rfl
                  try simp only [List.getElem_toArray, List.getElem_cons_succ, List.getElem_cons_zero, Act.put, List.setIfInBounds_toArray, List.set_cons_zero, List.set_cons_succ]
                  refine seq_take 40 (v := ?_) rfl (by kernel_rfl) (fun _ _ _ h => h) (by rfl) (fun w' hw' => ?_) ?_
                  rotate_left
                  · go_simp; try with_reducible rfl
                  try simp only [List.getElem_toArray, List.getElem_cons_succ, List.getElem_cons_zero, Act.put, List.setIfInBounds_toArray, List.set_cons_zero, List.set_cons_succ]
                  refine seq_done (by kernel_rfl) ?_
                  go_wp2_with fail
                  go_roundw
                  case rel => exact ⟨i + 1, by omega, by simp, HA.out.1.drew, HX.out ⟨fun h => absurd h (by simp only; omega), fun _ => ⟨by simp only; omega, by simp only; omega⟩⟩⟩
                  case measure => simp [intOf]; omega
                  -- END B8
            · have hdle : decide (op ≤ 22) = false := decide_eq_false hle
              as_aux_lemma =>
                -- CUT B9
                go_wp2_with fail
                refine seq_start (by kernel_rfl) ?_
                refine seq_take 0 (v := ?_) rfl (by kernel_rfl) (fun _ _ _ h => h) (by rfl) (fun w' hw' => ?_) ?_
                rotate_left
                · go_simp; try with_reducible rfl
                try simp only [List.getElem_toArray, List.getElem_cons_succ, List.getElem_cons_zero, Act.put, List.setIfInBounds_toArray, List.set_cons_zero, List.set_cons_succ]
                refine seq_take 1 rfl (by kernel_rfl) (fun _ _ _ h => h) (by rfl) (seq_ldi rfl rfl (HA.out.2.1)) ?_
                try simp only [List.getElem_toArray, List.getElem_cons_succ, List.getElem_cons_zero, Act.put, List.setIfInBounds_toArray, List.set_cons_zero, List.set_cons_succ]
                refine seq_take 2 (v := ?_) rfl (by kernel_rfl) (fun _ _ _ h => h) (by rfl) (fun w' hw' => ?_) ?_
                rotate_left
                · go_simp; try with_reducible rfl
                try simp only [List.getElem_toArray, List.getElem_cons_succ, List.getElem_cons_zero, Act.put, List.setIfInBounds_toArray, List.set_cons_zero, List.set_cons_succ]
                refine seq_take 3 (v := ?_) rfl (by kernel_rfl) (fun _ _ _ h => h) (by rfl) (fun w' hw' => ?_) ?_
                rotate_left
                · go_simp; try with_reducible rfl
                try simp only [List.getElem_toArray, List.getElem_cons_succ, List.getElem_cons_zero, Act.put, List.setIfInBounds_toArray, List.set_cons_zero, List.set_cons_succ]
                refine seq_take 4 (v := ?_) rfl (by kernel_rfl) (fun _ _ _ h => h) (by rfl) (fun w' hw' => ?_) ?_
                rotate_left
                · go_simp; try with_reducible rfl
                try simp only [List.getElem_toArray, List.getElem_cons_succ, List.getElem_cons_zero, Act.put, List.setIfInBounds_toArray, List.set_cons_zero, List.set_cons_succ]
                refine seq_take 5 rfl (by kernel_rfl) (fun _ _ _ h => h) (by rfl) (seq_ldi rfl rfl (HA.out.2.1)) ?_
                try simp only [List.getElem_toArray, List.getElem_cons_succ, List.getElem_cons_zero, Act.put, List.setIfInBounds_toArray, List.set_cons_zero, List.set_cons_succ]
                refine seq_take 6 (v := ?_) rfl (by kernel_rfl) (fun _ _ _ h => h) (by rfl) (fun w' hw' => ?_) ?_
                rotate_left
                · go_simp; try with_reducible rfl
                try simp only [List.getElem_toArray, List.getElem_cons_succ, List.getElem_cons_zero, Act.put, List.setIfInBounds_toArray, List.set_cons_zero, List.set_cons_succ]
                refine seq_take 7 (v := ?_) rfl (by kernel_rfl) (fun _ _ _ h => h) (by rfl) (fun w' hw' => ?_) ?_
                rotate_left
                · go_simp; try with_reducible rfl
                try simp only [List.getElem_toArray, List.getElem_cons_succ, List.getElem_cons_zero, Act.put, List.setIfInBounds_toArray, List.set_cons_zero, List.set_cons_succ]
                refine seq_take 8 (v := ?_) rfl (by kernel_rfl) (fun _ _ _ h => h) (by rfl) (fun w' hw' => ?_) ?_
                rotate_left
                · go_simp; try with_reducible rfl
                try simp only [List.getElem_toArray, List.getElem_cons_succ, List.getElem_cons_zero, Act.put, List.setIfInBounds_toArray, List.set_cons_zero, List.set_cons_succ]
                refine seq_take 9 (v := ?_) rfl (by kernel_rfl) (fun _ _ _ h => h) (by rfl) (fun w' hw' => ?_) ?_
                rotate_left
                · go_simp; try with_reducible rfl
                try simp only [List.getElem_toArray, List.getElem_cons_succ, List.getElem_cons_zero, Act.put, List.setIfInBounds_toArray, List.set_cons_zero, List.set_cons_succ]
                refine seq_take 10 rfl (by kernel_rfl) (fun _ _ _ h => h) (by rfl) (seq_ldi rfl rfl (HA.out.2.1)) ?_
                try simp only [List.getElem_toArray, List.getElem_cons_succ, List.getElem_cons_zero, Act.put, List.setIfInBounds_toArray, List.set_cons_zero, List.set_cons_succ]
                refine seq_take 11 (v := ?_) rfl (by kernel_rfl) (fun _ _ _ h => h) (by rfl) (fun w' hw' => ?_) ?_
                rotate_left
                · go_simp; try with_reducible rfl
                try simp only [List.getElem_toArray, List.getElem_cons_succ, List.getElem_cons_zero, Act.put, List.setIfInBounds_toArray, List.set_cons_zero, List.set_cons_succ]
                refine seq_take 12 (v := ?_) rfl (by kernel_rfl) (fun _ _ _ h => h) (by rfl) (fun w' hw' => ?_) ?_
                rotate_left
                · go_simp; try with_reducible rfl
                try simp only [List.getElem_toArray, List.getElem_cons_succ, List.getElem_cons_zero, Act.put, List.setIfInBounds_toArray, List.set_cons_zero, List.set_cons_succ]
                refine seq_take 13 (v := ?_) rfl (by kernel_rfl) (fun _ _ _ h => h) (by rfl) (fun w' hw' => ?_) ?_
                rotate_left
                · go_simp; try with_reducible rfl
                try simp only [List.getElem_toArray, List.getElem_cons_succ, List.getElem_cons_zero, Act.put, List.setIfInBounds_toArray, List.set_cons_zero, List.set_cons_succ]
                refine seq_skip 14 rfl (by kernel_rfl) (fun _ _ _ h => h) (by rfl) ?_
                try simp only [List.getElem_toArray, List.getElem_cons_succ, List.getElem_cons_zero, Act.put, List.setIfInBounds_toArray, List.set_cons_zero, List.set_cons_succ]
                refine seq_skip 15 rfl (by kernel_rfl) (fun _ _ _ h => h) (by rfl) ?_
                try simp only [List.getElem_toArray, List.getElem_cons_succ, List.getElem_cons_zero, Act.put, List.setIfInBounds_toArray, List.set_cons_zero, List.set_cons_succ]
                refine seq_skip 16 rfl (by kernel_rfl) (fun _ _ _ h => h) (by rfl) ?_
                try simp only [List.getElem_toArray, List.getElem_cons_succ, List.getElem_cons_zero, Act.put, List.setIfInBounds_toArray, List.set_cons_zero, List.set_cons_succ]
                refine seq_skip 17 rfl (by kernel_rfl) (fun _ _ _ h => h) (by rfl) ?_
                try simp only [List.getElem_toArray, List.getElem_cons_succ, List.getElem_cons_zero, Act.put, List.setIfInBounds_toArray, List.set_cons_zero, List.set_cons_succ]
                refine seq_skip 18 rfl (by kernel_rfl) (fun _ _ _ h => h) (by rfl) ?_
                try simp only [List.getElem_toArray, List.getElem_cons_succ, List.getElem_cons_zero, Act.put, List.setIfInBounds_toArray, List.set_cons_zero, List.set_cons_succ]
                refine seq_skip 19 rfl (by kernel_rfl) (fun _ _ _ h => h) (by rfl) ?_
                try simp only [List.getElem_toArray, List.getElem_cons_succ, List.getElem_cons_zero, Act.put, List.setIfInBounds_toArray, List.set_cons_zero, List.set_cons_succ]
                refine seq_skip 20 rfl (by kernel_rfl) (fun _ _ _ h => h) (by rfl) ?_
                try simp only [List.getElem_toArray, List.getElem_cons_succ, List.getElem_cons_zero, Act.put, List.setIfInBounds_toArray, List.set_cons_zero, List.set_cons_succ]
                refine seq_take 21 (v := ?_) rfl (by kernel_rfl) (fun _ _ _ h => h) (by rfl) (fun w' hw' => ?_) ?_
                rotate_left
                · go_simp; try with_reducible rfl
                try simp only [List.getElem_toArray, List.getElem_cons_succ, List.getElem_cons_zero, Act.put, List.setIfInBounds_toArray, List.set_cons_zero, List.set_cons_succ]
                refine seq_take 22 (v := ?_) rfl (by kernel_rfl) (fun _ _ _ h => h) (by rfl) (fun w' hw' => ?_) ?_
                rotate_left
                · go_simp; try with_reducible rfl
                try simp only [List.getElem_toArray, List.getElem_cons_succ, List.getElem_cons_zero, Act.put, List.setIfInBounds_toArray, List.set_cons_zero, List.set_cons_succ]
                refine seq_take 23 (v := ?_) rfl (by kernel_rfl) (fun _ _ _ h => h) (by rfl) (fun w' hw' => ?_) ?_
                rotate_left
                · go_simp; try with_reducible rfl
                try simp only [List.getElem_toArray, List.getElem_cons_succ, List.getElem_cons_zero, Act.put, List.setIfInBounds_toArray, List.set_cons_zero, List.set_cons_succ]
                refine seq_take 24 rfl (by kernel_rfl) (fun _ _ _ h => h) (by rfl) (seq_ldi rfl rfl (HA.out.2.1)) ?_
                try simp only [List.getElem_toArray, List.getElem_cons_succ, List.getElem_cons_zero, Act.put, List.setIfInBounds_toArray, List.set_cons_zero, List.set_cons_succ]
                refine seq_take 25 (v := ?_) rfl (by kernel_rfl) (fun _ _ _ h => h) (by rfl) (fun w' hw' => ?_) ?_
                rotate_left
                · go_simp; try with_reducible rfl
                try simp only [List.getElem_toArray, List.getElem_cons_succ, List.getElem_cons_zero, Act.put, List.setIfInBounds_toArray, List.set_cons_zero, List.set_cons_succ]
                refine seq_take 26 (v := ?_) rfl (by kernel_rfl) (fun _ _ _ h => h) (by rfl) (fun w' hw' => ?_) ?_
                rotate_left
                · go_simp; try with_reducible rfl
                try simp only [List.getElem_toArray, List.getElem_cons_succ, List.getElem_cons_zero, Act.put, List.setIfInBounds_toArray, List.set_cons_zero, List.set_cons_succ]
                refine seq_take 27 (v := ?_) rfl (by kernel_rfl) (fun _ _ _ h => h) (by rfl) (fun w' hw' => ?_) ?_
                rotate_left
                · go_simp; try with_reducible rfl
                try simp only [List.getElem_toArray, List.getElem_cons_succ, List.getElem_cons_zero, Act.put, List.setIfInBounds_toArray, List.set_cons_zero, List.set_cons_succ]
                refine seq_take 28 rfl (by kernel_rfl) (fun _ _ _ h => h) (by rfl) (seq_ldi rfl rfl (HA.out.2.1)) ?_
                try simp only [List.getElem_toArray, List.getElem_cons_succ, List.getElem_cons_zero, Act.put, List.setIfInBounds_toArray, List.set_cons_zero, List.set_cons_succ]
                refine seq_take 29 (v := ?_) rfl (by kernel_rfl) (fun _ _ _ h => h) (by rfl) (fun w' hw' => ?_) ?_
                rotate_left
                · go_simp; try with_reducible rfl
                try simp only [List.getElem_toArray, List.getElem_cons_succ, List.getElem_cons_zero, Act.put, List.setIfInBounds_toArray, List.set_cons_zero, List.set_cons_succ]
                refine seq_take 30 (v := ?_) rfl (by kernel_rfl) (fun _ _ _ h => h) (by rfl) (fun w' hw' => ?_) ?_
                rotate_left
                · go_simp; try with_reducible rfl
                try simp only [List.getElem_toArray, List.getElem_cons_succ, List.getElem_cons_zero, Act.put, List.setIfInBounds_toArray, List.set_cons_zero, List.set_cons_succ]
                refine seq_take 31 (v := ?_) rfl (by kernel_rfl) (fun _ _ _ h => h) (by rfl) (fun w' hw' => ?_) ?_
                rotate_left
                · go_simp; try with_reducible rfl
                try simp only [List.getElem_toArray, List.getElem_cons_succ, List.getElem_cons_zero, Act.put, List.setIfInBounds_toArray, List.set_cons_zero, List.set_cons_succ]
                refine seq_skip 32 rfl (by kernel_rfl) (fun _ _ _ h => h) (by rfl) ?_
                try simp only [List.getElem_toArray, List.getElem_cons_succ, List.getElem_cons_zero, Act.put, List.setIfInBounds_toArray, List.set_cons_zero, List.set_cons_succ]
                refine seq_skip 33 rfl (by kernel_rfl) (fun _ _ _ h => h) (by rfl) ?_
                try simp only [List.getElem_toArray, List.getElem_cons_succ, List.getElem_cons_zero, Act.put, List.setIfInBounds_toArray, List.set_cons_zero, List.set_cons_succ]
                refine seq_skip 34 rfl (by kernel_rfl) (fun _ _ _ h => h) (by rfl) ?_
                try simp only [List.getElem_toArray, List.getElem_cons_succ, List.getElem_cons_zero, Act.put, List.setIfInBounds_toArray, List.set_cons_zero, List.set_cons_succ]
                refine seq_skip 35 rfl (by kernel_rfl) (fun _ _ _ h => h) (by rfl) ?_
                try simp only [List.getElem_toArray, List.getElem_cons_succ, List.getElem_cons_zero, Act.put, List.setIfInBounds_toArray, List.set_cons_zero, List.set_cons_succ]
                refine seq_skip 36 rfl (by kernel_rfl) (fun _ _ _ h => h) (by rfl) ?_
                try simp only [List.getElem_toArray, List.getElem_cons_succ, List.getElem_cons_zero, Act.put, List.setIfInBounds_toArray, List.set_cons_zero, List.set_cons_succ]
                refine seq_skip 37 rfl (by kernel_rfl) (fun _ _ _ h => h) (by rfl) ?_
                try simp only [List.getElem_toArray, List.getElem_cons_succ, List.getElem_cons_zero, Act.put, List.setIfInBounds_toArray, List.set_cons_zero, List.set_cons_succ]
                refine seq_skip 38 rfl (by kernel_rfl) (fun _ _ _ h => h) (by rfl) ?_
                try simp only [List.getElem_toArray, List.getElem_cons_succ, List.getElem_cons_zero, Act.put, List.setIfInBounds_toArray, List.set_cons_zero, List.set_cons_succ]
                refine seq_take 39 (v := ?_) rfl (by kernel_rfl) (fun _ _ _ h => h) (by rfl) (fun w' hw' => ?_) ?_
                rotate_left
                · go_simp; try with_reducible rfl
                try simp only [List.getElem_toArray, List.getElem_cons_succ, List.getElem_cons_zero, Act.put, List.setIfInBounds_toArray, List.set_cons_zero, List.set_cons_succ]
                refine seq_take 40 (v := ?_) rfl (by kernel_rfl) (fun _ _ _ h => h) (by rfl) (fun w' hw' => ?_) ?_
                rotate_left
                · go_simp; try with_reducible rfl
                try simp only [List.getElem_toArray, List.getElem_cons_succ, List.getElem_cons_zero, Act.put, List.setIfInBounds_toArray, List.set_cons_zero, List.set_cons_succ]
                refine seq_done (by kernel_rfl) ?_
                go_wp2_with fail
                go_roundw
                case rel => exact ⟨i + 1, by omega, by simp, HA.out.1.drew, HX.out ⟨fun h => absurd h (by simp only; omega), fun h => absurd h (by simp only; omega)⟩⟩
                case measure => simp [intOf]; omega
                -- END B9
          · have hdge : decide (20 ≤ op) = false := decide_eq_false hge
            as_aux_lemma =>
              -- CUT B10
              go_wp2_with fail
              refine seq_start (by kernel_rfl) ?_
              refine seq_take 0 (v := ?_) rfl (by kernel_rfl) (fun _ _ _ h => h) (by rfl) (fun w' hw' => ?_) ?_
              rotate_left
              · go_simp; try with_reducible rfl
              try simp only [List.getElem_toArray, List.getElem_cons_succ, List.getElem_cons_zero, Act.put, List.setIfInBounds_toArray, List.set_cons_zero, List.set_cons_succ]
              refine seq_take 1 rfl (by kernel_rfl) (fun _ _ _ h => h) (by rfl) (seq_ldi rfl rfl (HA.out.2.1)) ?_
              try simp only [List.getElem_toArray, List.getElem_cons_succ, List.getElem_cons_zero, Act.put, List.setIfInBounds_toArray, List.set_cons_zero, List.set_cons_succ]
              refine seq_take 2 (v := ?_) rfl (by kernel_rfl) (fun _ _ _ h => h) (by rfl) (fun w' hw' => ?_) ?_
              rotate_left
              · go_simp; try with_reducible rfl
              try simp only [List.getElem_toArray, List.getElem_cons_succ, List.getElem_cons_zero, Act.put, List.setIfInBounds_toArray, List.set_cons_zero, List.set_cons_succ]
              refine seq_take 3 (v := ?_) rfl (by kernel_rfl) (fun _ _ _ h => h) (by rfl) (fun w' hw' => ?_) ?_
              rotate_left
              · go_simp; try with_reducible rfl
              try simp only [List.getElem_toArray, List.getElem_cons_succ, List.getElem_cons_zero, Act.put, List.setIfInBounds_toArray, List.set_cons_zero, List.set_cons_succ]
              refine seq_take 4 (v := ?_) rfl (by kernel_rfl) (fun _ _ _ h => h) (by rfl) (fun w' hw' => ?_) ?_
              rotate_left
              · go_simp; try with_reducible rfl
              try simp only [List.getElem_toArray, List.getElem_cons_succ, List.getElem_cons_zero, Act.put, List.setIfInBounds_toArray, List.set_cons_zero, List.set_cons_succ]
              refine seq_take 5 rfl (by kernel_rfl) (fun _ _ _ h => h) (by rfl) (seq_ldi rfl rfl (HA.out.2.1)) ?_
              try simp only [List.getElem_toArray, List.getElem_cons_succ, List.getElem_cons_zero, Act.put, List.setIfInBounds_toArray, List.set_cons_zero, List.set_cons_succ]
              refine seq_take 6 (v := ?_) rfl (by kernel_rfl) (fun _ _ _ h => h) (by rfl) (fun w' hw' => ?_) ?_
              rotate_left
              · go_simp; try with_reducible rfl
              try simp only [List.getElem_toArray, List.getElem_cons_succ, List.getElem_cons_zero, Act.put, List.setIfInBounds_toArray, List.set_cons_zero, List.set_cons_succ]
              refine seq_take 7 (v := ?_) rfl (by kernel_rfl) (fun _ _ _ h => h) (by rfl) (fun w' hw' => ?_) ?_
              rotate_left
              · go_simp; try with_reducible rfl
              try simp only [List.getElem_toArray, List.getElem_cons_succ, List.getElem_cons_zero, Act.put, List.setIfInBounds_toArray, List.set_cons_zero, List.set_cons_succ]
              refine seq_take 8 (v := ?_) rfl (by kernel_rfl) (fun _ _ _ h => h) (by rfl) (fun w' hw' => ?_) ?_
              rotate_left
              · go_simp; try with_reducible rfl
              try simp only [List.getElem_toArray, List.getElem_cons_succ, List.getElem_cons_zero, Act.put, List.setIfInBounds_toArray, List.set_cons_zero, List.set_cons_succ]
              refine seq_take 9 (v := ?_) rfl (by kernel_rfl) (fun _ _ _ h => h) (by rfl) (fun w' hw' => ?_) ?_
              rotate_left
              · go_simp; try with_reducible rfl
              try simp only [List.getElem_toArray, List.getElem_cons_succ, List.getElem_cons_zero, Act.put, List.setIfInBounds_toArray, List.set_cons_zero, List.set_cons_succ]
              refine seq_take 10 rfl (by kernel_rfl) (fun _ _ _ h => h) (by rfl) (seq_ldi rfl rfl (HA.out.2.1)) ?_
              try simp only [List.getElem_toArray, List.getElem_cons_succ, List.getElem_cons_zero, Act.put, List.setIfInBounds_toArray, List.set_cons_zero, List.set_cons_succ]
              refine seq_take 11 (v := ?_) rfl (by kernel_rfl) (fun _ _ _ h => h) (by rfl) (fun w' hw' => ?_) ?_
              rotate_left
              · go_simp; try with_reducible rfl
              try simp only [List.getElem_toArray, List.getElem_cons_succ, List.getElem_cons_zero, Act.put, List.setIfInBounds_toArray, List.set_cons_zero, List.set_cons_succ]
              refine seq_take 12 (v := ?_) rfl (by kernel_rfl) (fun _ _ _ h => h) (by rfl) (fun w' hw' => ?_) ?_
              rotate_left
              · go_simp; try with_reducible rfl
              try simp only [List.getElem_toArray, List.getElem_cons_succ, List.getElem_cons_zero, Act.put, List.setIfInBounds_toArray, List.set_cons_zero, List.set_cons_succ]
              refine seq_take 13 (v := ?_) rfl (by kernel_rfl) (fun _ _ _ h => h) (by rfl) (fun w' hw' => ?_) ?_
              rotate_left
              · go_simp; try with_reducible rfl
              try simp only [List.getElem_toArray, List.getElem_cons_succ, List.getElem_cons_zero, Act.put, List.setIfInBounds_toArray, List.set_cons_zero, List.set_cons_succ]
              refine seq_skip 14 rfl (by kernel_rfl) (fun _ _ _ h => h) (by rfl) ?_
              try simp only [List.getElem_toArray, List.getElem_cons_succ, List.getElem_cons_zero, Act.put, List.setIfInBounds_toArray, List.set_cons_zero, List.set_cons_succ]
              refine seq_skip 15 rfl (by kernel_rfl) (fun _ _ _ h => h) (by rfl) ?_
              try simp only [List.getElem_toArray, List.getElem_cons_succ, List.getElem_cons_zero, Act.put, List.setIfInBounds_toArray, List.set_cons_zero, List.set_cons_succ]
              refine seq_skip 16 rfl (by kernel_rfl) (fun _ _ _ h => h) (by rfl) ?_
              try simp only [List.getElem_toArray, List.getElem_cons_succ, List.getElem_cons_zero, Act.put, List.setIfInBounds_toArray, List.set_cons_zero, List.set_cons_succ]
              refine seq_skip 17 rfl (by kernel_rfl) (fun _ _ _ h => h) (by rfl) ?_
              try simp only [List.getElem_toArray, List.getElem_cons_succ, List.getElem_cons_zero, Act.put, List.setIfInBounds_toArray, List.set_cons_zero, List.set_cons_succ]
              refine seq_skip 18 rfl (by kernel_rfl) (fun _ _ _ h => h) (by rfl) ?_
              try simp only [List.getElem_toArray, List.getElem_cons_succ, List.getElem_cons_zero, Act.put, List.setIfInBounds_toArray, List.set_cons_zero, List.set_cons_succ]
              refine seq_skip 19 rfl (by kernel_rfl) (fun _ _ _ h => h) (by rfl) ?_
              try simp only [List.getElem_toArray, List.getElem_cons_succ, List.getElem_cons_zero, Act.put, List.setIfInBounds_toArray, List.set_cons_zero, List.set_cons_succ]
              refine seq_skip 20 rfl (by kernel_rfl) (fun _ _ _ h => h) (by rfl) ?_
              try simp only [List.getElem_toArray, List.getElem_cons_succ, List.getElem_cons_zero, Act.put, List.setIfInBounds_toArray, List.set_cons_zero, List.set_cons_succ]
              refine seq_take 21 (v := ?_) rfl (by kernel_rfl) (fun _ _ _ h => h) (by rfl) (fun w' hw' => ?_) ?_
              rotate_left
              · go_simp; try with_reducible rfl
              try simp only [List.getElem_toArray, List.getElem_cons_succ, List.getElem_cons_zero, Act.put, List.setIfInBounds_toArray, List.set_cons_zero, List.set_cons_succ]
              refine seq_take 22 (v := ?_) rfl (by kernel_rfl) (fun _ _ _ h => h) (by rfl) (fun w' hw' => ?_) ?_
              rotate_left
              · go_simp; try with_reducible rfl
              try simp only [List.getElem_toArray, List.getElem_cons_succ, List.getElem_cons_zero, Act.put, List.setIfInBounds_toArray, List.set_cons_zero, List.set_cons_succ]
              refine seq_take 23 (v := ?_) rfl (by kernel_rfl) (fun _ _ _ h => h) (by rfl) (fun w' hw' => ?_) ?_
              rotate_left
              · go_simp; try with_reducible rfl
              try simp only [List.getElem_toArray, List.getElem_cons_succ, List.getElem_cons_zero, Act.put, List.setIfInBounds_toArray, List.set_cons_zero, List.set_cons_succ]
              refine seq_take 24 rfl (by kernel_rfl) (fun _ _ _ h => h) (by rfl) (seq_ldi rfl rfl (HA.out.2.1)) ?_
              try simp only [List.getElem_toArray, List.getElem_cons_succ, List.getElem_cons_zero, Act.put, List.setIfInBounds_toArray, List.set_cons_zero, List.set_cons_succ]
              refine seq_take 25 (v := ?_) rfl (by kernel_rfl) (fun _ _ _ h => h) (by rfl) (fun w' hw' => ?_) ?_
              rotate_left
              · go_simp; try with_reducible rfl
              try simp only [List.getElem_toArray, List.getElem_cons_succ, List.getElem_cons_zero, Act.put, List.setIfInBounds_toArray, List.set_cons_zero, List.set_cons_succ]
              refine seq_take 26 (v := ?_) rfl (by kernel_rfl) (fun _ _ _ h => h) (by rfl) (fun w' hw' => ?_) ?_
              rotate_left
              · go_simp; try with_reducible rfl
              try simp only [List.getElem_toArray, List.getElem_cons_succ, List.getElem_cons_zero, Act.put, List.setIfInBounds_toArray, List.set_cons_zero, List.set_cons_succ]
              refine seq_skip 27 rfl (by kernel_rfl) (fun _ _ _ h => h) (by rfl) ?_
              try simp only [List.getElem_toArray, List.getElem_cons_succ, List.getElem_cons_zero, Act.put, List.setIfInBounds_toArray, List.set_cons_zero, List.set_cons_succ]
              refine seq_skip 28 rfl (by kernel_rfl) (fun _ _ _ h => h) (by rfl) ?_
              try simp only [List.getElem_toArray, List.getElem_cons_succ, List.getElem_cons_zero, Act.put, List.setIfInBounds_toArray, List.set_cons_zero, List.set_cons_succ]
              refine seq_skip 29 rfl (by kernel_rfl) (fun _ _ _ h => h) (by rfl) ?_
              try simp only [List.getElem_toArray, List.getElem_cons_succ, List.getElem_cons_zero, Act.put, List.setIfInBounds_toArray, List.set_cons_zero, List.set_cons_succ]
              refine seq_take 30 (v := ?_) rfl (by kernel_rfl) (fun _ _ _ h => h) (by rfl) (fun w' hw' => ?_) ?_
              rotate_left
              · go_simp; try with_reducible rfl
              try simp only [List.getElem_toArray, List.getElem_cons_succ, List.getElem_cons_zero, Act.put, List.setIfInBounds_toArray, List.set_cons_zero, List.set_cons_succ]
              refine seq_take 31 (v := ?_) rfl (by kernel_rfl) (fun _ _ _ h => h) (by rfl) (fun w' hw' => ?_) ?_
              rotate_left
              · go_simp; try with_reducible rfl
              try simp only [List.getElem_toArray, List.getElem_cons_succ, List.getElem_cons_zero, Act.put, List.setIfInBounds_toArray, List.set_cons_zero, List.set_cons_succ]
              refine seq_skip 32 rfl (by kernel_rfl) (fun _ _ _ h => h) (by rfl) ?_
              try simp only [List.getElem_toArray, List.getElem_cons_succ, List.getElem_cons_zero, Act.put, List.setIfInBounds_toArray, List.set_cons_zero, List.set_cons_succ]
              refine seq_skip 33 rfl (by kernel_rfl) (fun _ _ _ h => h) (by rfl) ?_
              try simp only [List.getElem_toArray, List.getElem_cons_succ, List.getElem_cons_zero, Act.put, List.setIfInBounds_toArray, List.set_cons_zero, List.set_cons_succ]
              refine seq_skip 34 rfl (by kernel_rfl) (fun _ _ _ h => h) (by rfl) ?_
              try simp only [List.getElem_toArray, List.getElem_cons_succ, List.getElem_cons_zero, Act.put, List.setIfInBounds_toArray, List.set_cons_zero, List.set_cons_succ]
              refine seq_skip 35 rfl (by kernel_rfl) (fun _ _ _ h => h) (by rfl) ?_
              try simp only [List.getElem_toArray, List.getElem_cons_succ, List.getElem_cons_zero, Act.put, List.setIfInBounds_toArray, List.set_cons_zero, List.set_cons_succ]
              refine seq_skip 36 rfl (by kernel_rfl) (fun _ _ _ h => h) (by rfl) ?_
              try simp only [List.getElem_toArray, List.getElem_cons_succ, List.getElem_cons_zero, Act.put, List.setIfInBounds_toArray, List.set_cons_zero, List.set_cons_succ]
              refine seq_skip 37 rfl (by kernel_rfl) (fun _ _ _ h => h) (by rfl) ?_
              try simp only [List.getElem_toArray, List.getElem_cons_succ, List.getElem_cons_zero, Act.put, List.setIfInBounds_toArray, List.set_cons_zero, List.set_cons_succ]
              refine seq_skip 38 rfl (by kernel_rfl) (fun _ _ _ h => h) (by rfl) ?_
              try simp only [List.getElem_toArray, List.getElem_cons_succ, List.getElem_cons_zero, Act.put, List.setIfInBounds_toArray, List.set_cons_zero, List.set_cons_succ]
              refine seq_take 39 (v := ?_) rfl (by kernel_rfl) (fun _ _ _ h => h) (by rfl) (fun w' hw' => ?_) ?_
              rotate_left
              · go_simp; try with_reducible rfl
              try simp only [List.getElem_toArray, List.getElem_cons_succ, List.getElem_cons_zero, Act.put, List.setIfInBounds_toArray, List.set_cons_zero, List.set_cons_succ]
              refine seq_take 40 (v := ?_) rfl (by kernel_rfl) (fun _ _ _ h => h) (by rfl) (fun w' hw' => ?_) ?_
              rotate_left
              · go_simp; try with_reducible rfl
              try simp only [List.getElem_toArray, List.getElem_cons_succ, List.getElem_cons_zero, Act.put, List.setIfInBounds_toArray, List.set_cons_zero, List.set_cons_succ]
              refine seq_done (by kernel_rfl) ?_
              go_wp2_with fail
              go_roundw
              case rel => exact ⟨i + 1, by omega, by simp, HA.out.1.drew, HX.out ⟨fun h => absurd h (by simp only; omega), fun h => absurd h (by simp only; omega)⟩⟩
              case measure => simp [intOf]; omega
              -- END B10
-- ARMS2 END
        · have hend : i = C.ins.length := by omega
          have hd1 : decide ((i : Int) < (C.ins.length : Int)) = false := decide_eq_false (by omega)
          have HE := Lib.hid hend
          clear hend hbr hall hrgr hmr
          go_wp2_with fail
          go_meet
          case rel => exact ⟨HR.out.1, fun x hx => HR.out.2.1 x (by rw [HE.out, List.take_length]; exact hx)⟩
      -- END L2
    case rest =>
      obtain ⟨hbv, hsm⟩ := hcut
      obtain ⟨V, hV⟩ : ∃ V, V = wc := ⟨wc, rfl⟩
      rw [← hV] at hbv ⊢
      have hsv := hbv.size
      have hbw : Below g w V := HCC.out.1.trans (hbv.mono (by have := HCC.out.2.2.2.2.2.2.1; omega))
      have hrg : V.heap[g]? = _ := (hbv.block g (by have := HCC.out.2.2.2.2.2.2.1; have := HCC.out.2.2.2.2.2.2.2.1; omega)).trans HCC.out.2.1
      have hrh : V.heap[h]? = _ := (hbv.block h (by have := HCC.out.2.2.2.2.2.2.1; omega)).trans HCC.out.2.2.2.2.1
      have hown := owns_below HCC.out.2.2.2.2.2.1 hbv
      have hmc := HCC.out.2.2.1.below hbv
      have HV := Lib.hid (And.intro hbw (And.intro hrg (And.intro hrh (And.intro hown (And.intro hmc (And.intro hsm (show h + 1 ≤ V.heap.size by have := HCC.out.2.2.2.2.2.2.1; omega)))))))
      have h0 : V.cell? ⟨h, 0, none⟩ = some (.slice ao dl.length acap) := cell_of_row _ _ 0 _ _ (0, 0) hrh
      have hdl10 := HCC.out.2.2.2.2.2.2.2.2.2
      have HDR := Lib.hid (And.intro (show V.drew.cell? ⟨h, 0, none⟩ = some (.slice ao dl.length acap) from h0) (And.intro (show V.drew.cell? ⟨g, 1, none⟩ = some (.slice so2 C.strs.length scap2) from cell_of_row _ _ 1 _ _ (0, 0) hrg) (show V.drew.cell? ⟨g, 3, none⟩ = some (.int .i64 C.glob) from cell_of_row _ _ 3 _ _ (0, 0) hrg)))
      clear hbv hsm hV hsv hbw hrg hrh hown hmc
      go_upto_region 26 with (fail)
      refine seql_start [12] (by kernel_rfl) ?_
      refine seql_take 0 (v := ?_) rfl (by kernel_rfl) (fun _ _ _ h => h) (by rfl) (fun w' hw' => ?_) ?_
      rotate_left
      · go_simp; try with_reducible rfl
      try simp only [List.getElem_toArray, List.getElem_cons_succ, List.getElem_cons_zero, Act.put, List.setIfInBounds_toArray, List.set_cons_zero, List.set_cons_succ]
      refine seql_take 1 (v := ?_) rfl (by kernel_rfl) (fun _ _ _ h => h) (by rfl) (fun w' hw' => ?_) ?_
      rotate_left
      · go_simp; try with_reducible rfl
      try simp only [List.getElem_toArray, List.getElem_cons_succ, List.getElem_cons_zero, Act.put, List.setIfInBounds_toArray, List.set_cons_zero, List.set_cons_succ]
      refine seql_take 3 (v := ?_) rfl (by kernel_rfl) (fun _ _ _ h => h) (by rfl) (fun w' hw' => ?_) ?_
      rotate_left
      · go_simp; try with_reducible rfl
      try simp only [List.getElem_toArray, List.getElem_cons_succ, List.getElem_cons_zero, Act.put, List.setIfInBounds_toArray, List.set_cons_zero, List.set_cons_succ]
      refine seql_take 4 rfl (by kernel_rfl) (fun _ _ _ h => h) (by rfl) (seq_ldRI rfl rfl (HDR.out.1)) ?_
      try simp only [List.getElem_toArray, List.getElem_cons_succ, List.getElem_cons_zero, Act.put, List.setIfInBounds_toArray, List.set_cons_zero, List.set_cons_succ]
      refine seql_take 6 (v := ?_) rfl (by kernel_rfl) (fun _ _ _ h => h) (by rfl) (fun w' hw' => ?_) ?_
      rotate_left
      · go_simp; try with_reducible rfl
      try simp only [List.getElem_toArray, List.getElem_cons_succ, List.getElem_cons_zero, Act.put, List.setIfInBounds_toArray, List.set_cons_zero, List.set_cons_succ]
      refine seql_take 7 rfl (by kernel_rfl) (fun _ _ _ h => h) (by rfl) (seq_ldSS rfl rfl (HDR.out.2.1)) ?_
      try simp only [List.getElem_toArray, List.getElem_cons_succ, List.getElem_cons_zero, Act.put, List.setIfInBounds_toArray, List.set_cons_zero, List.set_cons_succ]
      refine seql_take 8 (v := ?_) rfl (by kernel_rfl) (fun _ _ _ h => h) (by rfl) (fun w' hw' => ?_) ?_
      rotate_left
      · go_simp; try with_reducible rfl
      try simp only [List.getElem_toArray, List.getElem_cons_succ, List.getElem_cons_zero, Act.put, List.setIfInBounds_toArray, List.set_cons_zero, List.set_cons_succ]
      refine seql_take 9 rfl (by kernel_rfl) (fun _ _ _ h => h) (by rfl) (seq_ldi rfl rfl (HDR.out.2.2)) ?_
      try simp only [List.getElem_toArray, List.getElem_cons_succ, List.getElem_cons_zero, Act.put, List.setIfInBounds_toArray, List.set_cons_zero, List.set_cons_succ]
      refine seql_inv [2, 5, 10, 11] 12 (PhiD V.heap.size ((dl.length : Int) + 1) dl so2 C.strs.length scap2 C.glob) (by kernel_rfl) (by kernel_rfl) (by kernel_rfl) (by kernel_rfl) (by kernel_rfl) rfl ?mono ?step ?last
      case mono => exact PhiD_mono _ _ _ _ _ _ _
      case step =>
        refine ⟨stepK_of rfl fun x w3' hb3 hd3 => ?_, stepK_of rfl fun x w3' hb3 hd3 => ?_, stepK_of rfl fun x w3' hb3 hd3 => ?_, stepK_of rfl fun x w3' hb3 hd3 => ?_, trivial⟩
        · clear hd3
          have hsz3 := hb3.size
          simp only [World.size_drew] at hsz3
          have HS := Lib.hid hsz3
          clear hb3 hsz3
          simp only [Fr, List.foldl_cons, List.foldl_nil, List.getElem?_toArray, List.getElem?_cons_succ, List.getElem?_cons_zero, Option.bind_some, Act.put, List.setIfInBounds_toArray, List.set_cons_zero, List.set_cons_succ, List.getElem_toArray, List.getElem_cons_succ, List.getElem_cons_zero]
          refine ⟨by rfl, fun KK hKK => ?_⟩
          go_wp2_with fail
          exact ⟨(Below.refl _ _).alloc (Nat.le_refl _) _, w3'.heap.size, rfl, World.ownsRow_lit w3' #[.int .i64 15, .int .i64 ((dl.length : Int) + 1), .int .i64 0] 1 HS.out (by decide) rfl⟩
        · have hx2 : PhiD V.heap.size ((dl.length : Int) + 1) dl so2 C.strs.length scap2 C.glob 2 (x 2) w3' := hd3 2 (of_decide_eq_true (by kernel_rfl))
          obtain ⟨lb, hx2e, hx2o⟩ := hx2
          have hsz3 := hb3.size
          simp only [World.size_drew] at hsz3
          have hat : At w3' ao (dl.map insRow).flatten := (At.own HV.out.2.2.2.1).below ((Below.refl _ V).drew.trans (hb3.mono (by simp)))
          have HA := Lib.hid (And.intro hx2o (And.intro hsz3 hat))
          clear hd3 hb3 hsz3 hx2o hat
          simp only [Fr, List.foldl_cons, List.foldl_nil, List.getElem?_toArray, List.getElem?_cons_succ, List.getElem?_cons_zero, Option.bind_some, Act.put, List.setIfInBounds_toArray, List.set_cons_zero, List.set_cons_succ, List.getElem_toArray, List.getElem_cons_succ, List.getElem_cons_zero]
          rw [hx2e]
          clear hx2e
          refine ⟨by rfl, fun KK hKK => ?_⟩
          obtain ⟨i0, hi, hz0, hz1, hz2⟩ := info_parts infoInsR
          refine wp_full _ _ 23 rfl V.heap.size 29 i0 (.agg #[.int .i64 0, .int .i64 0, .int .i64 0]) 3 24 Tryd.underlying23 hi hz0 hz1 hz2 rfl lb 1 (insRow ⟨15, (dl.length : Int) + 1, 0⟩) rfl HA.out.1 _ dl.length (dl.map insRow).flatten rfl (HA.out.2.2.src Tryd.underlying23 (by rw [flat_len]) (flat_one dl) (by decide)) (by unfold maxLen; omega) (by omega) HA.out.2.1 ?_
          intro ao' cap' w' q1 q2
          exact hKK _ _ ⟨q2, ao', cap', rfl, q1⟩
        · have hx5 : PhiD V.heap.size ((dl.length : Int) + 1) dl so2 C.strs.length scap2 C.glob 5 (x 5) w3' := hd3 5 (of_decide_eq_true (by kernel_rfl))
          obtain ⟨ao', cap', hx5e, hx5o⟩ := hx5
          have HA := Lib.hid hx5o
          clear hd3 hb3 hx5o
          simp only [Fr, List.foldl_cons, List.foldl_nil, List.getElem?_toArray, List.getElem?_cons_succ, List.getElem?_cons_zero, Option.bind_some, Act.put, List.setIfInBounds_toArray, List.set_cons_zero, List.set_cons_succ, List.getElem_toArray, List.getElem_cons_succ, List.getElem_cons_zero]
          rw [hx5e]
          clear hx5e
          refine ⟨by rfl, fun KK hKK => ?_⟩
          go_wp2_with fail
          exact ⟨Below.refl _ _, ao', cap', rfl, HA.out⟩
        · clear hd3
          have hsz3 := hb3.size
          simp only [World.size_drew] at hsz3
          have HS := Lib.hid hsz3
          clear hb3 hsz3
          simp only [Fr, List.foldl_cons, List.foldl_nil, List.getElem?_toArray, List.getElem?_cons_succ, List.getElem?_cons_zero, Option.bind_some, Act.put, List.setIfInBounds_toArray, List.set_cons_zero, List.set_cons_succ, List.getElem_toArray, List.getElem_cons_succ, List.getElem_cons_zero]
          refine ⟨by rfl, fun KK hKK => ?_⟩
          go_wp2_with fail
          exact ⟨(Below.refl _ _).alloc (Nat.le_refl _) _, w3'.heap.size, rfl, HS.out, heap_alloc_new w3' _⟩
      case last =>
        refine lastK_of rfl fun x w3' hb3 hx => ?_
        have hx10 : PhiD V.heap.size ((dl.length : Int) + 1) dl so2 C.strs.length scap2 C.glob 10 (x 10) w3' := hx.mem 10 (by simp)
        have hx11 : PhiD V.heap.size ((dl.length : Int) + 1) dl so2 C.strs.length scap2 C.glob 11 (x 11) w3' := hx.mem 11 (by simp)
        obtain ⟨oo, ocap, hx10e, a1⟩ := hx10
        obtain ⟨q, hx11e, q1, q2⟩ := hx11
        have hbw : Below V.heap.size V w3' := (Below.refl _ V).drew.trans (hb3.mono (by simp))
        have HA := Lib.hid (And.intro a1 (And.intro q1 (And.intro hbw (own_ne a1 q2))))
        clear hx hb3 a1 q1 hbw
        simp only [Fr, List.foldl_cons, List.foldl_nil, List.getElem?_toArray, List.getElem?_cons_succ, List.getElem?_cons_zero, Option.bind_some, Act.put, List.setIfInBounds_toArray, List.set_cons_zero, List.set_cons_succ, List.getElem_toArray, List.getElem_cons_succ, List.getElem_cons_zero]
        rw [hx10e, hx11e]
        clear hx10e hx11e
        refine ⟨by rfl, fun KK hKK => ?_⟩
        refine wp_store_mid 26 _ _ rfl q 0 #[.slice oo (1 + dl.length) ocap, .slice so2 C.strs.length scap2, .slice none 0 0, .int .i64 C.glob] rfl rfl (code_there q2) (by kernel_rfl) (code_one _ _ _ _ _ _ _ _ _ _) ?_
        refine hKK _ _ ?_
        have hJ : DeadJ V q (1 + dl.length) so2 C.strs.length scap2 C.glob (⟨15, (dl.length : Int) + 1, 0⟩ :: dl) (w3'.setCells q 0 [.slice oo (1 + dl.length) ocap, .slice so2 C.strs.length scap2, .slice none 0 0, .int .i64 C.glob]) := by
          have hks := Keeps.setCells q [.slice oo (1 + dl.length) ocap, .slice so2 C.strs.length scap2, .slice none 0 0, .int .i64 C.glob] 0 w3'
          exact ⟨oo, ocap, code_row q2 _ _ _ _, owns_keeps HA.out.1 hks (fun b hb h => by rw [own_slice] at hb; subst h; exact HA.out.2.2.2 hb), HA.out.2.2.2, HA.out.2.2.1.trans (hks.below (fun i hi h => by have := HA.out.2.1; omega) HA.out.2.2.1.size)⟩
        have HJ := Lib.hid (And.intro hJ HA.out.2.1)
        clear hJ q2 h0
        go_upto_block 4 with (fail)
        obtain ⟨V7, hV7⟩ : ∃ V7, w3'.setCells q 0 [.slice oo (1 + dl.length) ocap, .slice so2 C.strs.length scap2, .slice none 0 0, .int .i64 C.glob] = V7 := ⟨_, rfl⟩
        have hJ7 := HJ.out.1
        rw [hV7] at hJ7
        change Code.wp _ _ _ _ (w3'.setCells q 0 [.slice oo (1 + dl.length) ocap, .slice so2 C.strs.length scap2, .slice none 0 0, .int .i64 C.glob])
        rw [hV7]
        have HJ7 := Lib.hid (And.intro hJ7 (And.intro HJ.out.2 (show V.heap.size ≤ V7.heap.size by obtain ⟨_, _, _, _, _, hb⟩ := hJ7; exact hb.size)))
        clear hV7 hJ7 HA HJ
        go_wp2_with fail
        go_loopw [12] (fun v12 wr => ∃ i : Nat, i ≤ C.ins.length ∧ v12 = .int .i64 (i : Int) ∧ DeadJ V q (1 + dl.length + i) so2 C.strs.length scap2 C.glob ((⟨15, (dl.length : Int) + 1, 0⟩ :: dl) ++ (C.ins.take i).map (shiftI ((dl.length : Int) + 1))) wr) (fun v12 _ => 70 - (intOf v12).toNat)
        case atStart => exact ⟨0, by omega, rfl, by simpa using HJ7.out.1⟩
        case round =>
          obtain ⟨i, hi, rfl, hm⟩ := hrel
          have HMM := Lib.hid hm
          obtain ⟨ao3, cap3, hr, hown, hne, hbr⟩ := hm
          have hqV := HJ7.out.2.1
          have hsr := hbr.size
          have hql : q < wr.heap.size := (Array.getElem?_eq_some_iff.1 hr).1
          have hl60 := H2.out.2.2.2.2.1
          have hrgr : wr.heap[g]? = _ := (hbr.block g (Array.getElem?_eq_some_iff.1 HV.out.2.1).1).trans HV.out.2.1
          have hmr : CodeMem wr (fun b => b < g ∨ (g + 1 ≤ b ∧ b < h)) C io2 so2 fo2 := HV.out.2.2.2.2.1.keeps (X := fun b => V.heap.size ≤ b) ⟨hbr.os, hbr.tape, hbr.output, hsr, fun k hk hne => hbr.block k hk⟩ (fun b hb hx => by have := HV.out.2.2.2.2.2.2; have := HCC.out.2.2.2.2.2.2.2.1; omega)
          have k0 : wr.cell? ⟨g, 0, none⟩ = some (.slice io2 C.ins.length icap2) := cell_of_row _ _ 0 _ _ (0, 0) hrgr
          have k2 : wr.cell? ⟨g, 2, none⟩ = some (.slice fo2 C.funs.length fcap2) := cell_of_row _ _ 2 _ _ (0, 0) hrgr
          have HM := Lib.hid (And.intro hr (And.intro hown (And.intro hne (And.intro hbr (And.intro hrgr hmr)))))
          by_cases hlt : i < C.ins.length
          · have hd1 : decide ((i : Int) < (C.ins.length : Int)) = true := decide_eq_true (by omega)
            obtain ⟨ib, ii, rfl, e0, e1, e2⟩ := hmr.insAt i hlt
            obtain ⟨x, hx⟩ : ∃ x, C.ins[i] = x := ⟨_, rfl⟩
            rw [hx] at e0 e1 e2
            have hsmx : Small x := HV.out.2.2.2.2.2.1 x (by rw [← hx]; exact List.getElem_mem hlt)
            have hmore : (C.ins.take (i + 1)).map (shiftI ((dl.length : Int) + 1)) = (C.ins.take i).map (shiftI ((dl.length : Int) + 1)) ++ [shiftI ((dl.length : Int) + 1) x] := by rw [← hx, List.take_succ_eq_append_getElem hlt, List.map_append]; rfl
            have HX := Lib.hid (And.intro hmore hsmx)
            have hao3 : ∀ k, k = wr.heap.size → q ≠ k := fun k hk => by omega
            obtain ⟨op, a, b⟩ := x
            simp only at e0 e1 e2
            clear hr hown hne hbr hrgr hmr hx hsmx hmore k2
-- ARMS3
            by_cases o15 : op = 15
            · subst o15
              have hra : 0 ≤ a ∧ a ≤ 60 := HX.out.2.1 (by simp)
              obtain ⟨hra0, hra1⟩ := hra
              as_aux_lemma =>
                -- CUT C11
                have hba : Below wr.heap.size wr ((wr.alloc (.cells #[.int .i64 15, .int .i64 (a + ((dl.length : Int) + 1)), .int .i64 b] 29)).alloc (.cells #[.int .i64 15, .int .i64 (a + ((dl.length : Int) + 1)), .int .i64 b] 29)) := ((Below.refl _ wr).alloc (Nat.le_refl _) _).alloc (by simp) _
                have HBA := Lib.hid hba
                have c0 : (wr.alloc (.cells #[.int .i64 15, .int .i64 (a + ((dl.length : Int) + 1)), .int .i64 b] 29)).cell? ⟨q, 0, none⟩ = some (.slice ao3 (1 + dl.length + i) cap3) := (World.cell?_of_block (a := ⟨q, 0, none⟩) (Below.heap_alloc wr _ q hql)).trans (cell_of_row _ _ 0 _ _ (0, 0) HM.out.1)
                clear hba
                go_wp2_with (refine app_insR rfl _ _ rfl V.heap.size ao3 cap3 (1 + dl.length + i) _ rfl (owns_below HM.out.2.1 HBA.out) ⟨15, (a + ((dl.length : Int) + 1)), b⟩ (wr.heap.size + 1) rfl (At.newk (wr.alloc (.cells #[.int .i64 15, .int .i64 (a + ((dl.length : Int) + 1)), .int .i64 b] 29)) #[.int .i64 15, .int .i64 (a + ((dl.length : Int) + 1)), .int .i64 b] _ (0, 0) (by simp)) (by omega) (by simp; omega) ?_; rintro ao4 cap4 w5' q1 q2 q3; have hm5 := deadJ_step HM.out.1 HM.out.2.1 HM.out.2.2.1 HM.out.2.2.2.1 hqV HBA.out q1 q2; have c5 : w5'.cell? ⟨q, 0, none⟩ = some (.slice ao3 (1 + dl.length + i) cap3) := hm5.1; have f5 : w5'.frozen? ⟨q, 0, none⟩ = false := hm5.2.1; have HN := Lib.hid hm5.2.2; clear q1 q2 q3 hm5)
                go_roundw
                case rel =>
                  refine ⟨i + 1, by omega, by simp, ?_⟩
                  rw [HX.out.1, ← List.append_assoc, show shiftI ((dl.length : Int) + 1) ⟨15, a, b⟩ = ⟨15, (a + ((dl.length : Int) + 1)), b⟩ from by simp [shiftI], ← Nat.add_assoc]
                  exact HN.out
                case measure => simp [intOf]; omega
                -- END C11
            have d15 : decide (op = 15) = false := decide_eq_false o15
            have b15 : (op == 15) = false := by simp [o15]
            by_cases o16 : op = 16
            · subst o16
              have hra : 0 ≤ a ∧ a ≤ 60 := HX.out.2.1 (by simp)
              obtain ⟨hra0, hra1⟩ := hra
              as_aux_lemma =>
                -- CUT C12
                have hba : Below wr.heap.size wr ((wr.alloc (.cells #[.int .i64 16, .int .i64 (a + ((dl.length : Int) + 1)), .int .i64 b] 29)).alloc (.cells #[.int .i64 16, .int .i64 (a + ((dl.length : Int) + 1)), .int .i64 b] 29)) := ((Below.refl _ wr).alloc (Nat.le_refl _) _).alloc (by simp) _
                have HBA := Lib.hid hba
                have c0 : (wr.alloc (.cells #[.int .i64 16, .int .i64 (a + ((dl.length : Int) + 1)), .int .i64 b] 29)).cell? ⟨q, 0, none⟩ = some (.slice ao3 (1 + dl.length + i) cap3) := (World.cell?_of_block (a := ⟨q, 0, none⟩) (Below.heap_alloc wr _ q hql)).trans (cell_of_row _ _ 0 _ _ (0, 0) HM.out.1)
                clear hba
                go_wp2_with (refine app_insR rfl _ _ rfl V.heap.size ao3 cap3 (1 + dl.length + i) _ rfl (owns_below HM.out.2.1 HBA.out) ⟨16, (a + ((dl.length : Int) + 1)), b⟩ (wr.heap.size + 1) rfl (At.newk (wr.alloc (.cells #[.int .i64 16, .int .i64 (a + ((dl.length : Int) + 1)), .int .i64 b] 29)) #[.int .i64 16, .int .i64 (a + ((dl.length : Int) + 1)), .int .i64 b] _ (0, 0) (by simp)) (by omega) (by simp; omega) ?_; rintro ao4 cap4 w5' q1 q2 q3; have hm5 := deadJ_step HM.out.1 HM.out.2.1 HM.out.2.2.1 HM.out.2.2.2.1 hqV HBA.out q1 q2; have c5 : w5'.cell? ⟨q, 0, none⟩ = some (.slice ao3 (1 + dl.length + i) cap3) := hm5.1; have f5 : w5'.frozen? ⟨q, 0, none⟩ = false := hm5.2.1; have HN := Lib.hid hm5.2.2; clear q1 q2 q3 hm5)
                go_roundw
                case rel =>
                  refine ⟨i + 1, by omega, by simp, ?_⟩
                  rw [HX.out.1, ← List.append_assoc, show shiftI ((dl.length : Int) + 1) ⟨16, a, b⟩ = ⟨16, (a + ((dl.length : Int) + 1)), b⟩ from by simp [shiftI], ← Nat.add_assoc]
                  exact HN.out
                case measure => simp [intOf]; omega
                -- END C12
            have d16 : decide (op = 16) = false := decide_eq_false o16
            have b16 : (op == 16) = false := by simp [o16]
            by_cases o24 : op = 24
            · subst o24
              have hra : 0 ≤ a ∧ a ≤ 60 := HX.out.2.1 (by simp)
              obtain ⟨hra0, hra1⟩ := hra
              as_aux_lemma =>
                -- CUT C13
                have hba : Below wr.heap.size wr ((wr.alloc (.cells #[.int .i64 24, .int .i64 (a + ((dl.length : Int) + 1)), .int .i64 b] 29)).alloc (.cells #[.int .i64 24, .int .i64 (a + ((dl.length : Int) + 1)), .int .i64 b] 29)) := ((Below.refl _ wr).alloc (Nat.le_refl _) _).alloc (by simp) _
                have HBA := Lib.hid hba
                have c0 : (wr.alloc (.cells #[.int .i64 24, .int .i64 (a + ((dl.length : Int) + 1)), .int .i64 b] 29)).cell? ⟨q, 0, none⟩ = some (.slice ao3 (1 + dl.length + i) cap3) := (World.cell?_of_block (a := ⟨q, 0, none⟩) (Below.heap_alloc wr _ q hql)).trans (cell_of_row _ _ 0 _ _ (0, 0) HM.out.1)
                clear hba
                go_wp2_with (refine app_insR rfl _ _ rfl V.heap.size ao3 cap3 (1 + dl.length + i) _ rfl (owns_below HM.out.2.1 HBA.out) ⟨24, (a + ((dl.length : Int) + 1)), b⟩ (wr.heap.size + 1) rfl (At.newk (wr.alloc (.cells #[.int .i64 24, .int .i64 (a + ((dl.length : Int) + 1)), .int .i64 b] 29)) #[.int .i64 24, .int .i64 (a + ((dl.length : Int) + 1)), .int .i64 b] _ (0, 0) (by simp)) (by omega) (by simp; omega) ?_; rintro ao4 cap4 w5' q1 q2 q3; have hm5 := deadJ_step HM.out.1 HM.out.2.1 HM.out.2.2.1 HM.out.2.2.2.1 hqV HBA.out q1 q2; have c5 : w5'.cell? ⟨q, 0, none⟩ = some (.slice ao3 (1 + dl.length + i) cap3) := hm5.1; have f5 : w5'.frozen? ⟨q, 0, none⟩ = false := hm5.2.1; have HN := Lib.hid hm5.2.2; clear q1 q2 q3 hm5)
                go_roundw
                case rel =>
                  refine ⟨i + 1, by omega, by simp, ?_⟩
                  rw [HX.out.1, ← List.append_assoc, show shiftI ((dl.length : Int) + 1) ⟨24, a, b⟩ = ⟨24, (a + ((dl.length : Int) + 1)), b⟩ from by simp [shiftI], ← Nat.add_assoc]
                  exact HN.out
                case measure => simp [intOf]; omega
                -- END C13
            have d24 : decide (op = 24) = false := decide_eq_false o24
            have b24 : (op == 24) = false := by simp [o24]
            by_cases o20 : op = 20
            · subst o20
              have hra : 0 ≤ b ∧ b ≤ 60 := HX.out.2.2 (by simp)
              obtain ⟨hra0, hra1⟩ := hra
              as_aux_lemma =>
                -- CUT C14
                have hba : Below wr.heap.size wr ((wr.alloc (.cells #[.int .i64 20, .int .i64 a, .int .i64 (b + ((dl.length : Int) + 1))] 29)).alloc (.cells #[.int .i64 20, .int .i64 a, .int .i64 (b + ((dl.length : Int) + 1))] 29)) := ((Below.refl _ wr).alloc (Nat.le_refl _) _).alloc (by simp) _
                have HBA := Lib.hid hba
                have c0 : (wr.alloc (.cells #[.int .i64 20, .int .i64 a, .int .i64 (b + ((dl.length : Int) + 1))] 29)).cell? ⟨q, 0, none⟩ = some (.slice ao3 (1 + dl.length + i) cap3) := (World.cell?_of_block (a := ⟨q, 0, none⟩) (Below.heap_alloc wr _ q hql)).trans (cell_of_row _ _ 0 _ _ (0, 0) HM.out.1)
                clear hba
                go_wp2_with (refine app_insR rfl _ _ rfl V.heap.size ao3 cap3 (1 + dl.length + i) _ rfl (owns_below HM.out.2.1 HBA.out) ⟨20, a, (b + ((dl.length : Int) + 1))⟩ (wr.heap.size + 1) rfl (At.newk (wr.alloc (.cells #[.int .i64 20, .int .i64 a, .int .i64 (b + ((dl.length : Int) + 1))] 29)) #[.int .i64 20, .int .i64 a, .int .i64 (b + ((dl.length : Int) + 1))] _ (0, 0) (by simp)) (by omega) (by simp; omega) ?_; rintro ao4 cap4 w5' q1 q2 q3; have hm5 := deadJ_step HM.out.1 HM.out.2.1 HM.out.2.2.1 HM.out.2.2.2.1 hqV HBA.out q1 q2; have c5 : w5'.cell? ⟨q, 0, none⟩ = some (.slice ao3 (1 + dl.length + i) cap3) := hm5.1; have f5 : w5'.frozen? ⟨q, 0, none⟩ = false := hm5.2.1; have HN := Lib.hid hm5.2.2; clear q1 q2 q3 hm5)
                go_roundw
                case rel =>
                  refine ⟨i + 1, by omega, by simp, ?_⟩
                  rw [HX.out.1, ← List.append_assoc, show shiftI ((dl.length : Int) + 1) ⟨20, a, b⟩ = ⟨20, a, (b + ((dl.length : Int) + 1))⟩ from by simp [shiftI], ← Nat.add_assoc]
                  exact HN.out
                case measure => simp [intOf]; omega
                -- END C14
            have d20 : decide (op = 20) = false := decide_eq_false o20
            have b20 : (op == 20) = false := by simp [o20]
            by_cases o21 : op = 21
            · subst o21
              have hra : 0 ≤ b ∧ b ≤ 60 := HX.out.2.2 (by simp)
              obtain ⟨hra0, hra1⟩ := hra
              as_aux_lemma =>
                -- CUT C15
                have hba : Below wr.heap.size wr ((wr.alloc (.cells #[.int .i64 21, .int .i64 a, .int .i64 (b + ((dl.length : Int) + 1))] 29)).alloc (.cells #[.int .i64 21, .int .i64 a, .int .i64 (b + ((dl.length : Int) + 1))] 29)) := ((Below.refl _ wr).alloc (Nat.le_refl _) _).alloc (by simp) _
                have HBA := Lib.hid hba
                have c0 : (wr.alloc (.cells #[.int .i64 21, .int .i64 a, .int .i64 (b + ((dl.length : Int) + 1))] 29)).cell? ⟨q, 0, none⟩ = some (.slice ao3 (1 + dl.length + i) cap3) := (World.cell?_of_block (a := ⟨q, 0, none⟩) (Below.heap_alloc wr _ q hql)).trans (cell_of_row _ _ 0 _ _ (0, 0) HM.out.1)
                clear hba
                go_wp2_with (refine app_insR rfl _ _ rfl V.heap.size ao3 cap3 (1 + dl.length + i) _ rfl (owns_below HM.out.2.1 HBA.out) ⟨21, a, (b + ((dl.length : Int) + 1))⟩ (wr.heap.size + 1) rfl (At.newk (wr.alloc (.cells #[.int .i64 21, .int .i64 a, .int .i64 (b + ((dl.length : Int) + 1))] 29)) #[.int .i64 21, .int .i64 a, .int .i64 (b + ((dl.length : Int) + 1))] _ (0, 0) (by simp)) (by omega) (by simp; omega) ?_; rintro ao4 cap4 w5' q1 q2 q3; have hm5 := deadJ_step HM.out.1 HM.out.2.1 HM.out.2.2.1 HM.out.2.2.2.1 hqV HBA.out q1 q2; have c5 : w5'.cell? ⟨q, 0, none⟩ = some (.slice ao3 (1 + dl.length + i) cap3) := hm5.1; have f5 : w5'.frozen? ⟨q, 0, none⟩ = false := hm5.2.1; have HN := Lib.hid hm5.2.2; clear q1 q2 q3 hm5)
                go_roundw
                case rel =>
                  refine ⟨i + 1, by omega, by simp, ?_⟩
                  rw [HX.out.1, ← List.append_assoc, show shiftI ((dl.length : Int) + 1) ⟨21, a, b⟩ = ⟨21, a, (b + ((dl.length : Int) + 1))⟩ from by simp [shiftI], ← Nat.add_assoc]
                  exact HN.out
                case measure => simp [intOf]; omega
                -- END C15
            have d21 : decide (op = 21) = false := decide_eq_false o21
            have b21 : (op == 21) = false := by simp [o21]
            by_cases o22 : op = 22
            · subst o22
              have hra : 0 ≤ b ∧ b ≤ 60 := HX.out.2.2 (by simp)
              obtain ⟨hra0, hra1⟩ := hra
              as_aux_lemma =>
                -- CUT C16
                have hba : Below wr.heap.size wr ((wr.alloc (.cells #[.int .i64 22, .int .i64 a, .int .i64 (b + ((dl.length : Int) + 1))] 29)).alloc (.cells #[.int .i64 22, .int .i64 a, .int .i64 (b + ((dl.length : Int) + 1))] 29)) := ((Below.refl _ wr).alloc (Nat.le_refl _) _).alloc (by simp) _
                have HBA := Lib.hid hba
                have c0 : (wr.alloc (.cells #[.int .i64 22, .int .i64 a, .int .i64 (b + ((dl.length : Int) + 1))] 29)).cell? ⟨q, 0, none⟩ = some (.slice ao3 (1 + dl.length + i) cap3) := (World.cell?_of_block (a := ⟨q, 0, none⟩) (Below.heap_alloc wr _ q hql)).trans (cell_of_row _ _ 0 _ _ (0, 0) HM.out.1)
                clear hba
                go_wp2_with (refine app_insR rfl _ _ rfl V.heap.size ao3 cap3 (1 + dl.length + i) _ rfl (owns_below HM.out.2.1 HBA.out) ⟨22, a, (b + ((dl.length : Int) + 1))⟩ (wr.heap.size + 1) rfl (At.newk (wr.alloc (.cells #[.int .i64 22, .int .i64 a, .int .i64 (b + ((dl.length : Int) + 1))] 29)) #[.int .i64 22, .int .i64 a, .int .i64 (b + ((dl.length : Int) + 1))] _ (0, 0) (by simp)) (by omega) (by simp; omega) ?_; rintro ao4 cap4 w5' q1 q2 q3; have hm5 := deadJ_step HM.out.1 HM.out.2.1 HM.out.2.2.1 HM.out.2.2.2.1 hqV HBA.out q1 q2; have c5 : w5'.cell? ⟨q, 0, none⟩ = some (.slice ao3 (1 + dl.length + i) cap3) := hm5.1; have f5 : w5'.frozen? ⟨q, 0, none⟩ = false := hm5.2.1; have HN := Lib.hid hm5.2.2; clear q1 q2 q3 hm5)
                go_roundw
                case rel =>
                  refine ⟨i + 1, by omega, by simp, ?_⟩
                  rw [HX.out.1, ← List.append_assoc, show shiftI ((dl.length : Int) + 1) ⟨22, a, b⟩ = ⟨22, a, (b + ((dl.length : Int) + 1))⟩ from by simp [shiftI], ← Nat.add_assoc]
                  exact HN.out
                case measure => simp [intOf]; omega
                -- END C16
            have d22 : decide (op = 22) = false := decide_eq_false o22
            have b22 : (op == 22) = false := by simp [o22]
            have HSH := Lib.hid (show shiftI ((dl.length : Int) + 1) ⟨op, a, b⟩ = ⟨op, a, b⟩ by unfold shiftI; rw [if_neg (by simp only; omega), if_neg (by simp only; omega)])
            as_aux_lemma =>
              -- CUT C17
              have hba : Below wr.heap.size wr ((wr.alloc (.cells #[.int .i64 op, .int .i64 a, .int .i64 b] 29)).alloc (.cells #[.int .i64 op, .int .i64 a, .int .i64 b] 29)) := ((Below.refl _ wr).alloc (Nat.le_refl _) _).alloc (by simp) _
              have HBA := Lib.hid hba
              have c0 : (wr.alloc (.cells #[.int .i64 op, .int .i64 a, .int .i64 b] 29)).cell? ⟨q, 0, none⟩ = some (.slice ao3 (1 + dl.length + i) cap3) := (World.cell?_of_block (a := ⟨q, 0, none⟩) (Below.heap_alloc wr _ q hql)).trans (cell_of_row _ _ 0 _ _ (0, 0) HM.out.1)
              clear hba
              go_wp2_with (refine app_insR rfl _ _ rfl V.heap.size ao3 cap3 (1 + dl.length + i) _ rfl (owns_below HM.out.2.1 HBA.out) ⟨op, a, b⟩ (wr.heap.size + 1) rfl (At.newk (wr.alloc (.cells #[.int .i64 op, .int .i64 a, .int .i64 b] 29)) #[.int .i64 op, .int .i64 a, .int .i64 b] _ (0, 0) (by simp)) (by omega) (by simp; omega) ?_; rintro ao4 cap4 w5' q1 q2 q3; have hm5 := deadJ_step HM.out.1 HM.out.2.1 HM.out.2.2.1 HM.out.2.2.2.1 hqV HBA.out q1 q2; have c5 : w5'.cell? ⟨q, 0, none⟩ = some (.slice ao3 (1 + dl.length + i) cap3) := hm5.1; have f5 : w5'.frozen? ⟨q, 0, none⟩ = false := hm5.2.1; have HN := Lib.hid hm5.2.2; clear q1 q2 q3 hm5)
              go_roundw
              case rel =>
                refine ⟨i + 1, by omega, by simp, ?_⟩
                rw [HX.out.1, ← List.append_assoc, show shiftI ((dl.length : Int) + 1) ⟨op, a, b⟩ = ⟨op, a, b⟩ from HSH.out, ← Nat.add_assoc]
                exact HN.out
              case measure => simp [intOf]; omega
              -- END C17
-- ARMS3 END
          · obtain rfl : i = C.ins.length := by omega
            have hd1 : decide ((C.ins.length : Int) < (C.ins.length : Int)) = false := decide_eq_false (by omega)
            have HK2 := Lib.hid k2
            clear hr hown hne hbr hrgr hmr k2
            go_upto_block 7 with (fail)
            obtain ⟨V8, hV8⟩ : ∃ V8, V8 = wr := ⟨wr, rfl⟩
            have hfr : ∀ z ∈ C.funs, 0 ≤ z ∧ z ≤ 60 := by
              intro z hz
              obtain ⟨_, L, F, _, hF⟩ := HO.out
              obtain ⟨j, hj, rfl⟩ := List.getElem_of_mem hz
              obtain ⟨h1, h2, _⟩ := hF.start j _ (List.getElem?_eq_getElem hj)
              have := H2.out.2.2.2.2.1
              exact ⟨h1, by omega⟩
            have H8 := Lib.hid (show (V8.heap[q]? = some (.cells #[.slice ao3 (1 + dl.length + C.ins.length) cap3, .slice so2 C.strs.length scap2, .slice none 0 0, .int .i64 C.glob] 26 (0, 0)) ∧ V8.heap[g]? = some (.cells #[.slice io2 C.ins.length icap2, .slice so2 C.strs.length scap2, .slice fo2 C.funs.length fcap2, .int .i64 C.glob] 26 (0, 0)) ∧ CodeMem V8 (fun b => b < g ∨ (g + 1 ≤ b ∧ b < h)) C io2 so2 fo2 ∧ V8.ownsRow V.heap.size 29 3 (.slice ao3 (1 + dl.length + C.ins.length) cap3) (1 + dl.length + C.ins.length) (((⟨15, (dl.length : Int) + 1, 0⟩ :: dl) ++ C.ins.map (shiftI ((dl.length : Int) + 1))).map insRow).flatten ∧ blk ao3 ≠ some q ∧ Below V.heap.size V V8) from ⟨by rw [hV8]; exact HM.out.1, by rw [hV8]; exact HM.out.2.2.2.2.1, by rw [hV8]; exact HM.out.2.2.2.2.2, by rw [hV8]; have := HM.out.2.1; rwa [List.take_length] at this, HM.out.2.2.1, by rw [hV8]; exact HM.out.2.2.2.1⟩)
            have hV8s : V8.heap.size = wr.heap.size := by rw [hV8]
            rw [← hV8]
            have hq8 : q < V8.heap.size := by omega
            have hg8 : V.heap.size ≤ V8.heap.size := by omega
            have HFR := Lib.hid hfr
            clear hV8 hV8s hfr HM HMM k0 hsr hql HK2 hd1
            go_wp2_with fail
            go_loopw [14] (fun v14 wr' => ∃ i : Nat, i ≤ C.funs.length ∧ v14 = .int .i64 (i : Int) ∧ DeadK V8 q i ao3 so2 (1 + dl.length + C.ins.length) cap3 C.strs.length scap2 C.glob ((C.funs.take i).map (· + ((dl.length : Int) + 1))) wr') (fun v14 _ => 10 - (intOf v14).toNat)
            case atStart => exact ⟨0, by omega, rfl, none, 0, H8.out.1, World.ownsRow_nil _ _ _ _, Keeps.refl _ _⟩
            case round =>
              obtain ⟨i, hi, rfl, hm⟩ := hrel
              have HMM := Lib.hid hm
              obtain ⟨ao4, cap4, hr, hown, hk⟩ := hm
              have hsr := hk.size
              have hl8 := H2.out.2.2.2.2.2.2.1
              have hrgr : wr.heap[g]? = _ := (hk.block g (Array.getElem?_eq_some_iff.1 H8.out.2.1).1 (fun hx => by have := HV.out.2.2.2.2.2.2; have := HCC.out.2.2.2.2.2.2.2.1; have := HJ7.out.2.1; have := (Array.getElem?_eq_some_iff.1 H8.out.2.1).1; omega)).trans H8.out.2.1
              have hmr : CodeMem wr (fun b => b < g ∨ (g + 1 ≤ b ∧ b < h)) C io2 so2 fo2 := H8.out.2.2.1.keeps hk (fun b hb hx => by have := HV.out.2.2.2.2.2.2; have := HCC.out.2.2.2.2.2.2.2.1; have := HJ7.out.2.1; omega)
              have k2 : wr.cell? ⟨g, 2, none⟩ = some (.slice fo2 C.funs.length fcap2) := cell_of_row _ _ 2 _ _ (0, 0) hrgr
              have HM := Lib.hid (And.intro hr (And.intro hown (And.intro hk (And.intro hrgr hmr))))
              by_cases hlt : i < C.funs.length
              · have hd1 : decide ((i : Int) < (C.funs.length : Int)) = true := decide_eq_true (by omega)
                obtain ⟨fb, fi, rfl, e0⟩ := hmr.funs.exv i (by simpa [intsV] using hlt)
                rw [intsV_get C.funs i hlt] at e0
                obtain ⟨f, hf⟩ : ∃ f, C.funs[i] = f := ⟨_, rfl⟩
                rw [hf] at e0
                obtain ⟨hf0, hf60⟩ := HFR.out f (by rw [← hf]; exact List.getElem_mem hlt)
                have HX := Lib.hid (show (C.funs.take (i + 1)).map (· + ((dl.length : Int) + 1)) = (C.funs.take i).map (· + ((dl.length : Int) + 1)) ++ [f + ((dl.length : Int) + 1)] by rw [← hf, List.take_succ_eq_append_getElem hlt, List.map_append]; rfl)
                have HC := Lib.hid (And.intro (show wr.drew.cell? ⟨q, 2, none⟩ = some (.slice ao4 i cap4) from cell_of_row wr _ 2 _ _ (0, 0) hr) (And.intro (show wr.drew.cell? ⟨g, 2, none⟩ = _ from k2) (show wr.drew.cell? ⟨fb, fi + i, none⟩ = _ from e0)))
                clear hr hown hk hrgr hmr hf e0
                go_wp2_with fail
                clear k2
                refine seql_start [10, 12] (by kernel_rfl) ?_
                refine seql_take 0 (v := ?_) rfl (by kernel_rfl) (fun _ _ _ h => h) (by rfl) (fun w' hw' => ?_) ?_
                rotate_left
                · go_simp; try with_reducible rfl
                try simp only [List.getElem_toArray, List.getElem_cons_succ, List.getElem_cons_zero, Act.put, List.setIfInBounds_toArray, List.set_cons_zero, List.set_cons_succ]
                refine seql_take 1 rfl (by kernel_rfl) (fun _ _ _ h => h) (by rfl) (seq_ldII rfl rfl (HC.out.1)) ?_
                try simp only [List.getElem_toArray, List.getElem_cons_succ, List.getElem_cons_zero, Act.put, List.setIfInBounds_toArray, List.set_cons_zero, List.set_cons_succ]
                refine seql_take 2 (v := ?_) rfl (by kernel_rfl) (fun _ _ _ h => h) (by rfl) (fun w' hw' => ?_) ?_
                rotate_left
                · go_simp; try with_reducible rfl
                try simp only [List.getElem_toArray, List.getElem_cons_succ, List.getElem_cons_zero, Act.put, List.setIfInBounds_toArray, List.set_cons_zero, List.set_cons_succ]
                refine seql_take 3 rfl (by kernel_rfl) (fun _ _ _ h => h) (by rfl) (seq_ldII rfl rfl (HC.out.2.1)) ?_
                try simp only [List.getElem_toArray, List.getElem_cons_succ, List.getElem_cons_zero, Act.put, List.setIfInBounds_toArray, List.set_cons_zero, List.set_cons_succ]
                refine seql_take 4 (v := ?_) rfl (by kernel_rfl) (fun _ _ _ h => h) (by rfl) (fun w' hw' => ?_) ?_
                rotate_left
                · go_simp; try with_reducible rfl
                try simp only [List.getElem_toArray, List.getElem_cons_succ, List.getElem_cons_zero, Act.put, List.setIfInBounds_toArray, List.set_cons_zero, List.set_cons_succ]
                refine seql_take 5 (v := ?_) rfl (by kernel_rfl) (fun _ _ _ h => h) (by rfl) (fun w' hw' => ?_) ?_
                rotate_left
                · go_simp; try with_reducible rfl
                try simp only [List.getElem_toArray, List.getElem_cons_succ, List.getElem_cons_zero, Act.put, List.setIfInBounds_toArray, List.set_cons_zero, List.set_cons_succ]
                refine seql_take 6 rfl (by kernel_rfl) (fun _ _ _ h => h) (by rfl) (seq_ldi rfl rfl (HC.out.2.2)) ?_
                try simp only [List.getElem_toArray, List.getElem_cons_succ, List.getElem_cons_zero, Act.put, List.setIfInBounds_toArray, List.set_cons_zero, List.set_cons_succ]
                refine seql_take 7 (v := ?_) rfl (by kernel_rfl) (fun _ _ _ h => h) (by rfl) (fun w' hw' => ?_) ?_
                rotate_left
                · go_simp; try with_reducible rfl
                try simp only [List.getElem_toArray, List.getElem_cons_succ, List.getElem_cons_zero, Act.put, List.setIfInBounds_toArray, List.set_cons_zero, List.set_cons_succ]
                refine seql_take 8 (v := ?_) rfl (by kernel_rfl) (fun _ _ _ h => h) (by rfl) (fun w' hw' => ?_) ?_
                rotate_left
                · go_simp; try with_reducible rfl
                try simp only [List.getElem_toArray, List.getElem_cons_succ, List.getElem_cons_zero, Act.put, List.setIfInBounds_toArray, List.set_cons_zero, List.set_cons_succ]
                refine seql_run 9 rfl (by kernel_rfl) (by rfl) (fun KK hKK => ?_)
                go_wp2_with fail
                refine ⟨(Below.refl _ _).alloc (Nat.le_refl _) _, ?_⟩
                have hba : Below wr.heap.size wr (wr.alloc (.cells #[.int .i64 (f + ((dl.length : Int) + 1))] 3)).drew := ((Below.refl _ wr).alloc (Nat.le_refl _) _).drew
                have HBA := Lib.hid hba
                clear hba
                refine seql_last 10 rfl (by kernel_rfl) (by kernel_rfl) (by rfl) (fun KK hKK => ?_)
                refine wp_ints _ _ rfl V8.heap.size ao4 cap4 _ i rfl (owns_below HM.out.2.1 HBA.out) (some ⟨wr.heap.size, 0, none⟩) 1 1 [f + ((dl.length : Int) + 1)] rfl ((At.new wr #[.int .i64 (f + ((dl.length : Int) + 1))] 3).below (Below.refl _ _).drew) rfl (by omega) (by have := HBA.out.size; omega) ?_
                intro ao2 cap2 w5' q1 q2 q3
                refine hKK _ _ ?_
                have hm5 := deadK_step HM.out.1 HM.out.2.1 HM.out.2.2.1 hq8 HBA.out q1 q2
                have c5 : w5'.cell? ⟨q, 2, none⟩ = some (.slice ao4 i cap4) := hm5.1
                have f5 : w5'.frozen? ⟨q, 2, none⟩ = false := hm5.2.1
                have HN := Lib.hid hm5.2.2
                clear q1 q2 q3 hm5
                refine seql_more 11 rfl (by kernel_rfl) (by kernel_rfl) (by rfl) (fun KK hKK => ?_)
                go_wp2_with fail
                refine seql_more 12 rfl (by kernel_rfl) (by kernel_rfl) (by rfl) (fun KK hKK => ?_)
                go_wp2_with fail
                refine seql_done (by kernel_rfl) ?_
                go_wp2_with fail
                go_roundw
                case rel => exact ⟨i + 1, by omega, by simp, by rw [HX.out]; exact HN.out⟩
                case measure => simp [intOf]; omega
              · obtain rfl : i = C.funs.length := by omega
                have hd1 : decide ((C.funs.length : Int) < (C.funs.length : Int)) = false := decide_eq_false (by omega)
                obtain ⟨f0, fr, hfs⟩ : ∃ f0 fr, C.funs = f0 :: fr := by
                  have hp := HO.out.1.f1
                  cases hf : C.funs with
                  | nil => rw [hf] at hp; simp at hp
                  | cons a r => exact ⟨a, r, rfl⟩
                obtain ⟨hf0, hf60⟩ := HFR.out f0 (by rw [hfs]; simp)
                have hpos : 0 < C.funs.length := by rw [hfs]; simp
                obtain ⟨ob, ocap4, hoe, hob, hob2⟩ := hown.form hpos
                simp only [Value.slice.injEq] at hoe
                obtain ⟨rfl, _, rfl⟩ := hoe
                have hown2 : wr.ownsRow V8.heap.size 3 1 (.slice (some ⟨ob, 0, none⟩) C.funs.length cap4) C.funs.length (intsV (C.funs.map (· + ((dl.length : Int) + 1)))) := by rw [List.take_length] at hown; exact hown
                have ho0 : wr.cell? ⟨ob, 0, none⟩ = some (.int .i64 (f0 + ((dl.length : Int) + 1))) := by
                  rw [hown2.cellAt 0 (by omega), hfs]
                  rfl
                have hofz : wr.frozen? ⟨ob, 0, none⟩ = false := hown2.frozenAt 0
                have hq2 : wr.cell? ⟨q, 2, none⟩ = some (.slice (some ⟨ob, 0, none⟩) C.funs.length cap4) := cell_of_row _ _ 2 _ _ (0, 0) hr
                have hdpos : decide (0 < (C.funs.length : Int)) = true := decide_eq_true (by omega)
                have HS2 := Lib.hid (And.intro hr (And.intro hown2 (And.intro hk hob)))
                have HORD := Lib.hid (dead_ord flC C dl HO.out H2.out.2.2.2.2.1 HCC.out.2.2.2.2.2.2.2.2.2 (by
                  intro x hx
                  rw [← HCC.out.2.2.2.2.2.2.2.2.1] at hx
                  obtain ⟨y, _, rfl⟩ := List.mem_map.1 hx
                  exact deadX_ok y))
                have hli : (deadC C dl).ins.length = 1 + dl.length + C.ins.length := by simp [deadC]; omega
                have hlf : (deadC C dl).funs.length = C.funs.length := shiftF_length _ _
                have HLEN := Lib.hid (show (deadC C dl).ins.length ≤ 1000000 ∧ (deadC C dl).strs.length ≤ 1000000 ∧ (deadC C dl).funs.length ≤ 1000000 ∧ R64i (deadC C dl).glob from ⟨by rw [hli]; have := H2.out.2.2.2.2.1; omega, by have := H2.out.2.2.2.2.2.1; show C.strs.length ≤ _; omega, by rw [hlf]; have := H2.out.2.2.2.2.2.2.1; omega, H2.out.2.2.2.1⟩)
                have HFIN := Lib.hid (show ∀ (w9 : World) (L : List Int), L = (deadC C dl).funs → w9.ownsRow V8.heap.size 3 1 (.slice (some ⟨ob, 0, none⟩) C.funs.length cap4) C.funs.length (intsV L) → Keeps (fun b => b = ob) wr w9 → EndD w g q (deadC C dl) ao3 so2 (some ⟨ob, 0, none⟩) cap3 scap2 cap4 w9 from by
                  as_aux_lemma =>
                    -- CUT E1
                    intro w9 L hL hown9 hk9
                    have hqV := HJ7.out.2.1
                    have hgV := HV.out.2.2.2.2.2.2
                    have hgh := HCC.out.2.2.2.2.2.2.2.1
                    have hs9 := hk9.size
                    have hk89 : Keeps (fun b => b = q ∨ V8.heap.size ≤ b) V8 w9 := hk.trans' (hk9.mono (fun b _ h => .inr (by omega)))
                    have hbg9 : Below g w w9 := HV.out.1.trans ((H8.out.2.2.2.2.2.mono (by omega)).trans (hk89.below (fun i hi h => by omega) (by omega)))
                    have hqob : q ≠ ob := by omega
                    have hr9 : w9.heap[q]? = _ := (hk9.block q (Array.getElem?_eq_some_iff.1 hr).1 (fun h => hqob h)).trans hr
                    have hm9 := H8.out.2.2.1.keeps hk89 (fun b hb h => by omega)
                    have hown3 := owns_keeps H8.out.2.2.2.1 hk89 (fun b hb h => by
                      rw [own_slice] at hb
                      have := (H8.out.2.2.2.1.lt b (by rw [own_slice]; exact hb)).2
                      rcases h with rfl | h
                      · exact H8.out.2.2.2.2.1 hb
                      · omega)
                    refine ⟨hbg9, by rw [hr9, hli, hlf]; rfl, ⟨?_, hm9.strs, by rw [← hL]; exact At.own hown9, fun b hb _ => (hown3.lt b (by rw [own_slice]; exact hb)).2, fun b hb hne => (by have hx : b < g ∨ (g + 1 ≤ b ∧ b < h) := hm9.strD b hb hne; show b < w9.heap.size; omega), fun b hb _ => (by cases hb; exact Nat.lt_of_lt_of_le hob2 hs9), fun x hx => ?_, hm9.strR, fun z hz => ?_⟩, shtab_below HD.out.2.2.2.2 (by rw [H.out.2.2.2.2.2]; exact hbg9), by omega⟩
                    · have h1 := rowsAt_of_flat3 (At.own hown3) (by intro r hr'; obtain ⟨x, _, rfl⟩ := List.mem_map.1 hr'; rfl)
                      exact h1
                    · have hxm : x ∈ (⟨15, (dl.length : Int) + 1, 0⟩ :: dl) ++ C.ins.map (shiftI ((dl.length : Int) + 1)) := hx
                      rcases List.mem_append.1 hxm with h | h
                      · rcases List.mem_cons.1 h with rfl | h
                        · exact ⟨R64i.small (by simp only; omega) (by simp only; omega), R64i.small (by simp only; omega) (by simp only; omega), R64i.small (by simp only; omega) (by simp only; omega)⟩
                        · rw [← HCC.out.2.2.2.2.2.2.2.2.1] at h
                          obtain ⟨y, hy, rfl⟩ := List.mem_map.1 h
                          have hyr := HD.out.2.2.1 y (List.mem_of_mem_take hy)
                          have hok := deadX_ok y
                          refine ⟨R64i.small (by omega) (by omega), ?_, ?_⟩
                          · show R64i (if usesP (deadO y) < 1 then 0 else y.a)
                            split
                            · exact R64i.small (by omega) (by omega)
                            · exact hyr.2.1
                          · show R64i (if usesP (deadO y) < 2 then 0 else y.b)
                            split
                            · exact R64i.small (by omega) (by omega)
                            · exact hyr.2.2
                      · obtain ⟨y, hy, rfl⟩ := List.mem_map.1 h
                        exact shift_r y _ (by omega) (by omega) (hm9.insR y hy) (HV.out.2.2.2.2.2.1 y hy)
                    · rw [show (deadC C dl).funs = shiftF ((dl.length : Int) + 1) C.funs from rfl, hfs, shiftF_get, ← hfs] at hz
                      split at hz
                      · rcases List.mem_or_eq_of_mem_set hz with h | rfl
                        · obtain ⟨y, hy, rfl⟩ := List.mem_map.1 h
                          have := HFR.out y hy
                          exact R64i.small (by first | omega | (simp only; omega)) (by first | omega | (simp only; omega))
                        · exact R64i.small (by omega) (by omega)
                      · obtain ⟨y, hy, rfl⟩ := List.mem_map.1 hz
                        have := HFR.out y hy
                        exact R64i.small (by first | omega | (simp only; omega)) (by first | omega | (simp only; omega))
                    -- END E1
                  )
                have HFS := Lib.hid hfs
                clear hr hown hown2 hk hrgr hmr hob hob2 hli hlf hfs
                by_cases hz0 : f0 = 0
                · subst hz0
                  as_aux_lemma =>
                    -- CUT E2
                    go_upto_region 47 with (fail)
                    have hend := HFIN.out (wr.setCell ⟨ob, 0, none⟩ (.int .i64 0)) ((C.funs.map (· + ((dl.length : Int) + 1))).set 0 0) (by rw [show (deadC C dl).funs = shiftF ((dl.length : Int) + 1) C.funs from rfl, HFS.out, shiftF_get, if_pos rfl]) (by
                      have := (HS2.out.2.1.stored 0 (.int .i64 0)).1
                      simpa [intsV, List.map_set] using this) (Keeps.of_grown (setCell_grown0 _ _ _ _) rfl)
                    obtain ⟨w9, hw9⟩ : ∃ w9, wr.setCell ⟨ob, 0, none⟩ (.int .i64 0) = w9 := ⟨_, rfl⟩
                    rw [hw9] at hend ⊢
                    clear hw9 ho0 hofz hq2
                    obtain ⟨c', hc'⟩ : ∃ c', deadC C dl = c' := ⟨_, rfl⟩
                    have HFL := Lib.hid (show C.funs.length = c'.funs.length by rw [← hc']; exact (shiftF_length _ _).symm)
                    rw [hc'] at hend
                    have HOc := Lib.hid (And.intro (show Ord flC c' by rw [← hc']; exact HORD.out) (show c'.ins.length ≤ 1000000 ∧ c'.strs.length ≤ 1000000 ∧ c'.funs.length ≤ 1000000 ∧ R64i c'.glob by rw [← hc']; exact HLEN.out))
                    obtain ⟨m0, m1, m2, m3⟩ := hend.cells
                    have HE1 := Lib.hid hend
                    clear hend hc'
                    try clear hq2 ho0 hofz
                    go_wp2_with fail
                    try rw [HFL.out]
                    refine (to_any HE1.out.mem HOc.out.2.1 HOc.out.2.2.1 HOc.out.2.2.2.1).mono ?_
                    rintro e w2 ⟨hb2, io4, so4, fo4, icap4, scap4, fcap4, rfl, hmem2⟩
                    have HE2 := Lib.hid (And.intro hmem2 (HE1.out.next hb2))
                    clear hb2 hmem2 m0 m1 m2 m3
                    go_wp2_with fail
                    refine (verify_any HE2.out.1 HE2.out.2.tab (by have := HOc.out.2.1; omega) (by have := HOc.out.2.2.1; omega) (by have := HOc.out.2.2.2.1; omega) HOc.out.2.2.2.2).mono ?_
                    rintro e w3 ⟨hb3, hres⟩
                    obtain rfl : e = .returned (.int .i64 0) := by
                      rcases hres with ⟨_, he⟩ | ⟨hno, _⟩
                      · exact he
                      · exact absurd HOc.out.1 hno
                    have hend3 := HE2.out.2.next hb3
                    obtain ⟨m0, m1, m2, m3⟩ := hend3.cells
                    have HE3 := Lib.hid hend3
                    clear hb3 hres hend3
                    go_wp2_with fail
                    refine (right_any HE3.out.mem (by have := HOc.out.2.1; omega) (by have := HOc.out.2.2.1; omega) (by have := HOc.out.2.2.2.1; omega)).mono ?_
                    rintro e w4 ⟨hb4, hres⟩
                    obtain rfl : e = .returned (.bool true) := by
                      rcases hres with ⟨_, he⟩ | ⟨hno, _⟩
                      · exact he
                      · exact absurd HOc.out.1 hno
                    have HB4 := Lib.hid (HE3.out.below.trans (hb4.mono HE3.out.gs))
                    clear hb4 hres m0 m1 m2 m3
                    go_wp2_with fail
                    go_ret
                    exact ⟨rfl, by rw [H.out.2.2.2.2.2]; exact HB4.out⟩
                    -- END E2
                · have hdz : decide (f0 = 0) = false := decide_eq_false hz0
                  as_aux_lemma =>
                    -- CUT E3
                    have hbz : (f0 == 0) = false := by simp [hz0]
                    have hdn : decide (f0 + ((dl.length : Int) + 1) = (dl.length : Int) + 1) = false := decide_eq_false (by omega)
                    have hbn : (f0 + ((dl.length : Int) + 1) == (dl.length : Int) + 1) = false := by simp; omega
                    have hend := HFIN.out wr (C.funs.map (· + ((dl.length : Int) + 1))) (by rw [show (deadC C dl).funs = shiftF ((dl.length : Int) + 1) C.funs from rfl, HFS.out, shiftF_get, if_neg hz0]) HS2.out.2.1 (Keeps.refl _ _)
                    obtain ⟨c', hc'⟩ : ∃ c', deadC C dl = c' := ⟨_, rfl⟩
                    have HFL := Lib.hid (show C.funs.length = c'.funs.length by rw [← hc']; exact (shiftF_length _ _).symm)
                    rw [hc'] at hend
                    have HOc := Lib.hid (And.intro (show Ord flC c' by rw [← hc']; exact HORD.out) (show c'.ins.length ≤ 1000000 ∧ c'.strs.length ≤ 1000000 ∧ c'.funs.length ≤ 1000000 ∧ R64i c'.glob by rw [← hc']; exact HLEN.out))
                    obtain ⟨m0, m1, m2, m3⟩ := hend.cells
                    have HE1 := Lib.hid hend
                    clear hend hc'
                    go_wp2_with fail
                    try rw [HFL.out]
                    refine (to_any HE1.out.mem HOc.out.2.1 HOc.out.2.2.1 HOc.out.2.2.2.1).mono ?_
                    rintro e w2 ⟨hb2, io4, so4, fo4, icap4, scap4, fcap4, rfl, hmem2⟩
                    have HE2 := Lib.hid (And.intro hmem2 (HE1.out.next hb2))
                    clear hb2 hmem2 m0 m1 m2 m3
                    go_wp2_with fail
                    refine (verify_any HE2.out.1 HE2.out.2.tab (by have := HOc.out.2.1; omega) (by have := HOc.out.2.2.1; omega) (by have := HOc.out.2.2.2.1; omega) HOc.out.2.2.2.2).mono ?_
                    rintro e w3 ⟨hb3, hres⟩
                    obtain rfl : e = .returned (.int .i64 0) := by
                      rcases hres with ⟨_, he⟩ | ⟨hno, _⟩
                      · exact he
                      · exact absurd HOc.out.1 hno
                    have hend3 := HE2.out.2.next hb3
                    obtain ⟨m0, m1, m2, m3⟩ := hend3.cells
                    have HE3 := Lib.hid hend3
                    clear hb3 hres hend3
                    go_wp2_with fail
                    refine (right_any HE3.out.mem (by have := HOc.out.2.1; omega) (by have := HOc.out.2.2.1; omega) (by have := HOc.out.2.2.2.1; omega)).mono ?_
                    rintro e w4 ⟨hb4, hres⟩
                    obtain rfl : e = .returned (.bool true) := by
                      rcases hres with ⟨_, he⟩ | ⟨hno, _⟩
                      · exact he
                      · exact absurd HOc.out.1 hno
                    have HB4 := Lib.hid (HE3.out.below.trans (hb4.mono HE3.out.gs))
                    clear hb4 hres m0 m1 m2 m3
                    go_wp2_with fail
                    go_ret
                    exact ⟨rfl, by rw [H.out.2.2.2.2.2]; exact HB4.out⟩
                    -- END E3

theorem own : ownKnob Tryd.prog.godebug = none := by kernel_rfl
theorem laidOut : laidOutB Tryd.prog = true := by kernel_rfl
theorem readable : ∀ t ∈ Tryd.f4.params.toList, Tryd.prog.readableRec t = true ∧ t < Tryd.prog.types.size := by
  rw [Tryd.params4]
  intro t ht
  simp at ht
  rcases ht with rfl | rfl
  · exact ⟨by kernel_rfl, of_decide_eq_true (by kernel_rfl)⟩
  · exact ⟨by kernel_rfl, of_decide_eq_true (by kernel_rfl)⟩

theorem laid_met (os : Os) : laidMet Tryd.prog Rows.codeDeadRow.laid ((laidWorldS os).forCall (fun _ _ => 0) ⟨#[], #[.agg #[.slice none 0 0, .slice none 0 0, .slice none 0 0, .int .i64 0], .slice none 0 0], []⟩).memory :=
  laidMet_of_run' 8 (by kernel_rfl) (by kernel_rfl)
theorem reads (os : Os) {H : Type} (enc : TypeId × Value → H) : DataW.whole enc Tryd.prog ((laidWorldS os).forCall (fun _ _ => 0) ⟨#[], #[.agg #[.slice none 0 0, .slice none 0 0, .slice none 0 0, .int .i64 0], .slice none 0 0], []⟩).memory Tryd.f4.params.toList Rows.codeDeadSpec.vars false (#[.agg #[.slice none 0 0, .slice none 0 0, .slice none 0 0, .int .i64 0], .slice none 0 0] : Array Value).toList 8 = some ([.agg [.nil, .nil, .nil, .lit (.int .i64 0)], .nil], [], []) := by kernel_rfl
set_option maxRecDepth 100000 in
theorem lifted (os : Os) (started : os.Started) (H : Type) (enc : TypeId × Value → H) (F : Stop.Interp) :
    ReturnsInHanded {} Tryd.checked os 4 .any ((OpenSpec.ofChange Rows.codeDeadSpec).preRow enc Tryd.prog Tryd.f4 Rows.codeDeadRow.domain false Rows.codeDeadRow.laid) (((OpenSpec.ofChange Rows.codeDeadSpec).at F).post enc Tryd.prog Tryd.f4 false true false false) := by
  have hx := reads os enc
  refine returnsInHanded_of_row (C := Tryd.checked) (s := OpenSpec.ofChange Rows.codeDeadSpec) own started (by kernel_rfl) Tryd.func4
    (witness_row_at (enc := enc) (C := Tryd.checked) false (laidWorldS os) #[.agg #[.slice none 0 0, .slice none 0 0, .slice none 0 0, .int .i64 0], .slice none 0 0] rfl (by kernel_rfl) (by kernel_rfl) (by kernel_rfl)
      (OpenSpec.preRow_of_cond 8 hx (by kernel_rfl) (fun k hk => by cases hk) (by kernel_rfl) (laid_met os))) ?_
  intro W base args ds gs before hval0 hW _ _ _ hL _ _
  have ht : ShTab W := shtab_of_head hL
  have hval : ∀ (j : Nat) t v, Tryd.f4.params[j]? = some t → args[j]? = some v → Value.okWide Tryd.prog W .any base t v := hval0
  have hW' := hW
  obtain ⟨p, q, hA0, hV, rfl, hfz, hnd⟩ := hW
  have hA : DataW.TrodAll enc Tryd.prog W 0 (fun _ => true) true Tryd.f4.params.toList args.toList ds p := hA0
  rw [Tryd.params4] at hA hval
  obtain ⟨v0, v1, d0, d1, p0, p1, rfl, rfl, rfl, h0, h1⟩ := trodAll_two hA
  obtain ⟨rfl, rfl⟩ := trodVars_none hV
  obtain ⟨c, io, so, fo, icap, scap, fcap, rfl, hmem, hil, hic, hsl, hsc, hfl, hfc, hgl⟩ := open_code (tc := 26) (ti := 23) (te := 29) Tryd.underlying26 rfl (by kernel_rfl) ⟨by kernel_rfl, by kernel_rfl, by kernel_rfl, by kernel_rfl, by kernel_rfl⟩ Tryd.underlying23 Tryd.underlying29 rfl (by kernel_rfl) (hval 0 26 v0 rfl rfl) h0
  obtain ⟨do_, len, dcap, rfl⟩ := okWide_slice Tryd.underlying23 (hval 1 23 v1 rfl rfl)
  obtain ⟨fuel, hfu⟩ := h1
  obtain ⟨do2, dcap2, ds, hde, hdl, hdc, hds, hdr⟩ := open_ins Tryd.underlying23 Tryd.underlying29 rfl (by kernel_rfl) (by kernel_rfl) hfu
  simp [Value.cells] at hde
  obtain ⟨rfl, rfl, rfl⟩ := hde
  refine (walk hmem hil hic hsl hsc hfl hfc hgl ds hds (fun b hb hne => ?_) hdr (by omega) ht).mono fun e W' ⟨he, hb⟩ => ?_
  · rcases id hds with h | ⟨b', o', rfl, hc'⟩
    · exact absurd (by simpa using h) hne
    · cases hb
      exact rowsAt_lt hds (by simpa using hne) (by intro r hr; obtain ⟨x, _, rfl⟩ := List.mem_map.1 hr; rfl) (by decide)
  subst he
  exact ⟨_, rfl, post_law laidOut rfl rfl Tryd.underlying4 readable rfl rfl rfl hW' hb⟩

theorem said : Rows.CodeDeadSaid :=
  OpenClaim.holds_of_cond 4 Tryd.f4 rfl rfl rfl rfl rfl rfl rfl ⟨rfl, rfl, rfl, rfl, rfl⟩ rfl rfl rfl rfl rfl (by kernel_rfl) Tryd.func4 (by kernel_rfl)
    (of_decide_eq_true (by kernel_rfl)) (by unfold Func.isWrapper; first | (rw [if_pos (by decide +kernel)]; kernel_rfl) | (rw [if_neg (by decide +kernel)]; exact ⟨rfl, rfl⟩))
    (fun os started H enc _ F => by rw [OpenClaim.pre_eq_preRow]; exact lifted os started H enc F)

/-- No parameter wants a stand-in; the program's own looks are off. -/
theorem plain (f : FuncId) (fn : Func) (hf : Tryd.pinned.checked.prog.funcNamed "scriptor/scriptorlaw16.CodeDead" = some f) (hfn : Tryd.pinned.checked.prog.funcs[f]? = some fn) :
    true = Tryd.pinned.checked.prog.looks [] ∧ ∀ (j : Nat) t, fn.params[j]? = some t → Tryd.pinned.checked.prog.wantsStandIn t = false := by
  obtain rfl : f = 4 := Option.some.inj ((show Tryd.prog.funcNamed "scriptor/scriptorlaw16.CodeDead" = some 4 by kernel_rfl).symm.trans hf) |>.symm
  obtain rfl : fn = Tryd.f4 := (Option.some.inj (Tryd.func4.symm.trans hfn)).symm
  refine ⟨by kernel_rfl, fun j t ht => ?_⟩
  have hall : ∀ t ∈ Tryd.f4.params.toList, Tryd.prog.wantsStandIn t = false := by
    rw [Tryd.params4]
    intro t ht
    simp at ht
    rcases ht with rfl | rfl
    · kernel_rfl
    · kernel_rfl
  exact hall t (Array.mem_toList_iff.2 (Array.mem_of_getElem? ht))

theorem card : Rows.CodeDeadCardSaid :=
  Claim7.holds_tied_plain_at .later [] _ _ _ _ said (fun _ h => by cases h) (by kernel_rfl) (fun _ h => by cases h) codeDead_row_tie rfl ⟨rfl, rfl⟩ (by kernel_rfl) rfl plain (by kernel_rfl)
end Go.Proofs.YtnhdefaagicejaaDoor.codeDead
