/- Slices as lists: what a slice value reads as, the built-in append on a row of the call's own from any source, bytes to a string. No program in sight. -/
import Derived.WalkKit
import Derived.ProofKit
import Derived.Deep.AppendSrc
import Derived.Lib.Hide
import Derived.Laws.Cover1
namespace Go.Proofs.YtkgdcbpiicckkaaGreatDoor
set_option linter.unusedSimpArgs false
set_option linter.unusedVariables false
open Go.RowKit

/-- A byte as a value. -/
def u8v (c : UInt8) : Value := .int .u8 (c.toNat : Int)
/-- Bytes as cells. -/
def bytesV (l : List UInt8) : List Value := l.map u8v
@[simp] theorem bytesV_length (l : List UInt8) : (bytesV l).length = l.length := by simp [bytesV]
@[simp] theorem bytesV_nil : bytesV [] = [] := rfl
@[simp] theorem bytesV_append (a b : List UInt8) : bytesV (a ++ b) = bytesV a ++ bytesV b := by simp [bytesV]
theorem bytesV_set (l : List UInt8) (j : Nat) (c : UInt8) : bytesV (l.set j c) = (bytesV l).set j (u8v c) := by simp [bytesV, List.map_set]
theorem bytesV_one (l : List UInt8) : ∀ u ∈ bytesV l, u.oneCell' = true := by
  intro u hu
  obtain ⟨_, _, rfl⟩ := List.mem_map.1 hu
  rfl
theorem bytesV_get (l : List UInt8) (j : Nat) (h : j < l.length) : (bytesV l)[j]? = some (u8v l[j]) := by simp [bytesV, h]
theorem byteCells_eq (l : List UInt8) : byteCells ⟨l.toArray⟩ = bytesV l := by simp [byteCells, bytesV, u8v]

/-- The cells 'xs' lie from a slice's address on. -/
def At (w : World) (ao : Option Addr) (xs : List Value) : Prop :=
  xs = [] ∨ ∃ b o, ao = some ⟨b, o, none⟩ ∧ ∀ j v, xs[j]? = some v → w.cell? ⟨b, o + j, none⟩ = some v

theorem At.nil (w : World) (ao : Option Addr) : At w ao [] := .inl rfl

/-- A slice's block, if it has one. -/
def blk (ao : Option Addr) : Option Nat := ao.map (·.block)

theorem At.lt {w : World} {ao : Option Addr} {xs : List Value} (h : At w ao xs) (hx : xs ≠ []) : ∃ b, blk ao = some b ∧ b < w.heap.size := by
  rcases h with rfl | ⟨b, o, rfl, hc⟩
  · exact absurd rfl hx
  · refine ⟨b, rfl, ?_⟩
    cases xs with
    | nil => exact absurd rfl hx
    | cons x xs => exact World.block_lt_of_cell? (a := ⟨b, o + 0, none⟩) w (hc 0 x rfl)

/-- It reads as it did where its block is as it was. -/
theorem At.keep {w w' : World} {ao : Option Addr} {xs : List Value} (h : At w ao xs) (hk : ∀ b, blk ao = some b → b < w.heap.size → w'.heap[b]? = w.heap[b]?) : At w' ao xs := by
  rcases Classical.em (xs = []) with rfl | hx
  · exact .inl rfl
  obtain ⟨b', hb', hlt⟩ := h.lt hx
  rcases h with rfl | ⟨b, o, rfl, hc⟩
  · exact absurd rfl hx
  · obtain rfl : b = b' := by simpa [blk] using hb'
    exact .inr ⟨b, o, rfl, fun j v hj => (World.cell?_of_block (a := ⟨b, o + j, none⟩) (hk b rfl hlt)).trans (hc j v hj)⟩

theorem At.below {w w' : World} {ao : Option Addr} {xs : List Value} (h : At w ao xs) (hb : Below w.heap.size w w') : At w' ao xs :=
  h.keep fun b _ hlt => hb.block b hlt

theorem At.cell {w : World} {b o : Nat} {xs : List Value} (h : At w (some ⟨b, o, none⟩) xs) (j : Nat) (v : Value) (hj : xs[j]? = some v) : w.cell? ⟨b, o + j, none⟩ = some v := by
  rcases h with rfl | ⟨b', o', e, hc⟩
  · simp at hj
  · cases e
    exact hc j v hj

theorem At.sub {w : World} {b o : Nat} {xs : List Value} (h : At w (some ⟨b, o, none⟩) xs) (k m : Nat) : At w (some ⟨b, o + k, none⟩) ((xs.drop k).take m) := by
  refine .inr ⟨b, o + k, rfl, fun j v hj => ?_⟩
  rw [Nat.add_assoc]
  refine h.cell (k + j) v ?_
  rw [List.getElem?_take] at hj
  split at hj
  · simpa using hj
  · cases hj

theorem At.take {w : World} {ao : Option Addr} {xs : List Value} (h : At w ao xs) (m : Nat) : At w ao (xs.take m) := by
  rcases h with rfl | ⟨b, o, rfl, hc⟩
  · exact .inl (by simp)
  · refine .inr ⟨b, o, rfl, fun j v hj => hc j v ?_⟩
    rw [List.getElem?_take] at hj
    split at hj
    · exact hj
    · cases hj

/-- Where 's[k:]' begins: at the old address, if nothing is left of the capacity. -/
def tailOf (ao : Option Addr) (cap k : Nat) : Option Addr := if cap = k then ao else ao.map (·.add k)
theorem At.drop {w : World} {ao : Option Addr} {xs : List Value} (h : At w ao xs) (cap k : Nat) (hk : xs.length ≤ cap) : At w (tailOf ao cap k) (xs.drop k) := by
  unfold tailOf
  by_cases hc : cap = k
  · rw [if_pos hc, List.drop_eq_nil_of_le (by omega)]
    exact At.nil _ _
  · rw [if_neg hc]
    rcases h with rfl | ⟨b, o, rfl, hx⟩
    · rw [List.drop_nil]; exact At.nil _ _
    · refine .inr ⟨b, o + k, ?_, fun j v hj => ?_⟩
      · simp [Addr.add_lit]
      · rw [Nat.add_assoc]
        exact hx (k + j) v (by simpa using hj)

/-- As the source of an append. -/
theorem At.src {P : Program} {w : World} {size : Nat} {tx e' : TypeId} (hk : P.underlying tx = some (.slice e')) {ao : Option Addr} {n c : Nat} {xs : List Value} (h : At w ao xs) (hl : xs.length = n * size)
    (h1 : ∀ u ∈ xs, u.oneCell' = true) (hsz : 0 < size) : Src P size tx (.slice ao n c) n xs w := by
  rcases h with rfl | ⟨b, o, rfl, hc⟩
  · obtain rfl : n = 0 := by
      rcases Nat.eq_zero_or_pos n with h0 | h0
      · exact h0
      · have := Nat.mul_pos h0 hsz; simp at hl; omega
    cases ao with
    | none => exact Src.ofNil w hk c
    | some a => exact Src.ofSlice w hk a 0 c [] (by simp) (fun j u hj => by simp at hj) h1
  · exact Src.ofSlice w hk ⟨b, o, none⟩ n c xs hl (fun j u hj => by rw [Addr.add_lit]; exact hc j u hj) h1

/-- Of a row of one's own. -/
theorem At.own {w : World} {base : Nat} {e : TypeId} {size : Nat} {ao : Option Addr} {n cap m : Nat} {xs : List Value} (h : w.ownsRow base e size (.slice ao n cap) m xs) : At w ao xs := by
  rcases h.2 with ⟨hv, rfl⟩ | ⟨g, cap', cur, hv, hb, hg, hnc, hcm, hcs, ht⟩
  · exact .inl (List.eq_nil_of_length_eq_zero (by simpa using h.1))
  · cases hv
    refine .inr ⟨g, 0, rfl, fun j v hj => ?_⟩
    have := h.cells (g := g) rfl j v hj
    rwa [Addr.add_lit] at this

/-- THE BUILT-IN append ON A ROW OF THE CALL's OWN, FROM ANY SOURCE. -/
theorem run_append_own_src {P : Program} (w : World) (base : Nat) (t tx ty e : TypeId) (i : TypeInfo) (z : Value) (size bytes : Nat) (ht : P.underlying t = some (.slice e)) (hi : P.info? e = some i) (hz : i.zero = some z)
    (hsize : i.size = size) (hby : i.bytes = bytes) (hzs : z.cells.size = size)
    (v : Value) (n : Nat) (xs : List Value) (hown : w.ownsRow base e size v n xs)
    (x : Value) (m : Nat) (news : List Value) (hs : Src P size tx x m news w)
    (h63 : n + m ≤ maxLen) (hbytes : (n + m) * bytes ≤ 140737488355328) (hbase : base ≤ w.heap.size) :
    ∃ v' w', (Builtin.append_ #[t, tx] ty #[v, x]).run P w = .ok v' w' ∧ w'.ownsRow base e size v' (n + m) (xs ++ news) ∧ w.grownBy w' v.ownBlock ∧
      (v' = .slice none 0 0 ↔ v = .slice none 0 0 ∧ m = 0) ∧ (v'.ownBlock = v.ownBlock ∨ v'.ownBlock = some w.heap.size) := by
  subst hsize
  subst hby
  have hnl := hs.newsLen
  have hlen : (xs ++ news).length = (n + m) * i.size := by rw [List.length_append, hown.1, hnl, Nat.add_mul]
  have hsmall : n + m ≤ 9223372036854775807 := by simp only [maxLen] at h63; omega
  have grow : ∀ (bs : Option Addr) (sc : Nat), v = .slice bs n sc → sc < n + m → (Builtin.firstCells i.size n (.slice bs n sc)).run P w.drew = .ok xs.toArray w.drew →
      ∃ v' w', (Builtin.append_ #[t, tx] ty #[v, x]).run P w = .ok v' w' ∧ w'.ownsRow base e i.size v' (n + m) (xs ++ news) ∧ w.grownBy w' v.ownBlock ∧
      (v' = .slice none 0 0 ↔ v = .slice none 0 0 ∧ m = 0) ∧ (v'.ownBlock = v.ownBlock ∨ v'.ownBlock = some w.heap.size) := by
    rintro bs sc rfl hg hold
    have hrun := run_append_grow_src (P := P) w t tx ty e i z ht hi hz bs n sc xs hold x m news hs hg (by omega) (growslice_fits hg hbytes)
    have hge := grownCap_ge w (n + m) sc e
    have hcm := grownCap_le_maxLen w (n + m) sc e h63
    refine ⟨_, _, hrun, ⟨hlen, .inr ⟨w.heap.size, _, _, rfl, hbase, heap_alloc_new w.drew _, hge, hcm, ?_, ?_⟩⟩, ⟨rfl, rfl, rfl, by simp, fun k hk _ => Below.heap_alloc w.drew _ k hk⟩, ?_, .inr rfl⟩
    · rw [Array.size_append, List.size_toArray, hlen, size_zeroCells, hzs, ← Nat.add_mul]
      congr 1
      omega
    · rw [Array.toList_append, ← hlen]
      exact List.take_left
    · constructor
      · intro h; cases h
      · rintro ⟨h, rfl⟩
        cases h
        omega
  rcases hown.2 with ⟨rfl, rfl⟩ | ⟨g, cap, cur, rfl, hbg, hg, hnc, hcm, hcs, htake⟩
  · have hx : xs = [] := List.eq_nil_of_length_eq_zero (by simpa using hown.1)
    subst hx
    rcases Nat.eq_zero_or_pos m with rfl | hm
    · have hn : news = [] := List.eq_nil_of_length_eq_zero (by simpa using hnl)
      subst hn
      refine ⟨.slice none 0 0, w, ?_, World.ownsRow_nil w base e i.size, ⟨rfl, rfl, rfl, Nat.le_refl _, fun _ _ _ => rfl⟩, by simp, .inl rfl⟩
      rcases hs.kind with ⟨e', hk⟩ | hk <;> simp [Builtin.append_, run_underlying ht, run_underlying hk, sizeOf, typeInfo, hi, hs.len, hs.cells]
    · exact grow none 0 rfl (by omega) (by simp [Builtin.firstCells])
  · by_cases hroom : n + m ≤ cap
    · have hfit : n * i.size + news.length ≤ cur.size := by rw [hnl, hcs, ← Nat.add_mul]; exact Nat.mul_le_mul_right _ hroom
      have hst := run_storeCells_at P g (n * i.size) e news 0 cur w hg (by simpa using hfit) hs.one
      simp only [Nat.add_zero] at hst
      refine ⟨.slice (some ⟨g, 0, none⟩) (n + m) cap, w.setRow g (cur.toList.take (n * i.size) ++ news ++ cur.toList.drop (n * i.size + news.length)).toArray, ?_, ⟨hlen, .inr ⟨g, cap, _, rfl, hbg, setRow_heap w g cur _ e _ hg, hroom, hcm, ?_, ?_⟩⟩, ⟨rfl, rfl, rfl, by simp, fun k _ hk => setRow_other w g k _ (fun e => hk (by simp [Value.ownBlock, e]))⟩, by simp, .inl rfl⟩
      · rcases hs.kind with ⟨e', hk⟩ | hk <;> simp [Builtin.append_, run_underlying ht, run_underlying hk, sizeOf, typeInfo, hi, hs.len, hroom, hs.cells, Addr.add_lit, hst]
      · simp only [List.size_toArray, List.length_append, List.length_take, List.length_drop, Array.length_toList]
        omega
      · rw [htake, ← hlen]
        exact List.take_left
    · refine grow (some ⟨g, 0, none⟩) cap rfl (by omega) ?_
      refine run_firstCells_some w.drew i.size n ⟨g, 0, none⟩ n cap xs hown.1 (fun j u hj => ?_)
      have := hown.cells (g := g) rfl j u hj
      simpa using this

/-- What a value that owns something looks like. -/
theorem owns_form {w : World} {base : Nat} {e : TypeId} {size : Nat} {v : Value} {n : Nat} {xs : List Value} (h : w.ownsRow base e size v n xs) : ∃ ao cap, v = .slice ao n cap ∧ n ≤ cap := by
  rcases h.2 with ⟨rfl, rfl⟩ | ⟨g, cap, cur, rfl, _, _, hnc, _⟩
  · exact ⟨none, 0, rfl, Nat.le_refl _⟩
  · exact ⟨_, cap, rfl, hnc⟩

theorem owns_mono {w : World} {base base' : Nat} {e : TypeId} {size : Nat} {v : Value} {n : Nat} {xs : List Value} (h : w.ownsRow base e size v n xs) (hb : base' ≤ base) : w.ownsRow base' e size v n xs := by
  refine ⟨h.1, ?_⟩
  rcases h.2 with h2 | ⟨g, cap, cur, hv, hbg, r⟩
  · exact .inl h2
  · exact .inr ⟨g, cap, cur, hv, Nat.le_trans hb hbg, r⟩

/-- A row of one's own, where all below is as it was. -/
theorem owns_keep {w w' : World} {base : Nat} {e : TypeId} {size : Nat} {v : Value} {n : Nat} {xs : List Value} (h : w.ownsRow base e size v n xs) (hk : ∀ b, v.ownBlock = some b → b < w.heap.size → w'.heap[b]? = w.heap[b]?) : w'.ownsRow base e size v n xs := by
  refine ⟨h.1, ?_⟩
  rcases h.2 with h2 | ⟨g, cap, cur, rfl, hbg, hg, r⟩
  · exact .inl h2
  · exact .inr ⟨g, cap, cur, rfl, hbg, by rw [hk g rfl (Array.getElem?_eq_some_iff.1 hg).1]; exact hg, r⟩

theorem owns_below {w w' : World} {base : Nat} {e : TypeId} {size : Nat} {v : Value} {n : Nat} {xs : List Value} (h : w.ownsRow base e size v n xs) (hb : Below w.heap.size w w') : w'.ownsRow base e size v n xs :=
  owns_keep h fun b _ hlt => hb.block b hlt

/-- What only grew is as it was. -/
theorem grown_below {w w' : World} (h : w.grownBy w' none) : Below w.heap.size w w' := ⟨h.os, h.tape, h.output, h.size, fun k hk => h.block k hk (by simp)⟩
theorem own_slice (ao : Option Addr) (n cap : Nat) : (Value.slice ao n cap).ownBlock = blk ao := by cases ao <;> rfl
/-- A growth of a row of the call's own, from a base on. -/
theorem below_grown {B : Nat} {w w' : World} {ao : Option Addr} {m cap : Nat} {e : TypeId} {size n : Nat} {xs : List Value} (hown : w.ownsRow B e size (.slice ao m cap) n xs) (hB : B ≤ w.heap.size) (hg : w.grownBy w' (blk ao)) : Below B w w' :=
  (Below.refl B w).grown hg hB fun k hk => (hown.lt k (by rw [own_slice]; exact hk)).1

/-- An operation that is wanted. -/
theorem wpList_go {P : Program} {w : World} {ops : Array Oper} {rest : List Oper} {o : Oper} {a : Act} {Q : Exit → Act → World → Prop} (hw : Region.wanted o (yielded ops a.tmps) = true)
    (h : ∀ K : Act → World → Prop, (∀ a w, wpList P ops Q rest a w → K a w) → o.wp P a w K Q) : wpList P ops Q (o :: rest) a w :=
  wpList_step fun K hK => by rw [if_pos hw]; exact h K hK

/-- FOR THE WALK: append ONTO A ROW OF ONE's OWN, FROM ANY SOURCE. -/
theorem wp_append {P : Program} {w : World} {o : Oper} {a : Act} {K : Act → World → Prop} {Q : Exit → Act → World → Prop} (s x : Operand) (t tx : TypeId)
    (ho : o.op = .call { callee := .builtin .append, args := #[s, x], argTypes := #[t, tx] })
    (base : Nat) (e : TypeId) (i : TypeInfo) (z : Value) (size bytes : Nat) (ht : P.underlying t = some (.slice e)) (hi : P.info? e = some i) (hz : i.zero = some z)
    (hsize : i.size = size) (hby : i.bytes = bytes) (hzs : z.cells.size = size)
    (v : Value) (n : Nat) (xs : List Value) (hs : a.eval s = v) (hown : w.ownsRow base e size v n xs)
    (xv : Value) (m : Nat) (news : List Value) (hx : a.eval x = xv) (hsrc : Src P size tx xv m news w)
    (h63 : n + m ≤ maxLen) (hbytes : (n + m) * bytes ≤ 140737488355328) (hbase : base ≤ w.heap.size)
    (h : ∀ ao cap w', w'.ownsRow base e size (.slice ao (n + m) cap) (n + m) (xs ++ news) → w.grownBy w' v.ownBlock → (blk ao = v.ownBlock ∨ blk ao = some w.heap.size) → K (a.put o.dst (.slice ao (n + m) cap)) w') :
    o.wp P a w K Q := by
  obtain ⟨v', w', hr, h2, h3, _, h5⟩ := run_append_own_src (P := P) w base t tx o.type e i z size bytes ht hi hz hsize hby hzs v n xs hown xv m news hsrc h63 hbytes hbase
  obtain ⟨ao, cap, rfl, _⟩ := owns_form h2
  have h6 : blk ao = v.ownBlock ∨ blk ao = some w.heap.size := by
    cases ao with
    | none => simpa [Value.ownBlock, blk] using h5
    | some a => simpa [Value.ownBlock, blk] using h5
  unfold Oper.wp execOp
  simp only [ho, resolve, invoke, builtin, Sem.run_bind, Sem.run_pure, Result.andThen_ok, List.map_toArray, List.map_cons, List.map_nil, hs, hx, hr]
  exact h ao cap w' h2 h3 h6

/-- 's[k:]'. -/
theorem run_slice_lo {P : Program} (w : World) (t : TypeId) (size : Nat) (ht : P.underlying t = some (.slice (P.elem t))) (hs : (P.info? (P.elem t)).map (·.size) = some size) (ao : Option Addr) (n cap : Nat) (kl : IntKind) (k : Nat) (hk : k ≤ n) :
    (Instr.sliceAt t (.slice ao n cap) (some (.int kl (k : Int))) none none).run P w = .ok (.slice (if cap = k then ao else ao.map (·.add (k * size))) (n - k) (cap - k)) w := by
  obtain ⟨i, hi, rfl⟩ := Option.map_eq_some_iff.1 hs
  rw [run_sliceAt_slice w t _ _ _ _ ht, run_slice_l w t ao n cap ht kl (k : Int) (by omega) (by omega)]
  simp [sizeOf, typeInfo, hi, sliced]

/-- The built-in min of two ints, and of three: one way. -/
theorem op_min2 {P : Program} {w : World} {ops : Array Oper} {rest : List Oper} {o : Oper} {a : Act} {Q : Exit → Act → World → Prop} (hgd : Region.wanted o (yielded ops a.tmps) = true) (x y : Operand) (ts : Array TypeId)
    (ho : o.op = .call { callee := .builtin .min, args := #[x, y], argTypes := ts }) (k : IntKind) (p q n : Int) (hx : a.eval x = .int k p) (hy : a.eval y = .int k q) (hn : min p q = n)
    (h : wpList P ops Q rest (a.put o.dst (.int k n)) w) : wpList P ops Q (o :: rest) a w := by
  refine wpList_go hgd fun K hK => ?_
  have hr := run_min_int2 (P := P) (w := w) ts o.type k k p q
  have e : (if q < p then q else p) = n := by rw [← hn, Int.min_def]; split <;> split <;> omega
  rw [e] at hr
  unfold Oper.wp execOp
  simp only [ho, resolve, invoke, builtin, Sem.run_bind, Sem.run_pure, Result.andThen_ok, List.map_toArray, List.map_cons, List.map_nil, hx, hy, hr]
  exact hK _ _ h
theorem op_min3 {P : Program} {w : World} {ops : Array Oper} {rest : List Oper} {o : Oper} {a : Act} {Q : Exit → Act → World → Prop} (hgd : Region.wanted o (yielded ops a.tmps) = true) (x y z : Operand) (ts : Array TypeId)
    (ho : o.op = .call { callee := .builtin .min, args := #[x, y, z], argTypes := ts }) (k : IntKind) (p q r n : Int) (hx : a.eval x = .int k p) (hy : a.eval y = .int k q) (hz : a.eval z = .int k r) (hn : min (min p q) r = n)
    (h : wpList P ops Q rest (a.put o.dst (.int k n)) w) : wpList P ops Q (o :: rest) a w := by
  refine wpList_go hgd fun K hK => ?_
  have hr := run_min_int3 (P := P) (w := w) ts o.type k k k p q r
  have e : (if r < (if q < p then q else p) then r else (if q < p then q else p)) = n := by rw [← hn]; simp only [Int.min_def]; (repeat' split) <;> omega
  rw [e] at hr
  unfold Oper.wp execOp
  simp only [ho, resolve, invoke, builtin, Sem.run_bind, Sem.run_pure, Result.andThen_ok, List.map_toArray, List.map_cons, List.map_nil, hx, hy, hz, hr]
  exact hK _ _ h

/-- BYTES TO A STRING. -/
theorem run_conv_str {P : Program} (w : World) (src e : TypeId) (hs : P.underlying src = some (.slice e)) (he : P.underlying e = some (.int .u8)) (ao : Option Addr) (l : List UInt8) (n cap : Nat) (hn : n = l.length) (h : At w ao (bytesV l)) (dst : TypeId) (hd : P.underlying dst = some .string) :
    (convert src dst (.slice ao n cap)).run P w = .ok (.string ⟨l.toArray⟩) w := by
  subst hn
  rcases Nat.eq_zero_or_pos l.length with h0 | h0
  · obtain rfl := List.eq_nil_of_length_eq_zero h0
    rw [run_convert_bytes_string w src dst e ao _ cap hs he hd]
    cases ao with
    | none => simp [Conv.bytesToString]; rfl
    | some a =>
      rw [show ([] : List UInt8).length = 0 from rfl]
      exact run_bytesToString (P := P) w a 0 cap [] (by simp [loadCells, loadCellsFrom])
  · rcases h with h | ⟨b, o, rfl, hc⟩
    · rw [← bytesV_length, h] at h0; simp at h0
    · rw [run_convert_bytes_arg (P := P) w src e hs he b o l.length cap (l.map fun c => (c.toNat : Int)) (by simp) (fun j hj => ?_) dst hd]
      · simp [strOfNums, Function.comp_def]
      · rw [hc j (u8v l[j]) (bytesV_get l j hj)]
        simp [u8v, List.getD, hj]

theorem arm_conv_str {P : Program} {w : World} {ops : Array Oper} {rest : List Oper} {o : Oper} {a : Act} {Q : Exit → Act → World → Prop} (hgd : Region.wanted o (yielded ops a.tmps) = true) (src dst : TypeId) (x : Operand) (ho : o.op = .convert src dst x)
    (e : TypeId) (hs : P.underlying src = some (.slice e)) (he : P.underlying e = some (.int .u8)) (hd : P.underlying dst = some .string) (ao : Option Addr) (n cap : Nat) (hx : a.eval x = .slice ao n cap) (l : List UInt8) (h : At w ao (bytesV l)) (hn : n = l.length)
    (hk : wpList P ops Q rest (a.put o.dst (.string ⟨l.toArray⟩)) w) : wpList P ops Q (o :: rest) a w := by
  refine wpList_go hgd fun K hK => ?_
  have hr := run_conv_str (P := P) w src e hs he ao l n cap hn h dst hd
  unfold Oper.wp execOp
  simp only [ho, hx, hr, Sem.run_bind, Sem.run_pure, Result.andThen_ok]
  exact hK _ _ hk

theorem At.takeB {w : World} {ao : Option Addr} {l : List UInt8} (h : At w ao (bytesV l)) (k : Nat) : At w ao (bytesV (l.take k)) := by
  have := At.take h k
  rwa [bytesV, ← List.map_take] at this
theorem At.dropB {w : World} {ao : Option Addr} {l : List UInt8} (h : At w ao (bytesV l)) (cap k : Nat) (hk : l.length ≤ cap) : At w (tailOf ao cap k) (bytesV (l.drop k)) := by
  have := At.drop h cap k (by simpa using hk)
  rwa [bytesV, ← List.map_drop] at this

/-- Elements of 'k' cells each lie from a slice's address on. -/
def RowsAt (w : World) (ao : Option Addr) (k : Nat) (rows : List (List Value)) : Prop :=
  rows = [] ∨ ∃ b o, ao = some ⟨b, o, none⟩ ∧ ∀ i r, rows[i]? = some r → ∀ j v, r[j]? = some v → w.cell? ⟨b, o + (i * k + j), none⟩ = some v
theorem RowsAt.keep {w w' : World} {ao : Option Addr} {k : Nat} {rows : List (List Value)} (h : RowsAt w ao k rows) (hk : ∀ b, blk ao = some b → b < w.heap.size → w'.heap[b]? = w.heap[b]?) : RowsAt w' ao k rows := by
  rcases h with rfl | ⟨b, o, rfl, hc⟩
  · exact .inl rfl
  · refine .inr ⟨b, o, rfl, fun i r hi j v hj => ?_⟩
    have h1 := hc i r hi j v hj
    exact (World.cell?_of_block (a := ⟨b, o + (i * k + j), none⟩) (hk b rfl (World.block_lt_of_cell? (a := ⟨b, o + (i * k + j), none⟩) w h1))).trans h1
theorem RowsAt.below {w w' : World} {ao : Option Addr} {k : Nat} {rows : List (List Value)} (h : RowsAt w ao k rows) (hb : Below w.heap.size w w') : RowsAt w' ao k rows := h.keep fun _ _ hlt => hb.block _ hlt
theorem RowsAt.belowB {B : Nat} {w w' : World} {ao : Option Addr} {k : Nat} {rows : List (List Value)} (h : RowsAt w ao k rows) (hb : Below B w w') (hB : ∀ b, blk ao = some b → rows ≠ [] → b < B) : RowsAt w' ao k rows := by
  by_cases hr : rows = []
  · exact .inl hr
  · exact h.keep fun b hb' _ => hb.block b (hB b hb' hr)
theorem RowsAt.cell {w : World} {ao : Option Addr} {k : Nat} {rows : List (List Value)} (h : RowsAt w ao k rows) (i : Nat) (hi : i < rows.length) : ∃ b o, ao = some ⟨b, o, none⟩ ∧ ∀ j v, rows[i][j]? = some v → w.cell? ⟨b, o + (i * k + j), none⟩ = some v := by
  rcases h with rfl | ⟨b, o, rfl, hc⟩
  · simp at hi
  · exact ⟨b, o, rfl, fun j v hj => hc i _ (List.getElem?_eq_getElem hi) j v hj⟩
theorem RowsAt.take {w : World} {ao : Option Addr} {k : Nat} {rows : List (List Value)} (h : RowsAt w ao k rows) (m : Nat) : RowsAt w ao k (rows.take m) := by
  rcases h with rfl | ⟨b, o, rfl, hc⟩
  · exact .inl (by simp)
  · refine .inr ⟨b, o, rfl, fun i r hi j v hj => hc i r ?_ j v hj⟩
    rw [List.getElem?_take] at hi
    split at hi
    · exact hi
    · cases hi

end Go.Proofs.YtkgdcbpiicckkaaGreatDoor
