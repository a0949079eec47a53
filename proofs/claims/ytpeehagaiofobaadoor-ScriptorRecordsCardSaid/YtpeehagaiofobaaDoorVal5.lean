/- Rows of values of the call's own: appended to, read; the walk of the document's Tame. -/
import Derived.Test.YtpeehagaiofobaaDoorVal4
import Derived.Deep.CutRange
import Derived.Deep.CutBlock
namespace Go.Proofs.YtpeehagaiofobaaDoor
open Go.RowKit

theorem flat_get : ∀ (rows : List (List Value)), (∀ r ∈ rows, r.length = 4) → ∀ i r, rows[i]? = some r → ∀ j v, r[j]? = some v → rows.flatten[i * 4 + j]? = some v
  | [], _, i, r, hi, _, _, _ => by simp at hi
  | x :: xs, h, i, r, hi, j, v, hj => by
    have hx : x.length = 4 := h x (by simp)
    rw [List.flatten_cons]
    cases i with
    | zero =>
      simp at hi
      subst hi
      have hjl : j < x.length := by
        rcases Nat.lt_or_ge j x.length with h | h
        · exact h
        · rw [List.getElem?_eq_none h] at hj; cases hj
      rw [Nat.zero_mul, Nat.zero_add, List.getElem?_append_left hjl, hj]
    | succ i =>
      have := flat_get xs (fun r hr => h r (by simp [hr])) i r (by simpa using hi) j v hj
      rw [List.getElem?_append_right (by omega), show (i + 1) * 4 + j - x.length = i * 4 + j by omega]
      exact this
theorem rowsAt_of_flat {w : World} {ao : Option Addr} {rows : List (List Value)} (h : At w ao rows.flatten) (h4 : ∀ r ∈ rows, r.length = 4) : RowsAt w ao 4 rows := by
  rcases Classical.em (rows = []) with rfl | hne
  · exact .inl rfl
  rcases h with h | ⟨b, o, rfl, hc⟩
  · exfalso
    cases rows with
    | nil => exact hne rfl
    | cons r rs =>
      have := h4 r (by simp)
      rw [List.flatten_cons] at h
      have h2 := congrArg List.length h
      rw [List.length_append, List.length_nil] at h2
      omega
  · exact .inr ⟨b, o, rfl, fun i r hi j v hj => hc _ v (flat_get rows h4 i r hi j v hj)⟩
/-- A row of values of the call's own; what they reach lies in D. -/
def ValsOwn (w : World) (base : Nat) (D : Nat → Prop) (N : Nat) (ao : Option Addr) (cap : Nat) (xs : List PV) : Prop :=
  (∃ rows : List (List Value), w.ownsRow base 37 4 (.slice ao xs.length cap) xs.length rows.flatten ∧ All2 (VIn w D N) rows xs) ∧ ∀ j, blk ao = some j → ¬ D j
theorem ValsOwn.nil (w : World) (base : Nat) (D : Nat → Prop) (N : Nat) : ValsOwn w base D N none 0 [] := ⟨⟨[], World.ownsRow_nil _ _ _ _, All2.nil⟩, fun j hj => by cases hj⟩
theorem All2.len4 {w : World} {D : Nat → Prop} {N : Nat} {rows : List (List Value)} {xs : List PV} (h : All2 (VIn w D N) rows xs) : ∀ r ∈ rows, r.length = 4 := by
  intro r hr
  obtain ⟨i, hi, e⟩ := List.getElem_of_mem hr
  have hx : i < xs.length := by rw [← h.1]; exact hi
  have := h.2 i rows[i] xs[i] (List.getElem?_eq_getElem hi) (List.getElem?_eq_getElem hx)
  rw [← e]
  exact this.len
theorem ValsOwn.vs {w : World} {base : Nat} {D : Nat → Prop} {N : Nat} {ao : Option Addr} {cap : Nat} {xs : List PV} (h : ValsOwn w base D N ao cap xs) : VsIn w (fun b => D b ∨ blk ao = some b) N ao xs := by
  obtain ⟨⟨rows, h1, h2⟩, _⟩ := h
  exact ⟨rows, rowsAt_of_flat (At.own h1) h2.len4, fun _ b hb => .inr hb, h2.mono fun _ _ _ h => h.mono fun _ h => .inl h⟩
theorem ValsOwn.lt {w : World} {base : Nat} {D : Nat → Prop} {N : Nat} {ao : Option Addr} {cap : Nat} {xs : List PV} (h : ValsOwn w base D N ao cap xs) (j : Nat) (hj : blk ao = some j) : base ≤ j ∧ j < w.heap.size := by
  obtain ⟨⟨rows, h1, _⟩, _⟩ := h
  exact h1.lt j (by rw [own_slice]; exact hj)
theorem ValsOwn.cap_le {w : World} {base : Nat} {D : Nat → Prop} {N : Nat} {ao : Option Addr} {cap : Nat} {xs : List PV} (h : ValsOwn w base D N ao cap xs) : xs.length ≤ cap ∧ cap ≤ 9223372036854775807 := by
  obtain ⟨⟨rows, h1, _⟩, _⟩ := h
  rcases h1.2 with ⟨e, _⟩ | ⟨g, cap', cur, hv, _, _, hnc, hcm, _⟩
  · obtain ⟨_, h0, hc⟩ := Value.slice.inj e
    omega
  · cases hv
    unfold maxLen at hcm
    exact ⟨hnc, by omega⟩
theorem ValsOwn.keeps {X : Nat → Prop} {w w' : World} {base : Nat} {D : Nat → Prop} {N : Nat} {ao : Option Addr} {cap : Nat} {xs : List PV} (h : ValsOwn w base D N ao cap xs) (hk : Keeps X w w') (hD : ∀ b, D b → ¬ X b) (ha : ∀ j, blk ao = some j → ¬ X j) : ValsOwn w' base D N ao cap xs := by
  obtain ⟨⟨rows, h1, h2⟩, h3⟩ := h
  exact ⟨⟨rows, owns_keeps h1 hk (fun b hb => ha b (by rw [own_slice] at hb; exact hb)), h2.mono fun _ _ _ h => h.keeps hk hD⟩, h3⟩
theorem ValsOwn.below {w w' : World} {base : Nat} {D : Nat → Prop} {N : Nat} {ao : Option Addr} {cap : Nat} {xs : List PV} (h : ValsOwn w base D N ao cap xs) (hb : Below w.heap.size w w') : ValsOwn w' base D N ao cap xs := h.keeps (Keeps.of_below (X := fun _ => False) hb) (fun _ _ h => h) (fun _ _ h => h)
theorem ValsOwn.grow {w : World} {base : Nat} {D E : Nat → Prop} {N M : Nat} {ao : Option Addr} {cap : Nat} {xs : List PV} (h : ValsOwn w base D N ao cap xs) (hDE : ∀ b, D b → E b) (hE : ∀ j, blk ao = some j → ¬ E j) (hN : N ≤ M) : ValsOwn w base E M ao cap xs := by
  obtain ⟨⟨rows, h1, h2⟩, h3⟩ := h
  exact ⟨⟨rows, h1, h2.mono fun _ _ _ h => (h.mono hDE).deep hN⟩, hE⟩

theorem infoV : (Tryd.prog.info? 37).map (fun i => (i.zero, i.size, i.bytes)) = some (some (.agg #[.int .i64 0, .int .i64 0, .string ⟨#[]⟩, .slice none 0 0]), 4, 56) := by kernel_rfl
/-- One value more. -/
theorem wp_val {w : World} {o : Oper} {a : Act} {K : Act → World → Prop} {Q : Exit → Act → World → Prop} (s x : Operand)
    (ho : o.op = .call { callee := .builtin .append, args := #[s, x], argTypes := #[22, 22] })
    (base : Nat) (D : Nat → Prop) (N : Nat) (ao : Option Addr) (cap n : Nat) (xs : List PV) (hn : n = xs.length) (hs : a.eval s = .slice ao n cap) (hown : ValsOwn w base D N ao cap xs)
    (k m : Int) (t : List UInt8) (ko : Option Addr) (kn kcap : Nat) (y : PV) (hy : VIn w D N [.int .i64 k, .int .i64 m, .string ⟨t.toArray⟩, .slice ko kn kcap] y) (hx : a.eval x = .slice (some ⟨w.heap.size, 0, none⟩) 1 1)
    (hD : ∀ j, D j → j < w.heap.size) (hb : n ≤ 1000000000) (hbase : base ≤ w.heap.size)
    (h : ∀ ao' cap' w', ValsOwn w' base D N ao' cap' (xs ++ [y]) → Keeps (fun i => blk ao = some i) w w' → (∀ j, blk ao' = some j → blk ao = some j ∨ w.heap.size < j) → Keeps (fun i => blk ao = some i) (w.alloc (.cells #[.int .i64 k, .int .i64 m, .string ⟨t.toArray⟩, .slice ko kn kcap] 37)) w' → K (a.put o.dst (.slice ao' (n + 1) cap')) w') :
    o.wp Tryd.prog a (w.alloc (.cells #[.int .i64 k, .int .i64 m, .string ⟨t.toArray⟩, .slice ko kn kcap] 37)) K Q := by
  subst hn
  obtain ⟨i0, hi, hz0, hz1, hz2⟩ := info_parts infoV
  obtain ⟨⟨rows, h1, h2⟩, h3⟩ := hown
  have hat : At (w.alloc (.cells #[.int .i64 k, .int .i64 m, .string ⟨t.toArray⟩, .slice ko kn kcap] 37)) (some ⟨w.heap.size, 0, none⟩) [.int .i64 k, .int .i64 m, .string ⟨t.toArray⟩, .slice ko kn kcap] := At.new w #[.int .i64 k, .int .i64 m, .string ⟨t.toArray⟩, .slice ko kn kcap] _
  refine wp_append s x 22 22 ho base 37 i0 (.agg #[.int .i64 0, .int .i64 0, .string ⟨#[]⟩, .slice none 0 0]) 4 56 Tryd.underlying22 hi hz0 hz1 hz2 rfl _ xs.length rows.flatten hs (h1.alloc _) _ 1 [.int .i64 k, .int .i64 m, .string ⟨t.toArray⟩, .slice ko kn kcap] hx
    (hat.src Tryd.underlying22 rfl (by intro y hy; simp at hy; rcases hy with rfl | rfl | rfl | rfl <;> rfl) (by decide)) (by unfold maxLen; omega) (by omega) (by simp; omega) ?_
  intro ao' cap' w' g1 g2 g3
  rw [own_slice] at g2 g3
  have hk : Keeps (fun i => blk ao = some i) w w' := by
    refine ⟨g2.os, g2.tape, g2.output, by have := g2.size; simp at this; omega, fun k hk hne => ?_⟩
    rw [g2.block k (by simp; omega) (fun e => hne e.symm)]
    exact Below.heap_alloc w _ k hk
  have hao : ∀ j, blk ao' = some j → blk ao = some j ∨ w.heap.size < j := fun j hj => by
    rcases g3 with h | h
    · exact .inl (by rw [← h]; exact hj)
    · rw [h] at hj
      simp at hj
      exact .inr (by omega)
  have hDX : ∀ b, D b → ¬ (blk ao = some b) := fun b hb hx => h3 b hx hb
  refine h ao' cap' w' ⟨⟨rows ++ [[.int .i64 k, .int .i64 m, .string ⟨t.toArray⟩, .slice ko kn kcap]], ?_, ?_⟩, ?_⟩ hk hao (Keeps.of_grown' g2 fun _ h => h)
  · rw [List.flatten_append, List.length_append]
    simpa using g1
  · exact (h2.mono fun _ _ _ h => h.keeps hk hDX).snoc (hy.keeps hk hDX)
  · intro j hj hd
    rcases hao j hj with h | h
    · exact h3 j h hd
    · have := hD j hd; omega
theorem app_val {w : World} {ops : Array Oper} {rest : List Oper} {o : Oper} {a : Act} {Q : Exit → Act → World → Prop} (hgd : Region.wanted o (yielded ops a.tmps) = true) (s x : Operand)
    (ho : o.op = .call { callee := .builtin .append, args := #[s, x], argTypes := #[22, 22] })
    (base : Nat) (D : Nat → Prop) (N : Nat) (ao : Option Addr) (cap n : Nat) (xs : List PV) (hn : n = xs.length) (hs : a.eval s = .slice ao n cap) (hown : ValsOwn w base D N ao cap xs)
    (k m : Int) (t : List UInt8) (ko : Option Addr) (kn kcap : Nat) (y : PV) (hy : VIn w D N [.int .i64 k, .int .i64 m, .string ⟨t.toArray⟩, .slice ko kn kcap] y) (g : Nat) (hg : g = w.heap.size) (hx : a.eval x = .slice (some ⟨g, 0, none⟩) 1 1)
    (hD : ∀ j, D j → j < w.heap.size) (hb : n ≤ 1000000000) (hbase : base ≤ w.heap.size)
    (h : ∀ ao' cap' w', ValsOwn w' base D N ao' cap' (xs ++ [y]) → Keeps (fun i => blk ao = some i) w w' → (∀ j, blk ao' = some j → blk ao = some j ∨ w.heap.size < j) → wpList Tryd.prog ops Q rest (a.put o.dst (.slice ao' (n + 1) cap')) w') :
    wpList Tryd.prog ops Q (o :: rest) a (w.alloc (.cells #[.int .i64 k, .int .i64 m, .string ⟨t.toArray⟩, .slice ko kn kcap] 37)) :=
  wpList_go hgd fun _ hK => wp_val s x ho base D N ao cap n xs hn hs hown k m t ko kn kcap y hy (by rw [← hg]; exact hx) hD hb hbase fun ao' cap' w' h1 h2 h3 _ => hK _ _ (h ao' cap' w' h1 h2 h3)

theorem results_tame (tmps : Array Value) (W : World) (g : Nat) (k m : Int) (t : List UInt8) (ao : Option Addr) (n cap : Nat) (z : Value) (hp : tmps[6]?.getD undef = .pointer (some ⟨g, 0, none⟩)) (hz : tmps[7]?.getD undef = z) (hc : ValAt W g k m t ao n cap) :
    (results Tryd.f9 tmps).run Tryd.prog W = .ok (.tuple #[valV k m t ao n cap, z]) W := by
  obtain ⟨c0, c1, c2, c3⟩ := hc
  have hu := Tryd.underlying37
  unfold valV
  simp only [results, Tryd.results9]
  go_simp
/-- What Tame leaves: a value of new blocks. -/
def TameOk (N : Nat) : Prop := ∀ (x : PV) (w : World) (D : Nat → Prop) (cs : List Value), VIn w D N cs x → ∀ (deep left : Nat), 1 ≤ deep → deep ≤ 100 → 1 ≤ left → left ≤ 60 →
  Calls Tryd.prog 9 #[.agg cs.toArray, .int .i64 (deep : Int), .int .i64 (left : Int)] w (fun e w' => ∃ (cs' : List Value) (y : PV) (z : Nat), e = .returned (.tuple #[.agg cs'.toArray, .int .i64 (z : Int)]) ∧ z < left ∧ VIn w' (fun b => w.heap.size ≤ b) N cs' y ∧ Below w.heap.size w w')
set_option maxRecDepth 100000 in
set_option maxHeartbeats 4000000 in
theorem tame_any : ∀ N : Nat, TameOk N
  | 0 => fun _ _ _ _ h => h.elim
  | N + 1 => by
    have ih := tame_any N
    rintro ⟨k, m, t, ks⟩ w D cs h deep left hd1 hd2 hl1 hl2
    obtain ⟨ko, kcap, hv, hcs, hkc, hcap, hks⟩ := h.val
    have H := Lib.hid (And.intro hks.there hcap)
    have hkl : ks.length ≤ 9223372036854775807 := by omega
    rw [hv]
    unfold valV
    clear h hks hv hcs hcap hkc
    go_enter Tryd.func9, Tryd.ntmps9
    go_upto_block 0 with (fail)
    obtain ⟨W, hW⟩ : ∃ W, (w.alloc (.cells #[.int .i64 k, .int .i64 m, .string ⟨t.toArray⟩, .slice ko ks.length kcap] 37)).alloc (.cells #[.int .i64 0, .int .i64 0, .string ⟨#[]⟩, .slice none 0 0] 37) = W := ⟨_, rfl⟩
    have hbW : Below w.heap.size w W := by rw [← hW]; exact ((Below.refl w.heap.size w).alloc (Nat.le_refl _) _).alloc (by simp) _
    have hvW : ValAt W w.heap.size k m t ko ks.length kcap := by rw [← hW]; exact (ValAt.new w k m t ko ks.length kcap).below ((Below.refl _ _).alloc (Nat.le_refl _) _)
    have hsW : W.heap.size = w.heap.size + 2 := by rw [← hW]; simp
    have hrW : W.heap[w.heap.size]? = some (.cells #[.int .i64 k, .int .i64 m, .string ⟨t.toArray⟩, .slice ko ks.length kcap] 37 (0, 0)) := by
      rw [← hW, Below.heap_alloc _ _ _ (by simp)]
      exact heap_alloc_new w _
    have hrW2 : W.heap[w.heap.size + 1]? = some (.cells #[.int .i64 0, .int .i64 0, .string ⟨#[]⟩, .slice none 0 0] 37 (0, 0)) := by
      rw [← hW]
      have := heap_alloc_new (w.alloc (.cells #[.int .i64 k, .int .i64 m, .string ⟨t.toArray⟩, .slice ko ks.length kcap] 37)) (.cells #[.int .i64 0, .int .i64 0, .string ⟨#[]⟩, .slice none 0 0] 37)
      simp only [World.size_alloc] at this
      exact this
    rw [hW]
    have HW := Lib.hid (And.intro hbW (And.intro hvW (And.intro hrW (And.intro hrW2 (And.intro hsW (H.out.1.below hbW))))))
    clear hW hbW hvW hrW hrW2 hsW
    go_cut [2, 8, 9, 10, 11] from 14 to 49 (fun v2 v8 _ _ _ w' => ∃ (z : Nat) (ao : Option Addr) (cap : Nat) (ys : List PV), v2 = .int .i64 (z : Int) ∧ z < left ∧ v8 = .slice ao ys.length cap ∧ ValsOwn w' W.heap.size (fun b => W.heap.size ≤ b ∧ b < w'.heap.size ∧ blk ao ≠ some b) N ao cap ys ∧ Below W.heap.size W w')
    case first =>
      go_wp2_with fail
      go_loopw [2, 8, 9] (fun v2 v8 v9 wr => ∃ (i z : Nat) (ao : Option Addr) (cap : Nat) (ys : List PV), i ≤ ks.length ∧ i ≤ 12 ∧ v9 = .int .i64 (i : Int) ∧ v2 = .int .i64 (z : Int) ∧ z < left ∧ v8 = .slice ao ys.length cap ∧ ys.length = i ∧ ValsOwn wr W.heap.size (fun b => W.heap.size ≤ b ∧ b < wr.heap.size ∧ blk ao ≠ some b) N ao cap ys ∧ Below W.heap.size W wr) (fun _ _ v9 _ => 12 - (intOf v9).toNat)
      case atStart => exact ⟨0, left - 1, none, 0, [], by omega, by omega, rfl, by congr 1; omega, by omega, rfl, rfl, ValsOwn.nil _ _ _ _, Below.refl _ _⟩
      case round =>
        obtain ⟨i, z, ao, cap, ys, hi, hi12, rfl, rfl, hz, rfl, hyl, hown, hbr⟩ := hrel
        have HO := Lib.hid (And.intro hown hbr)
        have hszr := hbr.size
        have hvr := HW.out.2.1.below hbr
        have c3 := hvr.2.2.2
        clear hown hbr hvr
        have h12 := HO.out.1.lt
        by_cases hgo : i < ks.length ∧ 1 < deep ∧ 0 < z ∧ i < 12
        · obtain ⟨hga, hgb, hgc, hgd⟩ := hgo
          have dA : decide ((i : Int) < (ks.length : Int)) = true := decide_eq_true (by omega)
          have dB : decide (1 < (deep : Int)) = true := decide_eq_true (by omega)
          have dC : decide (0 < (z : Int)) = true := decide_eq_true (by omega)
          have dD : decide ((i : Int) < 12) = true := decide_eq_true (by omega)
          cases N with
          | zero =>
            obtain ⟨_, _, _, _, hv, _⟩ := H.out.1.get i hga
            exact hv.elim
          | succ n' =>
          obtain ⟨b, o, k2, m2, t2, kao, kks, kcap2, rfl, hx, hv, c0, c1, c2, c3', hblt⟩ := (HW.out.2.2.2.2.2.below HO.out.2).cells i hga
          have ht := ih (.mk k2 m2 t2 kks) wr _ _ hv (deep - 1) z (by omega) (by omega) (by omega) (by omega)
          rw [show (((deep - 1 : Nat)) : Int) = (deep : Int) - 1 by omega] at ht
          have HTM := Lib.hid ht
          clear hx hv ht h12
          go_wp2_with fail
          refine HTM.out.mono ?_
          rintro e w2 ⟨cs', y, z2, rfl, hz2, hy, hb2⟩
          obtain ⟨ky, my, ty, kys⟩ := y
          obtain ⟨yo, ycap, hyv, hycs, _⟩ := hy.val
          rw [hyv]
          rw [hycs] at hy
          unfold valV
          have hs2 := hb2.size
          have H2 := Lib.hid (And.intro hy (And.intro hb2 (HO.out.1.below hb2)))
          clear hy hb2 hyv hycs c0 c1 c2 c3' c3
          obtain ⟨W3, hW3⟩ : ∃ W3, w2.alloc (.cells #[.int .i64 ky, .int .i64 my, .string ⟨ty.toArray⟩, .slice yo kys.length ycap] 37) = W3 := ⟨_, rfl⟩
          have hb23 : Below w2.heap.size w2 W3 := by rw [← hW3]; exact (Below.refl _ w2).alloc (Nat.le_refl _) _
          have hs23 : w2.heap.size < W3.heap.size := by rw [← hW3]; simp
          have hy3 : VIn W3 (fun b => W.heap.size ≤ b ∧ b < W3.heap.size ∧ blk ao ≠ some b) (n' + 1) [.int .i64 ky, .int .i64 my, .string ⟨ty.toArray⟩, .slice yo kys.length ycap] (.mk ky my ty kys) := (H2.out.1.there.below hb23).mono (fun j hj => ⟨by omega, by omega, fun h => by
            have := (HO.out.1.lt j h).2
            omega⟩)
          have hown3 : ValsOwn W3 W.heap.size (fun b => W.heap.size ≤ b ∧ b < W3.heap.size ∧ blk ao ≠ some b) (n' + 1) ao cap ys := (H2.out.2.2.below hb23).grow (fun j hj => ⟨hj.1, by omega, hj.2.2⟩) (fun j hj hd => hd.2.2 hj) (Nat.le_refl _)
          have HS3 := Lib.hid (show w2.heap.size + 1 = W3.heap.size by rw [← hW3]; simp)
          have H3 := Lib.hid (And.intro hy3 (And.intro hown3 (And.intro hb23 hW3)))
          clear hy3 hown3 hb23 hW3
          go_wp2_with (first | (at_builtin; rw [H3.out.2.2.2]; refine app_val rfl _ _ rfl W.heap.size (fun b => W.heap.size ≤ b ∧ b < W3.heap.size ∧ blk ao ≠ some b) (n' + 1) ao cap i ys hyl.symm rfl H3.out.2.1 ky my ty yo kys.length ycap (.mk ky my ty kys) H3.out.1 (w2.heap.size + 1) HS3.out rfl (fun j hj => hj.2.1) (by omega) (by omega) ?_; rintro ao4 cap4 w4 q1 q2 q3))
          go_roundw
          case rel =>
            have hs34 := q2.size
            have hb34 : Below W.heap.size W3 w4 := q2.below (fun j hj h => by have := (HO.out.1.lt j h).1; omega) (by omega)
            have hb2w : Below wr.heap.size wr w2 := H2.out.2.1
            have hall : Below W.heap.size W w4 := HO.out.2.trans ((hb2w.mono hszr).trans ((H3.out.2.2.1.mono (by omega)).trans hb34))
            refine ⟨i + 1, z2, ao4, cap4, ys ++ [.mk ky my ty kys], by omega, by omega, by simp, rfl, by omega, by rw [List.length_append, hyl]; rfl, by rw [List.length_append, hyl]; rfl, ?_, hall⟩
            refine q1.grow (fun j hj => ⟨hj.1, by omega, fun h => ?_⟩) (fun j hj hd => hd.2.2 hj) (Nat.le_refl _)
            rcases q3 j h with h | h
            · exact hj.2.2 h
            · omega
          case measure => simp [intOf]; omega
        · clear h12
          by_cases hga : i < ks.length
          · have dA : decide ((i : Int) < (ks.length : Int)) = true := decide_eq_true (by omega)
            by_cases hgb : 1 < deep
            · have dB : decide (1 < (deep : Int)) = true := decide_eq_true (by omega)
              by_cases hgc : 0 < z
              · have dC : decide (0 < (z : Int)) = true := decide_eq_true (by omega)
                have dD : decide ((i : Int) < 12) = false := decide_eq_false (by omega)
                clear hgo
                go_wp2_with fail
                go_meet
                case rel => exact ⟨z, ao, cap, ys, rfl, hz, by rw [hyl], HO.out.1, HO.out.2⟩
              · have dC : decide (0 < (z : Int)) = false := decide_eq_false (by omega)
                clear hgo
                go_wp2_with fail
                go_meet
                case rel => exact ⟨z, ao, cap, ys, rfl, hz, by rw [hyl], HO.out.1, HO.out.2⟩
            · have dB : decide (1 < (deep : Int)) = false := decide_eq_false (by omega)
              clear hgo
              go_wp2_with fail
              go_meet
              case rel => exact ⟨z, ao, cap, ys, rfl, hz, by rw [hyl], HO.out.1, HO.out.2⟩
          · have dA : decide ((i : Int) < (ks.length : Int)) = false := decide_eq_false (by omega)
            clear hgo
            go_wp2_with fail
            go_meet
            case rel => exact ⟨z, ao, cap, ys, rfl, hz, by rw [hyl], HO.out.1, HO.out.2⟩
    case rest =>
      obtain ⟨z, ao, cap, ys, rfl, hz, rfl, hown, hbc⟩ := hcut
      have hszc := hbc.size
      have HO := Lib.hid (And.intro hown hbc)
      have hvr := HW.out.2.1.below hbc
      obtain ⟨d0, d1, d2, d3⟩ := hvr
      have hrc1 := (hbc.block _ (by have := HW.out.2.2.2.2.1; omega : w.heap.size < W.heap.size)).trans HW.out.2.2.1
      have hrc2 := (hbc.block _ (by have := HW.out.2.2.2.2.1; omega : w.heap.size + 1 < W.heap.size)).trans HW.out.2.2.2.1
      have HRC := Lib.hid (And.intro hrc1 hrc2)
      have hfz1 : ∀ j, wc.frozen? ⟨w.heap.size, j, none⟩ = false := fun j => frozen_of_row wc w.heap.size j _ _ hrc1
      have hfz2 : ∀ j, wc.frozen? ⟨w.heap.size + 1, j, none⟩ = false := fun j => frozen_of_row wc (w.heap.size + 1) j _ _ hrc2
      have e0 : wc.cell? ⟨w.heap.size + 1, 0, none⟩ = some (.int .i64 0) := cell_of_row _ _ 0 _ _ (0, 0) hrc2
      have e1 : wc.cell? ⟨w.heap.size + 1, 1, none⟩ = some (.int .i64 0) := cell_of_row _ _ 1 _ _ (0, 0) hrc2
      have e2 : wc.cell? ⟨w.heap.size + 1, 2, none⟩ = some (.string ⟨#[]⟩) := cell_of_row _ _ 2 _ _ (0, 0) hrc2
      have e3 : wc.cell? ⟨w.heap.size + 1, 3, none⟩ = some (.slice none 0 0) := cell_of_row _ _ 3 _ _ (0, 0) hrc2
      have hsz : (ByteArray.mk t.toArray).size = t.length := by rw [ByteArray.size]; simp
      clear hown hbc hrc1 hrc2
      obtain ⟨n5, hn5⟩ : ∃ n5, min t.length 5000 = n5 := ⟨_, rfl⟩
      have HMIN := Lib.hid (show min ((t.length : Nat) : Int) 5000 = (n5 : Int) by omega)
      have hn5l : n5 ≤ t.length := by omega
      have hext : ByteArray.extract ⟨t.toArray⟩ 0 n5 = ⟨(t.take n5).toArray⟩ := by rw [ByteArray.extract_mk]; simp
      clear hn5
      go_wp2_with (refine op_min2 rfl _ _ _ rfl .i64 _ _ (n5 : Int) rfl rfl HMIN.out ?_)
      clear hext d0 d1 d2 d3 e0 e1 e2 e3 hfz1 hfz2
      generalize hg : w.heap.size = g at *
      generalize hF : ((((((wc.setCell ⟨g, 3, none⟩ (.slice ao ys.length cap)).setCell ⟨g, 2, none⟩ (.string ⟨(t.take n5).toArray⟩)).setCell ⟨g + 1, 0, none⟩ (.int .i64 k)).setCell ⟨g + 1, 1, none⟩ (.int .i64 m)).setCell ⟨g + 1, 2, none⟩ (.string ⟨(t.take n5).toArray⟩)).setCell ⟨g + 1, 3, none⟩ (.slice ao ys.length cap)) = F
      have hK : Keeps (fun j => j = g ∨ j = g + 1) wc F := by
        rw [← hF]
        refine Keeps.trans' (Keeps.trans' (Keeps.trans' (Keeps.trans' (Keeps.trans' (Keeps.of_grown (setCell_grown0 _ _ _ _) (.inl rfl)) (Keeps.of_grown (setCell_grown0 _ _ _ _) (.inl rfl))) (Keeps.of_grown (setCell_grown0 _ _ _ _) (.inr rfl))) (Keeps.of_grown (setCell_grown0 _ _ _ _) (.inr rfl))) (Keeps.of_grown (setCell_grown0 _ _ _ _) (.inr rfl))) (Keeps.of_grown (setCell_grown0 _ _ _ _) (.inr rfl))
      have hrF := setCell_row0 3 (.slice ao ys.length cap) (setCell_row0 2 (.string ⟨(t.take n5).toArray⟩) (setCell_row0 1 (.int .i64 m) (setCell_row0 0 (.int .i64 k) ((setCell_else0 (wc.setCell ⟨g, 3, none⟩ (.slice ao ys.length cap)) g 2 (.string ⟨(t.take n5).toArray⟩) (g + 1) (by omega)).trans ((setCell_else0 wc g 3 (.slice ao ys.length cap) (g + 1) (by omega)).trans HRC.out.2)))))
      rw [hF] at hrF
      have hvF : ValAt F (g + 1) k m (t.take n5) ao ys.length cap := ⟨cell_of_row _ _ 0 _ _ (0, 0) hrF, cell_of_row _ _ 1 _ _ (0, 0) hrF, cell_of_row _ _ 2 _ _ (0, 0) hrF, cell_of_row _ _ 3 _ _ (0, 0) hrF⟩
      refine bodyPost_ret (v := .tuple #[valV k m (t.take n5) ao ys.length cap, .int .i64 (z : Int)]) (results_tame _ _ (g + 1) k m (t.take n5) ao ys.length cap _ rfl rfl hvF) rfl ?_
      have hsW := HW.out.2.2.2.2.1
      have hcl := HO.out.1.cap_le
      have hks := (HO.out.1.vs).keeps hK (fun j hj hx => by
        have : W.heap.size ≤ j := by
          rcases hj with h | h
          · exact h.1
          · exact (HO.out.1.lt j h).1
        omega)
      refine ⟨[.int .i64 k, .int .i64 m, .string ⟨(t.take n5).toArray⟩, .slice ao ys.length cap], .mk k m (t.take n5) ys, z, rfl, hz, VIn.row.2 ⟨ao, cap, rfl, hcl.1, ⟨hcl.2, H.out.2.2.1, H.out.2.2.2.1, by rw [List.length_take]; have := H.out.2.2.2.2; omega⟩, hks.mono (fun j hj => by
        rcases hj with h | h
        · have := h.1; omega
        · have := (HO.out.1.lt j h).1; omega)⟩, ?_⟩
      have hb1 : Below g w wc := HW.out.1.trans (HO.out.2.mono (by omega))
      exact hb1.trans (hK.below (fun i hi hx => by omega) (by omega))
end Go.Proofs.YtpeehagaiofobaaDoor
