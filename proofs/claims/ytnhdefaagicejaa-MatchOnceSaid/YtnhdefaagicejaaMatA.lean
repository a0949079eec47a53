/- Patterns and values that are made: parts appended one by one. The walk of the law's 'to'. -/
import Derived.Test.YtnhdefaagicejaaMat9
namespace Go.Proofs.Ytnhdefaagicejaa
set_option linter.unusedSimpArgs false
set_option linter.unusedVariables false
open Go.RowKit

abbrev VP (N : Nat) : World → (Nat → Prop) → List Value → PV → Prop := fun w D cs x => VIn w D N cs x
/-- Four cells in a block of their own. -/
def Row4 (w : World) (g : Nat) (ty : TypeId) (k m : Int) (t : List UInt8) (ao : Option Addr) (n cap : Nat) : Prop := w.heap[g]? = some (.cells #[.int .i64 k, .int .i64 m, .string ⟨t.toArray⟩, .slice ao n cap] ty (0, 0))
theorem Row4.lt {w : World} {g : Nat} {ty : TypeId} {k m : Int} {t : List UInt8} {ao : Option Addr} {n cap : Nat} (h : Row4 w g ty k m t ao n cap) : g < w.heap.size := (Array.getElem?_eq_some_iff.1 h).1
theorem Row4.pat {w : World} {g : Nat} {ty : TypeId} {k m : Int} {t : List UInt8} {ao : Option Addr} {n cap : Nat} (h : Row4 w g ty k m t ao n cap) : PatAt w g k m t ao n cap := PatAt.row h
theorem Row4.frozen {w : World} {g : Nat} {ty : TypeId} {k m : Int} {t : List UInt8} {ao : Option Addr} {n cap : Nat} (h : Row4 w g ty k m t ao n cap) : ∀ j, w.frozen? ⟨g, j, none⟩ = false := fun j => frozen_of_row w _ j _ _ h
theorem Row4.keeps {X : Nat → Prop} {w w' : World} {g : Nat} {ty : TypeId} {k m : Int} {t : List UInt8} {ao : Option Addr} {n cap : Nat} (h : Row4 w g ty k m t ao n cap) (hk : Keeps X w w') (hX : ¬ X g) : Row4 w' g ty k m t ao n cap := (hk.block g h.lt hX).trans h
theorem Row4.put {w : World} {g : Nat} {ty : TypeId} {k m : Int} {t : List UInt8} {ao : Option Addr} {n cap : Nat} (h : Row4 w g ty k m t ao n cap) (k' m' : Int) (t' : List UInt8) (ao' : Option Addr) (n' cap' : Nat) :
    Row4 ((((w.setCell ⟨g, 0, none⟩ (.int .i64 k')).setCell ⟨g, 1, none⟩ (.int .i64 m')).setCell ⟨g, 2, none⟩ (.string ⟨t'.toArray⟩)).setCell ⟨g, 3, none⟩ (.slice ao' n' cap')) g ty k' m' t' ao' n' cap' :=
  setCell_row0 3 _ (setCell_row0 2 _ (setCell_row0 1 _ (setCell_row0 0 _ h)))
theorem Row4.put3 {w : World} {g : Nat} {ty : TypeId} {k m : Int} {t : List UInt8} {ao : Option Addr} {n cap : Nat} (h : Row4 w g ty k m t ao n cap) (ao' : Option Addr) (n' cap' : Nat) : Row4 (w.setCell ⟨g, 3, none⟩ (.slice ao' n' cap')) g ty k m t ao' n' cap' := setCell_row0 3 _ h
theorem three (w : World) (A B C : Obj) : (((w.alloc A).alloc B).alloc C).heap.size = w.heap.size + 3 ∧ Below w.heap.size w (((w.alloc A).alloc B).alloc C) ∧ (((w.alloc A).alloc B).alloc C).heap[w.heap.size]? = some A ∧ (((w.alloc A).alloc B).alloc C).heap[w.heap.size + 1]? = some B ∧ (((w.alloc A).alloc B).alloc C).heap[w.heap.size + 2]? = some C := by
  refine ⟨by simp, (((Below.refl _ _).alloc (Nat.le_refl _) _).alloc (by simp) _).alloc (by simp; omega) _, ?_, ?_, ?_⟩
  · exact (Below.heap_alloc _ _ _ (by simp; omega)).trans ((Below.heap_alloc _ _ _ (by simp)).trans (heap_alloc_new w A))
  · refine (Below.heap_alloc _ _ _ (by simp)).trans ?_
    have := heap_alloc_new (w.alloc A) B
    simp only [World.size_alloc] at this
    exact this
  · have := heap_alloc_new ((w.alloc A).alloc B) C
    simp only [World.size_alloc] at this
    exact this
/-- A value that is being made, in the block q: its parts are one's own. -/
def OutI (ty e : TypeId) (N : Nat) (W : World) (q : Nat) (k m : Int) (t : List UInt8) (ys : List PV) (wr : World) : Prop :=
  ∃ ao cap, Row4 wr q ty k m t ao ys.length cap ∧ OwnL e 4 (VP N) wr W.heap.size (DD (fun _ => False) W wr ao) ao cap ys ∧ Keeps (fun b => b = q ∨ W.heap.size ≤ b) W wr
/-- A part that a call has made. -/
theorem VIn.part {N : Nat} {w w1 wa W : World} {cs : List Value} {y : PV} {ao : Option Addr} (h : VIn w1 (fun b => w.heap.size ≤ b ∧ b < w1.heap.size) N cs y) (hW : W.heap.size ≤ w.heap.size) (hao : ∀ j, blk ao = some j → j < w.heap.size) (hb : Below w1.heap.size w1 wa) : VIn wa (DD (fun _ => False) W wa ao) N cs y := by
  refine (h.below hb).mono fun b hb' => .inr ⟨by omega, by have := hb.size; omega, fun h' => by have := hao b h'; omega⟩
theorem out_step {ty e : TypeId} {N : Nat} {W wr wa w5 : World} {q : Nat} {k m : Int} {t : List UInt8} {ys ys' : List PV} {ao ao5 : Option Addr} {cap cap5 : Nat} (hr : Row4 wr q ty k m t ao ys.length cap) (hk : Keeps (fun b => b = q ∨ W.heap.size ≤ b) W wr) (hq : q < W.heap.size)
    (hao : ∀ j, blk ao = some j → W.heap.size ≤ j ∧ j < wr.heap.size) (hb : Below wr.heap.size wr wa) (q1 : OwnL e 4 (VP N) w5 W.heap.size (DD (fun _ => False) W wa ao) ao5 cap5 ys') (q2 : Keeps (fun i => blk ao = some i) wa w5) :
    w5.cell? ⟨q, 3, none⟩ = some (.slice ao ys.length cap) ∧ w5.frozen? ⟨q, 3, none⟩ = false ∧ OutI ty e N W q k m t ys' (w5.setCell ⟨q, 3, none⟩ (.slice ao5 ys'.length cap5)) := by
  have hk2 : Keeps (fun i => blk ao = some i) wr w5 := (Keeps.of_below hb).trans' q2
  have hr5 := hr.keeps hk2 (fun h => by have := (hao _ h).1; omega)
  have hk6 : Keeps (fun b => b = q) w5 (w5.setCell ⟨q, 3, none⟩ (.slice ao5 ys'.length cap5)) := keep1 (X := fun b => b = q) _ rfl _
  have hlt := q1.lt
  refine ⟨hr5.pat.2.2.2, hr5.frozen 3, ao5, cap5, hr5.put3 _ _ _, own_dd (elemV N) (q1.keeps (elemV N) hk6 (fun b hb h => ?_) (fun j hj h => by have := (hlt j hj).1; omega)) (by have := hk6.size; have := q2.size; omega), (hk.trans' (hk2.mono (fun b _ h => .inr (hao b h).1))).trans' (hk6.mono (fun b _ h => .inl h))⟩
  rcases hb with hb | hb
  · exact hb
  · omega
/-- The value is put into the block of the result. -/
theorem out_done {ty e ty2 : TypeId} {N : Nat} {W wr : World} {q r g : Nat} {k m k0 m0 : Int} {t t0 : List UInt8} {ys : List PV} {ao ao0 : Option Addr} {cap n0 cap0 : Nat} (hr : Row4 wr q ty k m t ao ys.length cap) (hown : OwnL e 4 (VP N) wr W.heap.size (DD (fun _ => False) W wr ao) ao cap ys) (hk : Keeps (fun b => b = q ∨ W.heap.size ≤ b) W wr)
    (hr0 : Row4 W r ty2 k0 m0 t0 ao0 n0 cap0) (hrq : r ≠ q) (hq : g ≤ q) (hrg : g ≤ r) (hW : g ≤ W.heap.size) (hR : R64 k ∧ R64 m ∧ t.length ≤ 9223372036854775807) :
    ∀ F, ((((wr.setCell ⟨r, 0, none⟩ (.int .i64 k)).setCell ⟨r, 1, none⟩ (.int .i64 m)).setCell ⟨r, 2, none⟩ (.string ⟨t.toArray⟩)).setCell ⟨r, 3, none⟩ (.slice ao ys.length cap)) = F →
    PatAt F r k m t ao ys.length cap ∧ VIn F (fun b => g ≤ b ∧ b < F.heap.size) (N + 1) [.int .i64 k, .int .i64 m, .string ⟨t.toArray⟩, .slice ao ys.length cap] (.mk k m t ys) ∧ Below g W F := by
  intro F hF
  have hlr : r < W.heap.size := hr0.lt
  have hr1 := hr0.keeps hk (fun h => by rcases h with h | h; exact hrq h; omega)
  have hk6 : Keeps (fun b => b = r) wr F := by rw [← hF]; exact keep4 (X := fun b => b = r) wr rfl _ _ _ _
  have hcl := hown.cap_le
  have hlt := hown.lt
  have hs6 := hk6.size
  refine ⟨by rw [← hF]; exact (hr1.put k m t ao ys.length cap).pat, VIn.row.2 ⟨ao, cap, rfl, hcl.1, ⟨hcl.2, hR⟩, ?_⟩, (hk.mono (fun b _ h => ?_)).trans' (hk6.mono (fun b _ h => ?_)) |>.below (X := fun b => g ≤ b) (fun i hi h => by omega) hW⟩
  · have h1 := ((hown.inl (elemV N) (by decide)).there (elemV N) (by decide)).keeps (elemV N) hk6 (fun b hb h => by
      rcases hb.1 with (h1 | h1) | h1
      · exact h1
      · omega
      · have := (hlt b h1).1; omega)
    exact h1.mono (elemV N) (fun b hb => by
      refine ⟨?_, by have := hb.2; omega⟩
      rcases hb.1 with (h1 | h1) | h1
      · exact h1.elim
      · omega
      · have := (hlt b h1).1; omega)
  · show g ≤ b
    rcases h with h | h <;> omega
  · show g ≤ b
    omega
theorem results_to (tmps : Array Value) (W : World) (g : Nat) (k m : Int) (t : List UInt8) (ao : Option Addr) (n cap : Nat) (hp : tmps[2]?.getD undef = .pointer (some ⟨g, 0, none⟩)) (hc : PatAt W g k m t ao n cap) :
    (results Try.f13 tmps).run Try.prog W = .ok (patV k m t ao n cap) W := by
  obtain ⟨c0, c1, c2, c3⟩ := hc
  have hu := Try.underlying50
  unfold patV
  simp only [results, Try.results13]
  go_simp
theorem seq_ldRs {o : Oper} {x : Operand} {a : Act} {w : World} (ho : o.op = .load 22 x) {ad : Addr} {v : Value} (hx : a.eval x = .pointer (some ad)) (hc : w.cell? ad = some v) :
    ∀ w', Below w.heap.size w w' → (execOp a.eval o).run Try.prog w' = .ok (.value v) w' := by
  intro w' hb
  have hc' : w'.cell? ad = some v := (World.cell?_of_block (hb.block ad.block (World.block_lt_of_cell? (a := ad) w hc))).trans hc
  have hu := Try.underlying22
  unfold execOp
  simp only [ho, hx]
  go_simp
theorem seq_ldRP {o : Oper} {x : Operand} {a : Act} {w : World} (ho : o.op = .load 37 x) {g f : Nat} {k m : Int} {t : List UInt8} {ao : Option Addr} {n cap : Nat} (hx : a.eval x = .pointer (some ⟨g, f, none⟩)) (hc : w.cell? ⟨g, f, none⟩ = some (.int .i64 k) ∧ w.cell? ⟨g, f + 1, none⟩ = some (.int .i64 m) ∧ w.cell? ⟨g, f + 2, none⟩ = some (.string ⟨t.toArray⟩) ∧ w.cell? ⟨g, f + 3, none⟩ = some (.slice ao n cap)) :
    ∀ w', Below w.heap.size w w' → (execOp a.eval o).run Try.prog w' = .ok (.value (patV k m t ao n cap)) w' := by
  intro w' hb
  obtain ⟨c0, c1, c2, c3⟩ := hc
  have hl : g < w.heap.size := World.block_lt_of_cell? (a := ⟨g, f, none⟩) w c0
  have d0 : w'.cell? ⟨g, f, none⟩ = _ := (World.cell?_of_block (a := ⟨g, f, none⟩) (hb.block g hl)).trans c0
  have d1 : w'.cell? ⟨g, f + 1, none⟩ = _ := (World.cell?_of_block (a := ⟨g, f + 1, none⟩) (hb.block g hl)).trans c1
  have d2 : w'.cell? ⟨g, f + 2, none⟩ = _ := (World.cell?_of_block (a := ⟨g, f + 2, none⟩) (hb.block g hl)).trans c2
  have d3 : w'.cell? ⟨g, f + 3, none⟩ = _ := (World.cell?_of_block (a := ⟨g, f + 3, none⟩) (hb.block g hl)).trans c3
  have hu := Try.underlying37
  unfold execOp patV
  simp only [ho, hx]
  go_simp
/-- What a call to 'to' leaves. -/
def ToOk (N : Nat) : Prop := ∀ (x : PV) (w : World) (D : Nat → Prop) (cs : List Value), VIn w D N cs x → (∀ b, D b → b < w.heap.size) → sizeV x ≤ 100000 →
  Calls Try.prog 13 #[.agg cs.toArray] w (fun e w' => ∃ cs', e = .returned (.agg cs'.toArray) ∧ VIn w' (fun b => w.heap.size ≤ b ∧ b < w'.heap.size) N cs' x ∧ Below w.heap.size w w')
set_option maxRecDepth 100000 in
set_option maxHeartbeats 8000000 in
theorem to_any : ∀ N : Nat, ToOk N
  | 0 => fun _ _ _ _ h => h.elim
  | N + 1 => by
    have ih := to_any N
    rintro ⟨k, m, t, ks⟩ w D cs h hD hsz
    obtain ⟨g, hg⟩ : ∃ g, w.heap.size = g := ⟨_, rfl⟩
    obtain ⟨ko, kcap, hv, hcs, hkc, hR, hks⟩ := h.val
    rw [hv]
    unfold patV
    obtain ⟨W, hW⟩ : ∃ W, ((w.alloc (.cells #[.int .i64 k, .int .i64 m, .string ⟨t.toArray⟩, .slice ko ks.length kcap] 37)).alloc (.cells #[.int .i64 0, .int .i64 0, .string ⟨#[]⟩, .slice none 0 0] 50)).alloc (.cells #[.int .i64 k, .int .i64 m, .string ⟨t.toArray⟩, .slice none 0 0] 50) = W := ⟨_, rfl⟩
    have h3 := three w (.cells #[.int .i64 k, .int .i64 m, .string ⟨t.toArray⟩, .slice ko ks.length kcap] 37) (.cells #[.int .i64 0, .int .i64 0, .string ⟨#[]⟩, .slice none 0 0] 50) (.cells #[.int .i64 k, .int .i64 m, .string ⟨t.toArray⟩, .slice none 0 0] 50)
    rw [hW, hg] at h3
    obtain ⟨hsW, hbW, hr0, hr1, hr2⟩ := h3
    have hkl : ks.length ≤ 100000 := by have := sizeV_kids (.mk k m t ks); have := kids_le ks; simp only [PV.kids] at *; omega
    have hkz : ∀ (i : Nat) (hi : i < ks.length), sizeV ks[i] ≤ 100000 := fun i hi => by have := sizeV_kids (.mk k m t ks); have := sizeVs_mem (List.getElem_mem hi); simp only [PV.kids] at *; omega
    have H := Lib.hid (And.intro hbW (And.intro hsW (And.intro (show Row4 W g _ k m t ko ks.length kcap from hr0) (And.intro (show Row4 W (g + 1) 50 0 0 [] none 0 0 from hr1) (And.intro (show OutI 50 50 N W (g + 1 + 1) k m t [] W from ⟨none, 0, hr2, OwnL.nil _ _ _, Keeps.refl _ _⟩) (And.intro (hks.below (by rw [hg]; exact hbW)) (And.intro (show ∀ b, D b → b < g by rw [← hg]; exact hD) (And.intro hR (And.intro hkz (And.intro hW hg))))))))))
    clear h hsW hbW hr0 hr1 hr2 hD hR hkz hW hg hsz hv hcs hks
    go_enter Try.func13, Try.ntmps13
    go_upto_block 0 with (fail)
    rw [H.out.2.2.2.2.2.2.2.2.2.1, H.out.2.2.2.2.2.2.2.2.2.2]
    go_wp2_with fail
    go_loopw [4] (fun v4 wr => ∃ i : Nat, i ≤ ks.length ∧ v4 = .int .i64 (i : Int) ∧ OutI 50 50 N W (g + 1 + 1) k m t (ks.take i) wr) (fun v4 _ => ks.length - (intOf v4).toNat)
    case atStart => exact ⟨0, by omega, rfl, H.out.2.2.2.2.1⟩
    case round =>
      obtain ⟨i, hi, rfl, ao, cap, hrow, hown, hk⟩ := hrel
      obtain ⟨ys, hys⟩ : ∃ ys, ks.take i = ys := ⟨_, rfl⟩
      rw [hys] at hrow hown
      have hyl : ys.length = i := by rw [← hys, List.length_take]; omega
      have hsr := hk.size
      have hsW := H.out.2.1
      have hlt := hown.lt
      have hcl := hown.cap_le
      have hrg := H.out.2.2.1.keeps hk (by omega)
      obtain ⟨a0, a1, a2, a3⟩ := hrg.pat
      obtain ⟨x0, x1, x2, x3⟩ := hrow.pat
      have HO := Lib.hid (And.intro hrow (And.intro hown (And.intro hk (And.intro hlt (And.intro hys (And.intro hcl hyl))))))
      have hxf := hrow.frozen
      have hyl5 : ys.length ≤ 1000000 := by omega
      clear hrow hown hk hrg hlt hcl hys hyl
      by_cases hil : i < ks.length
      · have hd1 : decide ((i : Int) < (ks.length : Int)) = true := decide_eq_true (by omega)
        have hilz : (i : Int) < (ks.length : Int) := by omega
        cases N with
        | zero =>
          obtain ⟨_, _, _, _, hv, _⟩ := H.out.2.2.2.2.2.1.get i hil
          exact hv.elim
        | succ n' =>
        have hXD : ∀ b, D b → ¬ (b = g + 1 + 1 ∨ W.heap.size ≤ b) := fun b hb h => by have := H.out.2.2.2.2.2.2.1 b hb; omega
        obtain ⟨b, o, k2, m2, t2, kao, kks, kcap2, rfl, hx, hv, c0, c1, c2, c3, hblt⟩ := (H.out.2.2.2.2.2.1.keeps HO.out.2.2.1 hXD).cells i hil
        have hDb : D b := by
          obtain ⟨b', o', _, he, _, _, hb, _⟩ := H.out.2.2.2.2.2.1.get i hil
          cases he
          exact hb
        have hto := ih _ wr.drew _ _ (hv.below (Below.refl _ _).drew) (fun b hb => by have := H.out.2.2.2.2.2.2.1 b hb; simp; omega) (by rw [← hx]; exact H.out.2.2.2.2.2.2.2.2.1 i hil)
        have hnq : ¬ (blk ao = some (g + 1 + 1) ∨ wr.heap.size ≤ g + 1 + 1) := fun h => by
          rcases h with h | h
          · have := (HO.out.2.2.2.1 _ h).1; omega
          · omega
        have hng : ¬ (blk ao = some g ∨ wr.heap.size ≤ g) := fun h => by
          rcases h with h | h
          · have := (HO.out.2.2.2.1 _ h).1; omega
          · omega
        have hnb : ¬ (blk ao = some b ∨ wr.heap.size ≤ b) := fun h => by
          rcases h with h | h
          · have h1 := (HO.out.2.2.2.1 _ h).1
            have := H.out.2.2.2.2.2.2.1 _ hDb
            omega
          · omega
        have HT := Lib.hid (And.intro hto (And.intro hnq (And.intro hng (And.intro hnb (And.intro hx (And.intro c0 (And.intro c1 (And.intro c2 c3))))))))
        clear hto hnq hng hnb hx hv hXD c0 c1 c2 c3
        obtain ⟨i0, hi0, hz0, hz1', hz2⟩ := info_parts infoPat
        go_wp2_with fail
        refine seqk_start (fun b => blk ao = some b ∨ wr.heap.size ≤ b) [11] (by kernel_rfl) ?_
        refine seqk_take 0 (v := ?_) rfl (by kernel_rfl) (fun _ _ _ h => h) (by rfl) (fun w' hw' => ?_) ?_
        rotate_left
        · go_simp; try with_reducible rfl
        try simp only [List.getElem_toArray, List.getElem_cons_succ, List.getElem_cons_zero, Act.put, List.setIfInBounds_toArray, List.set_cons_zero, List.set_cons_succ]
        refine seqk_take 1 rfl (by kernel_rfl) (fun _ _ _ h => h) (by rfl) (fun w' hw' => (seq_ldPs rfl rfl (keeps_cell hw' (by exact HT.out.2.1) (x3))) w' (Below.refl _ _)) ?_
        try simp only [List.getElem_toArray, List.getElem_cons_succ, List.getElem_cons_zero, Act.put, List.setIfInBounds_toArray, List.set_cons_zero, List.set_cons_succ]
        refine seqk_take 2 (v := ?_) rfl (by kernel_rfl) (fun _ _ _ h => h) (by rfl) (fun w' hw' => ?_) ?_
        rotate_left
        · go_simp; try with_reducible rfl
        try simp only [List.getElem_toArray, List.getElem_cons_succ, List.getElem_cons_zero, Act.put, List.setIfInBounds_toArray, List.set_cons_zero, List.set_cons_succ]
        refine seqk_take 3 rfl (by kernel_rfl) (fun _ _ _ h => h) (by rfl) (fun w' hw' => (seq_ldRs rfl rfl (keeps_cell hw' (by exact HT.out.2.2.1) (a3))) w' (Below.refl _ _)) ?_
        try simp only [List.getElem_toArray, List.getElem_cons_succ, List.getElem_cons_zero, Act.put, List.setIfInBounds_toArray, List.set_cons_zero, List.set_cons_succ]
        refine seqk_take 4 (v := ?_) rfl (by kernel_rfl) (fun _ _ _ h => h) (by rfl) (fun w' hw' => ?_) ?_
        rotate_left
        · go_simp; try with_reducible rfl
        try simp only [List.getElem_toArray, List.getElem_cons_succ, List.getElem_cons_zero, Act.put, List.setIfInBounds_toArray, List.set_cons_zero, List.set_cons_succ]
        refine seqk_take 5 (v := ?_) rfl (by kernel_rfl) (fun _ _ _ h => h) (by rfl) (fun w' hw' => ?_) ?_
        rotate_left
        · go_simp; try with_reducible rfl
        try simp only [List.getElem_toArray, List.getElem_cons_succ, List.getElem_cons_zero, Act.put, List.setIfInBounds_toArray, List.set_cons_zero, List.set_cons_succ]
        refine seqk_take 6 rfl (by kernel_rfl) (fun _ _ _ h => h) (by rfl) (fun w' hw' => (seq_ldRP rfl rfl ⟨keeps_cell hw' HT.out.2.2.2.1 HT.out.2.2.2.2.2.1, keeps_cell hw' HT.out.2.2.2.1 HT.out.2.2.2.2.2.2.1, keeps_cell hw' HT.out.2.2.2.1 HT.out.2.2.2.2.2.2.2.1, keeps_cell hw' HT.out.2.2.2.1 HT.out.2.2.2.2.2.2.2.2⟩) w' (Below.refl _ _)) ?_
        try simp only [List.getElem_toArray, List.getElem_cons_succ, List.getElem_cons_zero, Act.put, List.setIfInBounds_toArray, List.set_cons_zero, List.set_cons_succ]
        refine seqk_run 7 rfl (by kernel_rfl) (by rfl) (fun KK hKK => ?_)
        go_wp2_with fail
        refine HT.out.1.mono ?_
        rintro e w2 ⟨cs', rfl, hv2, hb2⟩
        obtain ⟨yo, ycap, hpe, hcs2, _⟩ := hv2.val
        subst hcs2
        rw [hpe]
        unfold patV
        simp only [World.size_drew] at hb2 hv2
        have hb2' : Below wr.heap.size wr w2 := (Below.refl _ wr).drew.trans hb2
        have hK2 : Keeps (fun b => blk ao = some b ∨ wr.heap.size ≤ b) wr.drew w2 := Keeps.of_below (by simpa using hb2)
        have HB2 := Lib.hid (And.intro hb2' (And.intro hv2 hK2))
        clear hb2 hb2' hv2 hK2 hpe x0 x1 x2 x3 a0 a1 a2 a3
        go_wp2_with fail
        refine ⟨HB2.out.2.2, ?_⟩
        obtain ⟨wa, hwa⟩ : ∃ wa, w2.alloc (.cells #[.int .i64 k2, .int .i64 m2, .string ⟨t2.toArray⟩, .slice yo kks.length ycap] 50) = wa := ⟨_, rfl⟩
        have hba : Below w2.heap.size w2 wa := by rw [← hwa]; exact (Below.refl _ _).alloc (Nat.le_refl _) _
        have hata : At wa (some ⟨w2.heap.size, 0, none⟩) [.int .i64 k2, .int .i64 m2, .string ⟨t2.toArray⟩, .slice yo kks.length ycap] := by rw [← hwa]; exact At.new w2 #[.int .i64 k2, .int .i64 m2, .string ⟨t2.toArray⟩, .slice yo kks.length ycap] _
        have hbra : Below wr.heap.size wr wa := HB2.out.1.trans (hba.mono HB2.out.1.size)
        have hsra := hbra.size
        have hs2a := hba.size
        have HA := Lib.hid (And.intro hba (And.intro hata (And.intro hbra hwa)))
        clear hba hata hbra hwa
        refine seqk_run 8 rfl (by kernel_rfl) (by rfl) (fun KK hKK => ?_)
        go_wp2_with fail
        refine ⟨Keeps.alloc _ _ _, ?_⟩
        rw [HA.out.2.2.2]
        refine seqk_run 9 rfl (by kernel_rfl) (by rfl) (fun KK hKK => ?_)
        refine wp_own (elemV (n' + 1)) (by decide) _ _ 26 rfl i0 _ 56 Try.underlying26 hi0 hz0 hz1' hz2 rfl (by decide) W.heap.size (DD (fun _ => False) W wa ao) ao cap ys.length ys rfl (by rfl) (own_dd (elemV _) (HO.out.2.1.below (elemV _) HA.out.2.2.1) HA.out.2.2.1.size) [.int .i64 k2, .int .i64 m2, .string ⟨t2.toArray⟩, .slice yo kks.length ycap] (.mk k2 m2 t2 kks) (HB2.out.2.1.part hsr (fun j hj => (HO.out.2.2.2.1 j hj).2) HA.out.1) w2.heap.size (by rfl) HA.out.2.1 (fun b hb => by rcases hb with h | h; exact h.elim; exact h.2.1) (by omega) (by omega) ?_
        intro ao5 cap5 w5 q1 q2 q3
        refine hKK _ _ ⟨q2.mono (fun b _ h => .inl h), ?_⟩
        have HS5 := Lib.hid (out_step HO.out.1 HO.out.2.2.1 (by omega) HO.out.2.2.2.1 HA.out.2.2.1 q1 q2)
        rw [List.length_append, List.length_singleton] at HS5
        obtain ⟨r1, r2, -⟩ := HS5.out
        clear q1 q2 q3
        refine seqk_take 10 (v := ?_) rfl (by kernel_rfl) (fun _ _ _ h => h) (by rfl) (fun w' hw' => ?_) ?_
        rotate_left
        · go_simp; try with_reducible rfl
        try simp only [List.getElem_toArray, List.getElem_cons_succ, List.getElem_cons_zero, Act.put, List.setIfInBounds_toArray, List.set_cons_zero, List.set_cons_succ]
        refine seqk_last 11 rfl (by kernel_rfl) (by kernel_rfl) (by rfl) (fun KK hKK => ?_)
        go_wp2_with fail
        refine seql_done (by kernel_rfl) ?_
        go_wp2_with fail
        go_roundw
        case rel => exact ⟨i + 1, by omega, by simp, by rw [List.take_succ_eq_append_getElem hil, HO.out.2.2.2.2.1, HT.out.2.2.2.2.1]; exact HS5.out.2.2⟩
        case measure => simp [intOf]; omega
      · obtain rfl : i = ks.length := by omega
        have hd1 : decide ((ks.length : Int) < (ks.length : Int)) = false := decide_eq_false (by omega)
        have h1r := H.out.2.2.2.1.keeps HO.out.2.2.1 (by omega)
        obtain ⟨e0, e1, e2, e3⟩ := h1r.pat
        have hf1 := h1r.frozen
        have HF := Lib.hid (out_done HO.out.1 HO.out.2.1 HO.out.2.2.1 H.out.2.2.2.1 (by omega) (show g ≤ g + 1 + 1 by omega) (by omega) (by omega) H.out.2.2.2.2.2.2.2.1.2 _ rfl)
        clear h1r
        go_wp2_with fail
        refine bodyPost_ret (v := patV k m t ao ys.length cap) (results_to _ _ (g + 1) k m t ao ys.length cap (by rfl) HF.out.1) rfl ⟨_, rfl, ?_, ?_⟩
        · rw [H.out.2.2.2.2.2.2.2.2.2.2]
          have h2 := HF.out.2.1
          have h3 : ks = ys := by rw [← HO.out.2.2.2.2.1, List.take_of_length_le (Nat.le_refl _)]
          rw [show PV.mk k m t ks = PV.mk k m t ys by rw [h3]]
          exact h2
        · rw [H.out.2.2.2.2.2.2.2.2.2.2]
          exact H.out.1.trans HF.out.2.2
end Go.Proofs.Ytnhdefaagicejaa
