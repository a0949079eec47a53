/- The walk of a log's Append, joined. -/
import Derived.Test.YtpeehagaiofobaaDoorWal9
namespace Go.Proofs.YtpeehagaiofobaaDoor
open Go.RowKit Go.Shelf
attribute [local go_sem] Oper.semAt_some

/-- No panic. -/
def NP (Q : Exit → Act → World → Prop) : Exit → Act → World → Prop
  | .panic _, _, _ => False
  | .normal, a, w => Q .normal a w
  | .ret, a, w => Q .ret a w
  | .exit id, a, w => Q (.exit id) a w
  | .goto t, a, w => Q (.goto t) a w
  | .outgrown, _, _ => False
theorem np_le {Q : Exit → Act → World → Prop} : ∀ e a w, NP Q e a w → Q e a w
  | .panic _, _, _, h => h.elim
  | .normal, _, _, h => h
  | .ret, _, _, h => h
  | .exit _, _, _, h => h
  | .goto _, _, _, h => h
  | .outgrown, _, _, h => h.elim
def appendL (l : LS) (e : Nat) (b : List UInt8) : LS := if e = 0 then { l with next := l.next + 1, at_ := l.at_ + needN b.length } else l
theorem at_chunk {w : World} {bo : Option Addr} {b : List UInt8} (h : At w bo (bytesV b)) (k : Nat) : At w (bo.map (·.add (511 * k))) (bytesV (chunk b k)) := by
  rcases h with h | ⟨g, o, rfl, hc⟩
  · have : b = [] := by simpa [bytesV] using h
    subst this
    exact .inl (by simp [chunk])
  · have := At.sub (w := w) (b := g) (o := o) (xs := bytesV b) (.inr ⟨g, o, rfl, hc⟩) (511 * k) 511
    rw [bytesV, ← List.map_drop, ← List.map_take] at this
    simpa [Addr.add_lit, chunk, bytesV] using this
theorem kpC_t {b1 b2 : Nat} {A B C : World} (h : KpC b1 b2 A B) (k : KpC b1 b2 B C) : KpC b1 b2 A C := ⟨k.1.trans h.1, k.2.trans h.2⟩
theorem kpC_b {b1 b2 : Nat} {w : World} (h1 : b1 < w.heap.size) (h2 : b2 < w.heap.size) (X : World) (r : Nat) (o o' : Obj) (hr : w.heap.size ≤ r) (_ : X.heap[r]? = some o) (_ : o.isCells = false) (_ : o.isWalk = false) : KpC b1 b2 X (X.putObj r o') :=
  ⟨World.putObj_heap_other (by omega), World.putObj_heap_other (by omega)⟩
theorem chunkV_eq (so : Option Addr) (b : List UInt8) (k : Nat) : chunkV so b.length k = .slice (so.map (·.add (511 * k))) (chunk b k).length (chunk b k).length := by
  unfold chunkV
  rw [chunk_length]

theorem LogAt.put {w : World} {g d D : Nat} {l : LS} {o : Obj} (h : LogAt w g d l) (hD : g ≠ D) : LogAt (w.putObj D o) g d l := (World.putObj_heap_other hD).trans h
/-- Behind Append's loop: the two boxes and the loop's own block stand by. -/
def Mid9 (B : Nat) (w : World) (M I : Nat → Prop) (d g D : Nat) (l : LS) (bo : Option Addr) (b : List UInt8) (e : Nat) (s' : DS) (Z : World) : Prop :=
  ∃ M' I', DiskAt B Z M' I' d s' ∧ LogAt Z g d l ∧ ¬ M' g ∧ ¬ I' g ∧ Keeps M w Z ∧ (∀ k, M' k → M k ∨ w.heap.size ≤ k) ∧ (∀ k, I' k → I k ∨ w.heap.size ≤ k) ∧ (∀ j, j = w.heap.size ∨ j = w.heap.size + 1 ∨ j = D → ¬ M' j ∧ ¬ I' j) ∧
    Z.heap[w.heap.size]? = some (.cells #[.pointer (some ⟨g, 0, none⟩)] 30 (0, 0)) ∧ Z.heap[w.heap.size + 1]? = some (.cells #[.int .i64 (e : Int)] 25 (0, 0)) ∧ Z.heap[D]? = some (.deferred (some [])) ∧ At Z bo (bytesV b) ∧ Tab Z
theorem Mid9.below {e B : Nat} {w : World} {M I : Nat → Prop} {d g D : Nat} {l : LS} {bo : Option Addr} {b : List UInt8} {s' : DS} {Z Z2 : World} (h : Mid9 B w M I d g D l bo b e s' Z) (hb : Below Z.heap.size Z Z2) : Mid9 B w M I d g D l bo b e s' Z2 := by
  obtain ⟨M', I', h1, h2, h3, h4, h5, h6, h7, h8, h9, h10, h11, h12, h13⟩ := h
  exact ⟨M', I', h1.below hb, h2.below hb, h3, h4, h5.trans' (Keeps.of_below hb), h6, h7, h8, (hb.block _ (Array.getElem?_eq_some_iff.1 h9).1).trans h9, (hb.block _ (Array.getElem?_eq_some_iff.1 h10).1).trans h10, (hb.block _ (Array.getElem?_eq_some_iff.1 h11).1).trans h11, h12.below hb, h13.below hb⟩
theorem mid9_upd {B : Nat} {w : World} {M I M' I' : Nat → Prop} {d g D : Nat} {l : LS} {bo : Option Addr} {b : List UInt8} {s2 : DS} {Z Z2 : World} (hB0 : 0 < B) (hbo : ∀ i, blk bo = some i → bytesV b ≠ [] → ¬ M i) (hat : At w bo (bytesV b)) (hMB : ∀ k, M k → B ≤ k)
    (h2 : LogAt Z g d l) (h3 : ¬ M' g) (h4 : ¬ I' g) (h5 : Keeps M w Z) (h6 : ∀ k, M' k → M k ∨ w.heap.size ≤ k) (h7 : ∀ k, I' k → I k ∨ w.heap.size ≤ k) (h8 : ∀ j, j = w.heap.size ∨ j = w.heap.size + 1 ∨ j = D → ¬ M' j ∧ ¬ I' j)
    (h9 : Z.heap[w.heap.size]? = some (.cells #[.pointer (some ⟨g, 0, none⟩)] 30 (0, 0))) (h10 : Z.heap[w.heap.size + 1]? = some (.cells #[.int .i64 0] 25 (0, 0))) (h11 : Z.heap[D]? = some (.deferred (some []))) (h13 : Tab Z)
    (u : Upd B Z M' I' d s2 Z2) : Mid9 B w M I d g D l bo b 0 s2 Z2 := by
  obtain ⟨M2, I2, d2, K2, m2, i2⟩ := u
  have hs := h5.size
  have hs2 := K2.size
  have l9 := (Array.getElem?_eq_some_iff.1 h9).1
  have l10 := (Array.getElem?_eq_some_iff.1 h10).1
  have l11 := (Array.getElem?_eq_some_iff.1 h11).1
  have lg := h2.lt
  have K02 : Keeps M w Z2 := h5.trans K2 fun i hi h => (h6 i h).resolve_right (by omega)
  refine ⟨M2, I2, d2, h2.keeps K2 h3, fun h => (m2 g h).elim h3 (by omega), fun h => (i2 g h).elim h4 (by omega), K02, fun k hk => ?_, fun k hk => ?_, fun j hj => ⟨fun h => ?_, fun h => ?_⟩, (K2.block _ l9 (h8 _ (.inl rfl)).1).trans h9, (K2.block _ l10 (h8 _ (.inr (.inl rfl))).1).trans h10, (K2.block _ l11 (h8 _ (.inr (.inr rfl))).1).trans h11, hat.keeps K02 (fun i hi hne => hbo i hi hne), h13.keepsW (B := B) K2 fun h => ?_⟩
  · rcases m2 k hk with h | h
    · exact h6 k h
    · exact .inr (by omega)
  · rcases i2 k hk with h | h
    · exact h7 k h
    · exact .inr (by omega)
  · rcases m2 j h with h | h
    · exact (h8 j hj).1 h
    · rcases hj with rfl | rfl | rfl <;> omega
  · rcases i2 j h with h | h
    · exact (h8 j hj).2 h
    · rcases hj with rfl | rfl | rfl <;> omega
  · have h0 : 0 < w.heap.size ∨ w.heap.size = 0 := by omega
    rcases h6 0 h with h | h
    · have := hMB 0 h; omega
    · have h9' := h9
      rw [show w.heap.size = 0 by omega] at h9'
      have hc := h13 0 (by decide)
      have := cell_of_row Z 0 0 _ _ (0, 0) h9'
      rw [this] at hc
      cases hc
theorem mid9_end {e B : Nat} {w : World} {M I : Nat → Prop} {d g D : Nat} {l l' : LS} {bo : Option Addr} {b : List UInt8} {s' : DS} {Z Y : World} (h : Mid9 B w M I d g D l bo b e s' Z) (hD : w.heap.size ≤ D) (K : Keeps (fun i => i = w.heap.size + 1 ∨ i = D ∨ i = g) Z Y) (hl : LogAt Z g d l → LogAt Y g d l') : SysUpd B w M I d g s' l' Y := by
  obtain ⟨M', I', h1, h2, h3, h4, h5, h6, h7, h8, h9, h10, h11, h12, h13⟩ := h
  refine ⟨M', I', h1.keeps K (fun k hk e => ?_) (fun k hk e => ?_), hl h2, h3, h4, (h5.mono fun i _ h => .inl h).trans K (fun i hi e => ?_), h6, h7⟩
  · rcases e with rfl | rfl | rfl
    · exact (h8 _ (.inr (.inl rfl))).1 hk
    · exact (h8 _ (.inr (.inr rfl))).1 hk
    · exact h3 hk
  · rcases e with rfl | rfl | rfl
    · exact (h8 _ (.inr (.inl rfl))).2 hk
    · exact (h8 _ (.inr (.inr rfl))).2 hk
    · exact h4 hk
  · rcases e with h | h | h
    · omega
    · omega
    · exact .inr h
theorem append_end {e B : Nat} {w : World} {M I : Nat → Prop} {d g D : Nat} {l : LS} {bo : Option Addr} {b : List UInt8} {s' : DS} {Z Y : World} (h : Mid9 B w M I d g D l bo b e s' Z) (hD : w.heap.size + 1 < D) (hgw : g < w.heap.size) (v : Nat) (AP : Nat × DS) (hAP : AP = (v, s')) (K : Keeps (fun i => i = w.heap.size + 1 ∨ i = g) Z Y) (hrow : Y.heap[w.heap.size + 1]? = some (.cells #[.int .i64 (v : Int)] 25 (0, 0)))
    (hl : LogAt Z g d l → LogAt Y g d (appendL l v b)) (tmps : Array Value) (hp : tmps[4]?.getD undef = .pointer (some ⟨w.heap.size + 1, 0, none⟩)) :
    NP (bodyPostM Fence.wide 6 Tryd.prog Tryd.f11 (fun x w' => x = .returned (.int .i64 (AP.1 : Int)) ∧ SysUpd B w M I d g AP.2 (appendL l AP.1 b) w')) .ret { tmps := tmps, defers := [{ target := .collected D, args := #[] }] } Y := by
  subst hAP
  have hmid := h
  obtain ⟨M', I', h1, h2, h3, h4, h5, h6, h7, h8, h9, h10, h11, h12, h13⟩ := h
  have hKY : Y.heap[D]? = some (.deferred (some [])) := (K.block D (Array.getElem?_eq_some_iff.1 h11).1 (by omega)).trans h11
  have hrowY : (Y.putObj D (.deferred none)).heap[w.heap.size + 1]? = some (.cells #[.int .i64 (v : Int)] 25 (0, 0)) := (World.putObj_heap_other (by omega)).trans hrow
  refine ⟨by simp, .inl ⟨D, _, rfl, run_takeDeferred hKY, ?_⟩⟩
  refine ⟨_, results_errno _ _ ⟨w.heap.size + 1, 0, none⟩ _ hp (cell_of_row _ (w.heap.size + 1) 0 _ _ (0, 0) hrowY), rfl, ?_⟩
  refine mid9_end hmid (by omega) ((K.mono fun i _ h => ?_).trans' (Keeps.of_grown (grownBy_putObj' Y D _) (.inr (.inl rfl)))) fun h => (hl h).put (by omega)
  rcases h with h | h
  · exact .inl h
  · exact .inr (.inr h)
theorem barrier_steps (s : DS) : s.barrier.2.steps ≤ s.steps + 1 ∧ s.barrier.2.W.length ≤ s.W.length := by
  unfold DS.barrier
  split
  · exact ⟨by simp only; omega, Nat.le_refl _⟩
  · split
    · rename_i h; simp only [DS.spend, if_pos h]; exact ⟨by omega, Nat.le_refl _⟩
    · rename_i h; simp only [DS.spend, if_neg h, DS.settled, List.length_nil]; exact ⟨Nat.le_refl _, Nat.zero_le _⟩
theorem firstZ_any (a n : Nat) (za zn : Int) (hza : za = a) (hzn : zn = n) (ha : a ≤ 4611686018427387904) (hn : n ≤ 4611686018427387904) (bo : Option Addr) (k cap : Nat) (b : List UInt8) (hk : k = b.length) (hb : b.length ≤ 1000000) (w : World) (hat : At w bo (bytesV b)) (ht : Tab w) :
    Calls Tryd.prog 27 #[.int .i64 za, .int .i64 zn, .slice bo k cap] w (NewBytes w (firstL a n b)) := by
  subst hza
  subst hzn
  exact first_any a n ha hn bo k cap b hk hb w hat ht
theorem loop_mid {B : Nat} {w wL X : World} {M I : Nat → Prop} {d g D n5 e : Nat} {f at_ : Nat} {s : DS} {l : LS} {bo : Option Addr} {b : List UInt8} {pre : List Nat} (hB0 : 0 < B) (hbL : Below w.heap.size w wL) (hsz : w.heap.size + 3 ≤ wL.heap.size) (hn5 : n5 = w.heap.size + 2) (hMlt : ∀ k, M k → B ≤ k ∧ k < w.heap.size) (hIlt : ∀ k, I k → B ≤ k ∧ k < w.heap.size) (hl : LogAt w g d l) (hM : ¬ M g) (hI : ¬ I g)
    (hr2 : wL.heap[w.heap.size]? = some (.cells #[.pointer (some ⟨g, 0, none⟩)] 30 (0, 0))) (ht : Tab w) (hat : At w bo (bytesV b)) (hbo : ∀ i, blk bo = some i → bytesV b ≠ [] → ¬ M i) (hD : wL.heap.size ≤ D) (hK : X.heap[D]? = some (.deferred (some [])))
    (hp : LoopP B wL M I d (w.heap.size + 1) n5 f at_ s b e pre X) : Mid9 B w M I d g D l bo b e (s.writes (wof f at_ b pre)).2 X := by
  obtain ⟨M', I', mb, h1, h2, h3, h4, h5, h6, h7, h8, h9⟩ := hp
  have hg := hl.lt
  have hnr : ¬ isRow X D := by
    rintro ⟨c, t', fr, hr⟩
    rw [hK] at hr; cases hr
  have K : Keeps M w X := (Keeps.of_below (X := M) hbL).trans h5 fun i hi h => by
    rcases h with h | h | h | h
    · exact h
    · omega
    · omega
    · omega
  have hM' : ∀ j, w.heap.size ≤ j → j < wL.heap.size → ¬ M' j ∧ ¬ I' j := fun j h1' h2' => ⟨fun h => by
    rcases h3 j h with h | h
    · have := (hMlt j h).2; omega
    · omega, fun h => by
    rcases (h4 j h).1 with h | h
    · have := (hIlt j h).2; omega
    · omega⟩
  refine ⟨M', I', h1, hl.keeps K hM, fun h => ?_, fun h => ?_, K, fun k hk => (h3 k hk).imp id fun h => by omega, fun k hk => (h4 k hk).1.imp id fun h => by omega, fun j hj => ?_, ?_, h9, hK, hat.keeps K (fun i hi hne => hbo i hi hne), ht.keepsW (B := B) K fun h => by have := (hMlt 0 h).1; omega⟩
  · rcases h3 g h with h | h
    · exact hM h
    · omega
  · rcases (h4 g h).1 with h | h
    · exact hI h
    · omega
  · rcases hj with rfl | rfl | rfl
    · exact hM' _ (Nat.le_refl _) (by omega)
    · exact hM' _ (by omega) (by omega)
    · refine ⟨fun h => ?_, fun h => hnr (h4 _ h).2⟩
      rcases h1.kinds h6 _ h with h | h
      · exact hnr h
      · omega
  · rw [h5.block _ (by omega) (by rintro (h | h | h | h); have := (hMlt _ h).2; omega; omega; omega; omega)]
    exact hr2

set_option maxRecDepth 100000 in
set_option maxHeartbeats 4000000 in
theorem append_any {B : Nat} {M I : Nat → Prop} {d g : Nat} {s : DS} {l : LS} (w : World) (h : DiskAt B w M I d s) (hl : LogAt w g d l) (hM : ¬ M g) (hI : ¬ I g) (hst : s.steps ≤ 900000000) (hWl : s.W.length ≤ 900000000) (hf : l.f ≤ 1000000) (hcnt : l.cnt ≤ 1000000) (hnext : l.next ≤ 1000000) (hage : l.age ≤ 900000000)
    (bo : Option Addr) (cap : Nat) (b : List UInt8) (hbc : b.length ≤ cap) (hb : b.length ≤ 1000000) (hat : At w bo (bytesV b)) (hbo : ∀ i, blk bo = some i → bytesV b ≠ [] → ¬ M i ∧ i ≠ g) (hn : needN b.length ≤ l.cnt - l.at_) (ht : Tab w) (hB0 : 0 < B) (hB : B ≤ w.heap.size) :
    Calls Tryd.prog 11 #[.pointer (some ⟨g, 0, none⟩), .slice bo b.length cap] w (fun e w' => e = .returned (.int .i64 ((appendP l.f s l.at_ l.age l.next b).1 : Int)) ∧ SysUpd B w M I d g (appendP l.f s l.at_ l.age l.next b).2 (appendL l (appendP l.f s l.at_ l.age l.next b).1 b) w') := by
  have hnp := needN_pos b.length
  have HNP := Lib.hid (show needN b.length = 1 + nparts b.length from rfl)
  have H := Lib.hid (And.intro h (And.intro hl (And.intro hM (And.intro hI ht))))
  have HA := Lib.hid (And.intro hat hbo)
  have hwr1 : IntKind.i64.wrap ((l.cnt : Int) - (l.at_ : Int)) = (l.cnt : Int) - l.at_ := by rw [IntKind.wrap_i64]; omega
  have hnd : decide ((l.cnt : Int) - (l.at_ : Int) < (needN b.length : Int)) = false := decide_eq_false (by omega)
  have hbig : decide (16777216 < (b.length : Int)) = false := decide_eq_false (by omega)
  clear h hl hM hI ht hat hbo
  refine callsIn_wide.1 (callsIn_of_wp_marks (n := 6) Tryd.func11 rfl trivial (wpIn_mono (wpIn_wide.2 ?_) np_le) rfl)
  simp only [Tryd.ntmps11, List.size_toArray, List.length_cons, List.length_nil, Nat.reduceAdd, Nat.reduceSub, Array.replicate_succ, Array.replicate_zero, List.push_toArray, List.append_toArray, List.nil_append, List.cons_append]
  go_wp2_with fail
  have hbx := boxes_new w g
  generalize hW : (w.alloc (.cells #[.pointer (some ⟨g, 0, none⟩)] 30)).alloc (.cells #[.int .i64 0] 25) = W at *
  have HB := Lib.hid hbx
  have HL := Lib.hid (H.out.2.1.below hbx.1).cells
  have HG := Lib.hid (show W.drew.cell? ⟨w.heap.size, 0, none⟩ = some (.pointer (some ⟨g, 0, none⟩)) from cell_of_row W w.heap.size 0 _ _ (0, 0) hbx.2.2.1)
  clear hbx hW hbig
  refine seq_start (by kernel_rfl) ?_
  refine seq_take 0 (v := ?_) rfl (by kernel_rfl) (fun _ _ _ h => h) (by rfl) (fun w' hw' => ?_) ?_
  rotate_left
  · go_simp; try with_reducible rfl
  try simp only [List.getElem_toArray, List.getElem_cons_succ, List.getElem_cons_zero, Act.put, List.setIfInBounds_toArray, List.set_cons_zero, List.set_cons_succ]
  refine seq_take 1 (v := ?_) rfl (by kernel_rfl) (fun _ _ _ h => h) (by rfl) (fun w' hw' => ?_) ?_
  rotate_left
  · go_simp; try with_reducible rfl
  try simp only [List.getElem_toArray, List.getElem_cons_succ, List.getElem_cons_zero, Act.put, List.setIfInBounds_toArray, List.set_cons_zero, List.set_cons_succ]
  refine seq_take 3 rfl (by kernel_rfl) (fun _ _ _ h => h) (by rfl) (seq_ldl rfl rfl (HG.out)) ?_
  try simp only [List.getElem_toArray, List.getElem_cons_succ, List.getElem_cons_zero, Act.put, List.setIfInBounds_toArray, List.set_cons_zero, List.set_cons_succ]
  refine seq_take 4 (v := ?_) rfl (by kernel_rfl) (fun _ _ _ h => h) (by rfl) (fun w' hw' => ?_) ?_
  rotate_left
  · go_simp; try with_reducible rfl
  try simp only [List.getElem_toArray, List.getElem_cons_succ, List.getElem_cons_zero, Act.put, List.setIfInBounds_toArray, List.set_cons_zero, List.set_cons_succ]
  refine seq_take 5 (v := ?_) rfl (by kernel_rfl) (fun _ _ _ h => h) (by rfl) (fun w' hw' => ?_) ?_
  rotate_left
  · go_simp; try with_reducible rfl
  try simp only [List.getElem_toArray, List.getElem_cons_succ, List.getElem_cons_zero, Act.put, List.setIfInBounds_toArray, List.set_cons_zero, List.set_cons_succ]
  refine seq_take 6 (v := ?_) rfl (by kernel_rfl) (fun _ _ _ h => h) (by rfl) (fun w' hw' => ?_) ?_
  rotate_left
  · go_simp; try with_reducible rfl
  try simp only [List.getElem_toArray, List.getElem_cons_succ, List.getElem_cons_zero, Act.put, List.setIfInBounds_toArray, List.set_cons_zero, List.set_cons_succ]
  refine seq_take 7 rfl (by kernel_rfl) (fun _ _ _ h => h) (by rfl) (seq_ldi rfl rfl ((show W.drew.cell? ⟨g, 2, none⟩ = _ from HL.out.2.2.1))) ?_
  try simp only [List.getElem_toArray, List.getElem_cons_succ, List.getElem_cons_zero, Act.put, List.setIfInBounds_toArray, List.set_cons_zero, List.set_cons_succ]
  refine seq_take 8 rfl (by kernel_rfl) (fun _ _ _ h => h) (by rfl) (seq_ldl rfl rfl (HG.out)) ?_
  try simp only [List.getElem_toArray, List.getElem_cons_succ, List.getElem_cons_zero, Act.put, List.setIfInBounds_toArray, List.set_cons_zero, List.set_cons_succ]
  refine seq_take 9 (v := ?_) rfl (by kernel_rfl) (fun _ _ _ h => h) (by rfl) (fun w' hw' => ?_) ?_
  rotate_left
  · go_simp; try with_reducible rfl
  try simp only [List.getElem_toArray, List.getElem_cons_succ, List.getElem_cons_zero, Act.put, List.setIfInBounds_toArray, List.set_cons_zero, List.set_cons_succ]
  refine seq_take 10 (v := ?_) rfl (by kernel_rfl) (fun _ _ _ h => h) (by rfl) (fun w' hw' => ?_) ?_
  rotate_left
  · go_simp; try with_reducible rfl
  try simp only [List.getElem_toArray, List.getElem_cons_succ, List.getElem_cons_zero, Act.put, List.setIfInBounds_toArray, List.set_cons_zero, List.set_cons_succ]
  refine seq_take 11 rfl (by kernel_rfl) (fun _ _ _ h => h) (by rfl) (seq_ldi rfl rfl ((show W.drew.cell? ⟨g, 5, none⟩ = _ from HL.out.2.2.2.2.2))) ?_
  try simp only [List.getElem_toArray, List.getElem_cons_succ, List.getElem_cons_zero, Act.put, List.setIfInBounds_toArray, List.set_cons_zero, List.set_cons_succ]
  refine seq_take 12 (v := ?_) rfl (by kernel_rfl) (fun _ _ _ h => h) (by rfl) (fun w' hw' => ?_) ?_
  rotate_left
  · go_simp; try with_reducible rfl
  try simp only [List.getElem_toArray, List.getElem_cons_succ, List.getElem_cons_zero, Act.put, List.setIfInBounds_toArray, List.set_cons_zero, List.set_cons_succ]
  refine seq_run 2 rfl (by kernel_rfl) (by rfl) (fun KK hKK => ?_)
  go_wp2_with fail
  refine (need_any b.length (by omega) W.drew).mono ?_
  rintro e w1 ⟨rfl, rfl⟩
  go_wp2_with fail
  refine ⟨Below.refl _ _, ?_⟩
  refine seq_take 13 (v := ?_) rfl (by kernel_rfl) (fun _ _ _ h => h) (by rfl) (fun w' hw' => ?_) ?_
  rotate_left
  · go_simp; try with_reducible rfl
  try simp only [List.getElem_toArray, List.getElem_cons_succ, List.getElem_cons_zero, Act.put, List.setIfInBounds_toArray, List.set_cons_zero, List.set_cons_succ]
  refine seq_take 14 (v := ?_) rfl (by kernel_rfl) (fun _ _ _ h => h) (by rfl) (fun w' hw' => ?_) ?_
  rotate_left
  · go_simp; try with_reducible rfl
  try simp only [List.getElem_toArray, List.getElem_cons_succ, List.getElem_cons_zero, Act.put, List.setIfInBounds_toArray, List.set_cons_zero, List.set_cons_succ]
  refine seq_done (by kernel_rfl) ?_
  go_wp2_with fail
  clear hwr1 hnd
  obtain ⟨W2, hW2⟩ : ∃ W2, (W.alloc (.cells #[.int .i64 0] 3)).drew = W2 := ⟨_, rfl⟩
  have hb2 : Below W.heap.size W W2 := by rw [← hW2]; exact ((Below.refl _ W).alloc (Nat.le_refl _) _).drew
  have hrow5 : W2.heap[W.heap.size]? = some (.cells #[.int .i64 0] 3 (0, 0)) := by rw [← hW2]; exact heap_alloc_new W _
  have hsz2 : W2.heap.size = W.heap.size + 1 := by rw [← hW2]; simp
  rw [hW2]
  have H2 := Lib.hid (And.intro hb2 hrow5)
  have HZ2 := Lib.hid hsz2
  clear hW2 hb2 hrow5 hsz2
  refine (chunk_any bo b.length cap W2).mono ?_
  rintro e wL ⟨rfl, hb3, hsz3, hc1, hc2⟩
  have H3 := Lib.hid (And.intro hb3 (And.intro hsz3 (And.intro hc1 hc2)))
  clear hb3 hsz3 hc1 hc2
  go_wp2_with fail
  have hbL : Below w.heap.size w wL := HB.out.1.trans ((H2.out.1.mono (by have := HB.out.2.1; omega)).trans (H3.out.1.mono (by have := HB.out.2.1; have := HZ2.out; omega)))
  have hbWL : Below W.heap.size W wL := H2.out.1.trans (H3.out.1.mono (by have := HZ2.out; omega))
  have hsW := HB.out.2.1
  have hs2 := HZ2.out
  have hsL := H3.out.2.1
  have hdL := (H.out.1.below hbL).restrict
  obtain ⟨mb, hmb, hMmb⟩ := H.out.1.mapOf
  have hmbL : wL.cell? ⟨d, 1, none⟩ = some (.map (some mb)) := (World.cell?_of_block (hbL.block d (World.block_lt_of_cell? (a := ⟨d, 1, none⟩) w hmb))).trans hmb
  have hdlt : d < w.heap.size := World.block_lt_of_cell? (a := ⟨d, 1, none⟩) w hmb
  have hr2 : wL.heap[w.heap.size]? = some (.cells #[.pointer (some ⟨g, 0, none⟩)] 30 (0, 0)) := (hbWL.block _ (by omega)).trans HB.out.2.2.1
  have hr4 : wL.heap[w.heap.size + 1]? = some (.cells #[.int .i64 0] 25 (0, 0)) := (hbWL.block _ (by omega)).trans HB.out.2.2.2
  have hr5 : wL.heap[W.heap.size]? = some (.cells #[.int .i64 0] 3 (0, 0)) := (H3.out.1.block _ (by omega)).trans H2.out.2
  have hlogL : LogAt wL g d l := H.out.2.1.below hbL
  have HML := Lib.hid H.out.1.lt
  have HIL := Lib.hid H.out.1.ltI
  have hstart : LoopP B wL M I d (w.heap.size + 1) W.heap.size l.f l.at_ s b 0 [] wL := by
    refine ⟨M, fun k => I k ∧ isRow wL k, mb, ?_, rfl, fun k hk => .inl hk, fun k hk => ⟨.inl hk.1, hk.2⟩, Keeps.refl _ _, hmbL, by have := (HML.out mb hMmb).2; omega, by simpa using hr5, by simpa using hr4⟩
    simpa [wof, DS.writes] using hdL
  have HX := Lib.hid (And.intro hbL (And.intro hr2 (And.intro hlogL (And.intro (HA.out.1.below hbL) hstart))))
  have HC := Lib.hid (And.intro H3.out.2.2.1 H3.out.2.2.2)
  clear hbL hbWL hdL hmbL hr2 hr4 hr5 hlogL hstart
  have HS := Lib.hid (And.intro hsW (And.intro hs2 hsL))
  clear hsW hs2 hsL
  refine (wpIn_wide (n := 6)).1 (wpIn_rangeFunc_ownG (F := Fence.wide) rfl (by omega) (gf := 52) (lb := #[.pointer (some ⟨W2.heap.size, 0, none⟩), .pointer (some ⟨W2.heap.size + 1, 0, none⟩)]) rfl trivial (enters_of Tryd.func52 (by kernel_rfl) rfl)
    (chunk_stops 5 (by omega) W2.heap.size (W2.heap.size + 1) bo b.length cap hbc (by omega) wL HC.out.1 HC.out.2) kpC_t (kpC_b (by have hz := HS.out; omega) (by have hz := HS.out; omega)) (Below.refl _ _) (fun _ => rfl)
    (fun pre X => LoopP B wL M I d (w.heap.size + 1) W.heap.size l.f l.at_ s b 0 pre X) (fun c pre X => c = .ret ∧ ∃ e, e ≠ 0 ∧ LoopP B wL M I d (w.heap.size + 1) W.heap.size l.f l.at_ s b e pre X)
    (loopP_own 0 (by have hz := HS.out; omega) (by have hz := HS.out; omega) (by have hz := HS.out; omega)) ?own HX.out.2.2.2.2 ?a1 ?assign ?body ?done ?stop)
  case own =>
    rintro c pre X X' row ⟨hc, e, he, hp⟩ hg hr
    exact ⟨hc, e, he, loopP_own e (by have hz := HS.out; omega) (by have hz := HS.out; omega) (by have hz := HS.out; omega) pre X X' row hp hg hr⟩
  case assign =>
    intro r x X K hK
    gi_wp2
    exact hK
  case body =>
    rintro r pre x X ⟨M', I', mb', h1, h2, h3, h4, h5, h6, h7, h8, h9⟩ hlen
    obtain ⟨hsW, hs2, hsL⟩ := HS.out
    have hpl : pre.length ≤ 1000000 := by have : nparts b.length ≤ 1000000 := by unfold nparts; omega
                                          omega
    have hkeep : ∀ i, i < wL.heap.size → ¬ M i → i ≠ W.heap.size → i ≠ w.heap.size + 1 → X.heap[i]? = wL.heap[i]? := fun i hi hm h5' h4' => h5.block i hi (by rintro (h | h | h | h); exact hm h; exact h5' h; exact h4' h; omega)
    have hnM : ∀ i, w.heap.size ≤ i → ¬ M i := fun i hi hm => by have := (HML.out i hm).2; omega
    have c2 : X.cell? ⟨w.heap.size, 0, none⟩ = some (.pointer (some ⟨g, 0, none⟩)) := cell_of_row X w.heap.size 0 _ _ (0, 0) ((hkeep _ (by omega) (hnM _ (Nat.le_refl _)) (by omega) (by omega)).trans HX.out.2.1)
    have c5 : X.cell? ⟨W.heap.size, 0, none⟩ = some (.int .i64 (pre.length : Int)) := cell_of_row X W.heap.size 0 _ _ (0, 0) h8
    have f5 : X.frozen? ⟨W.heap.size, 0, none⟩ = false := frozen_of_row X W.heap.size 0 _ _ h8
    have hglt := H.out.2.1.lt
    have hlogX : LogAt X g d l := (hkeep g (by omega) H.out.2.2.1 (by omega) (by omega)).trans HX.out.2.2.1
    have hatX : At X bo (bytesV b) := HX.out.2.2.2.1.keeps h5 (fun i hi hne h => by
      obtain ⟨i', hi', hlt⟩ := HA.out.1.lt hne
      rw [hi] at hi'
      cases hi'
      rcases h with h | h | h | h
      · exact (HA.out.2 i hi hne).1 h
      · omega
      · omega
      · omega)
    have HH := Lib.hid (And.intro h1 (And.intro h2 (And.intro h3 (And.intro h4 (And.intro h5 (And.intro h6 (And.intro h7 (And.intro h8 h9))))))))
    have HC2 := Lib.hid (And.intro c2 (And.intro hlogX (at_chunk hatX x)))
    clear h1 h2 h3 h4 h5 h6 h7 h8 h9 hkeep hlogX hatX
    rw [chunkV_eq]
    clear hsW hs2 hsL
    gi_wp2
    obtain ⟨X1, hX1⟩ : ∃ X1, X.setCell ⟨W.heap.size, 0, none⟩ (.int .i64 ((pre.length : Int) + 1)) = X1 := ⟨_, rfl⟩
    rw [hX1]
    have g1 : X.grownBy X1 (some W.heap.size) := by rw [← hX1]; exact setCell_grown0 _ _ _ _
    have hr51 : X1.heap[W.heap.size]? = some (.cells #[.int .i64 ((pre.length : Int) + 1)] 3 (0, 0)) := by rw [← hX1]; exact setCell_row0 0 _ HH.out.2.2.2.2.2.2.2.1
    have hs1 := g1.size
    have hzs := HS.out
    have hnM' : ∀ i, w.heap.size ≤ i → i < wL.heap.size → ¬ M' i := fun i hi hlt hm => by
      rcases HH.out.2.2.1 i hm with h | h
      · exact hnM i hi h
      · omega
    have hnI' : ∀ i, w.heap.size ≤ i → i < wL.heap.size → ¬ I' i := fun i hi hlt hm => by
      rcases (HH.out.2.2.2.1 i hm).1 with h | h
      · have := (HIL.out i h).2; omega
      · omega
    have K1 : Keeps (fun i => i = W.heap.size) X X1 := Keeps.of_grown g1 rfl
    have hd1 : DiskAt B X1 M' I' d (s.writes (wof l.f l.at_ b pre)).2 := HH.out.1.keeps K1 (fun k hk e => hnM' W.heap.size (by omega) (by omega) (by rw [← e]; exact hk)) (fun k hk e => hnI' W.heap.size (by omega) (by omega) (by rw [← e]; exact hk))
    have hLX : wL.heap.size ≤ X.heap.size := HH.out.2.2.2.2.1.size
    have c21 : X1.drew.cell? ⟨w.heap.size, 0, none⟩ = some (.pointer (some ⟨g, 0, none⟩)) := (keeps_cell K1 (by show ¬ (w.heap.size = W.heap.size); omega) HC2.out.1 : X1.cell? ⟨w.heap.size, 0, none⟩ = _)
    have c51 : X1.drew.cell? ⟨W.heap.size, 0, none⟩ = some (.int .i64 ((pre.length : Int) + 1)) := cell_of_row X1 W.heap.size 0 _ _ (0, 0) hr51
    have hlog1 : LogAt X1 g d l := HC2.out.2.1.keeps K1 (by show ¬ (g = W.heap.size); omega)
    have hatc1 : At X1 (bo.map (·.add (511 * x))) (bytesV (chunk b x)) := HC2.out.2.2.keeps K1 (fun i hi hne e => by
      subst e
      obtain ⟨i', hi', hlt⟩ := (at_chunk HA.out.1 x).lt hne
      rw [hi] at hi'
      cases hi'
      omega)
    have H1 := Lib.hid (And.intro hd1 (And.intro hlog1 (And.intro hatc1 (And.intro K1 hr51))))
    have HQ := Lib.hid (And.intro c21 (And.intro c51 hlog1.drew.cells))
    have hbnd := writes_bounds (wof l.f l.at_ b pre) s
    rw [wof_length] at hbnd
    have HBN := Lib.hid hbnd
    have HNM := Lib.hid (And.intro hnM' hnI')
    have hsum : IntKind.i64.wrap ((l.at_ : Int) + ((pre.length : Int) + 1)) = (l.at_ : Int) + ((pre.length : Int) + 1) := by rw [IntKind.wrap_i64]; have := HNP.out; omega
    have hgX : g < X1.heap.size := by omega
    have HMX := Lib.hid hd1.lt
    have HCHL := Lib.hid (show (chunk b x).length ≤ 511 from by rw [chunk_length]; omega)
    clear hX1 g1 hr51 K1 hd1 c21 c51 hlog1 hatc1 hbnd c5 f5 c2 hzs
    refine seqxIn_start (fun i => X1.heap.size ≤ i ∨ M' i) (by rintro ⟨a', w', h'⟩; exact h') (by kernel_rfl) (by kernel_rfl) ?_
    have N2 := Lib.hid (show ¬ (X1.heap.size ≤ w.heap.size ∨ M' w.heap.size) from by rintro (h | h); have := HS.out; omega; exact HNM.out.1 _ (Nat.le_refl _) (by have := HS.out; omega) h)
    have N5 := Lib.hid (show ¬ (X1.heap.size ≤ W.heap.size ∨ M' W.heap.size) from by rintro (h | h); have := HS.out; omega; exact HNM.out.1 _ (by have := HS.out; omega) (by have := HS.out; omega) h)
    have NG := Lib.hid (show ¬ (X1.heap.size ≤ g ∨ M' g) from by rintro (h | h); omega; rcases HH.out.2.2.1 _ h with h | h; exact H.out.2.2.1 h; have := HS.out; omega)
    refine seqx_take 0 rfl (by kernel_rfl) (fun _ _ _ h => h) (by rfl) (fun w' hw' => (seq_ldl rfl rfl (keeps_cell hw' (by exact N2.out) (HQ.out.1))) w' (Below.refl _ _)) ?_
    try simp only [List.getElem_toArray, List.getElem_cons_succ, List.getElem_cons_zero, Act.put, List.setIfInBounds_toArray, List.set_cons_zero, List.set_cons_succ]
    refine seqx_take 1 (v := ?_) rfl (by kernel_rfl) (fun _ _ _ h => h) (by rfl) (fun w' hw' => ?_) ?_
    rotate_left
    · go_simp; try with_reducible rfl
    try simp only [List.getElem_toArray, List.getElem_cons_succ, List.getElem_cons_zero, Act.put, List.setIfInBounds_toArray, List.set_cons_zero, List.set_cons_succ]
    refine seqx_take 2 (v := ?_) rfl (by kernel_rfl) (fun _ _ _ h => h) (by rfl) (fun w' hw' => ?_) ?_
    rotate_left
    · go_simp; try with_reducible rfl
    try simp only [List.getElem_toArray, List.getElem_cons_succ, List.getElem_cons_zero, Act.put, List.setIfInBounds_toArray, List.set_cons_zero, List.set_cons_succ]
    refine seqx_take 3 rfl (by kernel_rfl) (fun _ _ _ h => h) (by rfl) (fun w' hw' => (seq_ldp rfl rfl (LogAt.keeps (H1.out.2.1.drew) hw' (by exact NG.out))) w' (Below.refl _ _)) ?_
    try simp only [List.getElem_toArray, List.getElem_cons_succ, List.getElem_cons_zero, Act.put, List.setIfInBounds_toArray, List.set_cons_zero, List.set_cons_succ]
    refine seqx_take 4 rfl (by kernel_rfl) (fun _ _ _ h => h) (by rfl) (fun w' hw' => (seq_ldl rfl rfl (keeps_cell hw' (by exact N2.out) (HQ.out.1))) w' (Below.refl _ _)) ?_
    try simp only [List.getElem_toArray, List.getElem_cons_succ, List.getElem_cons_zero, Act.put, List.setIfInBounds_toArray, List.set_cons_zero, List.set_cons_succ]
    refine seqx_take 5 (v := ?_) rfl (by kernel_rfl) (fun _ _ _ h => h) (by rfl) (fun w' hw' => ?_) ?_
    rotate_left
    · go_simp; try with_reducible rfl
    try simp only [List.getElem_toArray, List.getElem_cons_succ, List.getElem_cons_zero, Act.put, List.setIfInBounds_toArray, List.set_cons_zero, List.set_cons_succ]
    refine seqx_take 6 (v := ?_) rfl (by kernel_rfl) (fun _ _ _ h => h) (by rfl) (fun w' hw' => ?_) ?_
    rotate_left
    · go_simp; try with_reducible rfl
    try simp only [List.getElem_toArray, List.getElem_cons_succ, List.getElem_cons_zero, Act.put, List.setIfInBounds_toArray, List.set_cons_zero, List.set_cons_succ]
    refine seqx_take 7 rfl (by kernel_rfl) (fun _ _ _ h => h) (by rfl) (fun w' hw' => (seq_ldi rfl rfl (keeps_cell hw' (by exact NG.out) (HQ.out.2.2.2.2.2.2.2))) w' (Below.refl _ _)) ?_
    try simp only [List.getElem_toArray, List.getElem_cons_succ, List.getElem_cons_zero, Act.put, List.setIfInBounds_toArray, List.set_cons_zero, List.set_cons_succ]
    refine seqx_take 8 rfl (by kernel_rfl) (fun _ _ _ h => h) (by rfl) (fun w' hw' => (seq_ldi rfl rfl (keeps_cell hw' (by exact N5.out) (HQ.out.2.1))) w' (Below.refl _ _)) ?_
    try simp only [List.getElem_toArray, List.getElem_cons_succ, List.getElem_cons_zero, Act.put, List.setIfInBounds_toArray, List.set_cons_zero, List.set_cons_succ]
    refine seqx_take 9 (v := ?_) rfl (by kernel_rfl) (fun _ _ _ h => h) (by rfl) (fun w' hw' => ?_) ?_
    rotate_left
    · go_simp; try with_reducible rfl
    try simp only [List.getElem_toArray, List.getElem_cons_succ, List.getElem_cons_zero, Act.put, List.setIfInBounds_toArray, List.set_cons_zero, List.set_cons_succ]
    refine seqx_take 11 (v := ?_) rfl (by kernel_rfl) (fun _ _ _ h => h) (by rfl) (fun w' hw' => ?_) ?_
    rotate_left
    · go_simp; try with_reducible rfl
    try simp only [List.getElem_toArray, List.getElem_cons_succ, List.getElem_cons_zero, Act.put, List.setIfInBounds_toArray, List.set_cons_zero, List.set_cons_succ]
    refine seqx_run 10 rfl (by kernel_rfl) (by rfl) (fun KK hKK => ?_)
    go_wp2_with fail
    obtain ⟨X4, hX4⟩ : ∃ X4, (X1.alloc (.cells #[.int .u8 68] 5)).drew = X4 := ⟨_, rfl⟩
    rw [hX4]
    have hb14 : Below X1.heap.size X1 X4 := by rw [← hX4]; exact ((Below.refl _ X1).alloc (Nat.le_refl _) _).drew
    have hown4 : X4.ownsRow X1.heap.size 5 1 (.slice (some ⟨X1.heap.size, 0, none⟩) 1 1) 1 (bytesV [68]) := by
      rw [← hX4]
      exact owns_below (World.ownsRow_lit X1 #[.int .u8 68] 1 (Nat.le_refl _) (by decide) rfl) (Below.refl _ _).drew
    have hsz4 : X4.heap.size = X1.heap.size + 1 := by rw [← hX4]; simp
    have H4 := Lib.hid (And.intro hb14 (And.intro hown4 hsz4))
    clear hX4 hb14 hown4 hsz4
    refine ⟨Keeps.of_below (by have := H4.out.1; exact ⟨this.os, this.tape, this.output, by have := H4.out.2.2; simp only [World.size_drew]; omega, fun k hk => this.block k (by simpa using hk)⟩), ?_⟩
    refine seqx_run 12 rfl (by kernel_rfl) (by rfl) (fun KK hKK => ?_)
    refine wp_bytes _ _ rfl X1.heap.size (some ⟨X1.heap.size, 0, none⟩) 1 [68] 1 rfl H4.out.2.1 _ _ _ (chunk b x) rfl (H1.out.2.2.1.below H4.out.1) rfl (by have := HCHL.out; omega) (by have := H4.out.2.2; omega) ?_
    rintro ao5 cap5 X5 ⟨q1, q2, q3⟩
    refine hKK _ _ ?_
    have hb15 : Below X1.heap.size X1 X5 := H4.out.1.trans (below_grown H4.out.2.1 (by have := H4.out.2.2; omega) q2)
    have hk45 : Keeps (fun i => X1.heap.size ≤ i ∨ M' i) X4 X5 := Keeps.of_grown' q2 fun g' hg' => .inl (H4.out.2.1.lt g' (by rw [own_slice]; exact hg')).1
    refine ⟨hk45, ?_⟩
    have hsz5 := hb15.size
    have H5 := Lib.hid (And.intro (At.own q1) (And.intro hb15 (H1.out.1.below hb15)))
    have HLl := Lib.hid (show 1 + (chunk b x).length = ([68] ++ chunk b x).length by simp; omega)
    clear q1 q2 q3 hb15 hk45 hsum
    refine seqx_run 13 rfl (by kernel_rfl) (by rfl) (fun KK hKK => ?_)
    go_wp2_with fail
    have hbn := HBN.out
    refine (wwriteZ_any (B := B) X5 H5.out.2.2 (by omega) (by omega) l.f l.cnt (l.at_ + 1 + pre.length) _ (by omega) (by omega) (by have := HNP.out; omega) ao5 _ cap5 ([68] ++ chunk b x) HLl.out (by have := HCHL.out; have := HLl.out; omega) H5.out.1 (by have := HS.out; omega)).mono ?_
    rintro e X6 ⟨rfl, hu, hck⟩
    rw [show padZ ([68] ++ chunk b x) = secP b x from rfl, show l.f + (l.at_ + 1 + pre.length) = l.f + l.at_ + 1 + pre.length by omega] at hu ⊢
    have hws : s.writes (wof l.f l.at_ b (pre ++ [x])) = (s.writes (wof l.f l.at_ b pre)).2.write ((l.f + l.at_ + 1 + pre.length : Nat) : Int) (secP b x) := by
      rw [wof_snoc, writes_snoc, if_pos HH.out.2.1]
    rw [← hws] at hu ⊢
    clear hbn hws
    obtain ⟨M6, I6, d6, K6, m6, i6⟩ := hu
    have hsz6 := K6.size
    have hX15 : X.heap.size ≤ X5.heap.size := by omega
    have K16 : Keeps (fun i => i = W.heap.size ∨ M' i ∨ X.heap.size ≤ i) X X6 := (H1.out.2.2.2.1.mono fun i _ h => .inl h).trans' ((Keeps.of_below (X := fun i => i = W.heap.size ∨ M' i ∨ X.heap.size ≤ i) H5.out.2.1).trans' (K6.mono fun i _ h => .inr (.inl h)))
    have hd5 : X5.cell? ⟨d, 1, none⟩ = some (.map (some mb')) := by
      have hdM : d < w.heap.size := hdlt
      have h1 : X1.cell? ⟨d, 1, none⟩ = some (.map (some mb')) := keeps_cell H1.out.2.2.2.1 (by show ¬ (d = W.heap.size); have := HS.out; omega) HH.out.2.2.2.2.2.1
      exact (World.cell?_of_block (H5.out.2.1.block d (World.block_lt_of_cell? (a := ⟨d, 1, none⟩) X1 h1))).trans h1
    have hcell6 := hck _ hd5
    have hrow56 : X6.heap[W.heap.size]? = some (.cells #[.int .i64 ((pre.length : Int) + 1)] 3 (0, 0)) := by
      have h1 := H1.out.2.2.2.2
      rw [K6.block _ (by have := HS.out; omega) (fun h => N5.out (.inr h)), H5.out.2.1.block _ (by have := HS.out; omega)]
      exact h1
    have hrow46 : X6.heap[w.heap.size + 1]? = some (.cells #[.int .i64 0] 25 (0, 0)) := by
      rw [K16.block _ (by have := HS.out; omega) (by rintro (h | h | h); have := HS.out; omega; exact HNM.out.1 _ (by omega) (by have := HS.out; omega) h; have := HS.out; omega)]
      simpa using HH.out.2.2.2.2.2.2.2.2
    have hKF : KeepsFrom wL.heap.size X X6 := by
      refine ⟨K16.size, fun k o hBk hk ho => ?_⟩
      rw [K16.block k (Array.getElem?_eq_some_iff.1 hk).1 ?_]
      · exact hk
      · rintro (h | h | h)
        · have := HS.out; omega
        · rcases HH.out.1.kinds HH.out.2.2.2.2.2.1 k h with ⟨c, t', fr, hr⟩ | h
          · rw [hk] at hr; cases hr; cases ho
          · have := HH.out.2.2.2.2.2.2.1; omega
        · have := (Array.getElem?_eq_some_iff.1 hk).1; omega
    have hKP : KpC W2.heap.size (W2.heap.size + 1) X X6 := by
      have hz := HS.out
      exact ⟨K16.block _ (by omega) (by rintro (h | h | h); omega; exact HNM.out.1 _ (by omega) (by omega) h; omega), K16.block _ (by omega) (by rintro (h | h | h); omega; exact HNM.out.1 _ (by omega) (by omega) h; omega)⟩
    have hLP : ∀ Y, Keeps (fun i => i = w.heap.size + 1) X6 Y → Y.heap[w.heap.size + 1]? = some (.cells #[.int .i64 ((s.writes (wof l.f l.at_ b (pre ++ [x]))).1 : Int)] 25 (0, 0)) → LoopP B wL M I d (w.heap.size + 1) W.heap.size l.f l.at_ s b (s.writes (wof l.f l.at_ b (pre ++ [x]))).1 (pre ++ [x]) Y := by
      intro Y KS hrowY
      have hz := HS.out
      have hm6 : ∀ k, M6 k → M k ∨ wL.heap.size ≤ k := fun k hk => by
        rcases m6 k hk with h | h
        · exact HH.out.2.2.1 k h
        · exact .inr (by omega)
      have hi6 : ∀ k, I6 k → I k ∨ wL.heap.size ≤ k := fun k hk => by
        rcases i6 k hk with h | h
        · exact (HH.out.2.2.2.1 k h).1
        · exact .inr (by omega)
      have hMb : ∀ k, M6 k → k ≠ w.heap.size + 1 := fun k hk e => by
        rcases hm6 k hk with h | h
        · exact hnM k (by omega) h
        · omega
      have hIb : ∀ k, I6 k → k ≠ w.heap.size + 1 := fun k hk e => by
        rcases hi6 k hk with h | h
        · have := (HIL.out k h).2; omega
        · omega
      refine ⟨M6, fun k => I6 k ∧ isRow X6 k, mb', d6.restrict.keeps KS hMb (fun k hk => hIb k hk.1), rfl, hm6, fun k hk => ⟨hi6 k hk.1, hk.2.keep (KS.block k hk.2.lt (hIb k hk.1))⟩, ?_, keeps_cell KS (by show ¬ (d = w.heap.size + 1); omega) hcell6, HH.out.2.2.2.2.2.2.1, ?_, hrowY⟩
      · refine (HH.out.2.2.2.2.1.trans K16 fun i hi h => ?_).trans KS fun i _ h => .inr (.inr (.inl h))
        rcases h with h | h | h
        · exact .inr (.inl h)
        · rcases HH.out.2.2.1 i h with h | h
          · exact .inl h
          · exact .inr (.inr (.inr h))
        · exact .inr (.inr (.inr (by omega)))
      · rw [KS.block _ (by omega) (by omega), hrow56]
        simp
    have H6 := Lib.hid (And.intro hKF (And.intro hKP (And.intro hLP hrow46)))
    have c46 : X6.cell? ⟨w.heap.size + 1, 0, none⟩ = some (.int .i64 0) := cell_of_row X6 (w.heap.size + 1) 0 _ _ (0, 0) hrow46
    have f46 : X6.frozen? ⟨w.heap.size + 1, 0, none⟩ = false := frozen_of_row X6 (w.heap.size + 1) 0 _ _ hrow46
    have K6' := Lib.hid K6
    generalize s.writes (wof l.f l.at_ b (pre ++ [x])) = T at *
    obtain ⟨T1, T2⟩ := T
    clear hKF hKP hLP hcell6 hd5 hrow46 hrow56 hck d6 K6 m6 i6 K16
    go_wp2_with fail
    refine ⟨K6'.out.mono fun i _ h => .inr h, ?_⟩
    refine seqx_take 14 (v := ?_) rfl (by kernel_rfl) (fun _ _ _ h => h) (by rfl) (fun w' hw' => ?_) ?_
    rotate_left
    · go_simp; try with_reducible rfl
    try simp only [List.getElem_toArray, List.getElem_cons_succ, List.getElem_cons_zero, Act.put, List.setIfInBounds_toArray, List.set_cons_zero, List.set_cons_succ]
    refine seqx_done (by kernel_rfl) ?_
    by_cases hT : T1 = 0
    · subst hT
      gi_wp2
      exact ⟨H6.out.1, H6.out.2.1, H6.out.2.2.1 X6 (Keeps.refl _ _) H6.out.2.2.2⟩
    · have hne : ((T1 : Int) != 0) = true := by simp; exact hT
      gi_wp2
      have gS := setCell_grown0 X6 (w.heap.size + 1) 0 (.int .i64 (T1 : Int))
      exact ⟨H6.out.1.trans (KeepsFrom.of_grownBy gS fun j hj => by cases hj; have := HS.out; omega), rfl, T1, hT, H6.out.2.2.1 _ (Keeps.of_grown gS rfl) (setCell_row0 0 _ H6.out.2.2.2)⟩
  case stop =>
    rintro D c pre X hD ⟨k, hk, rfl⟩ ⟨rfl, e, he, hp⟩ hK
    obtain ⟨hsW, hs2, hsL⟩ := HS.out
    have hmid := loop_mid hB0 HX.out.1 (by omega) hsW HML.out HIL.out H.out.2.1 H.out.2.2.1 H.out.2.2.2.1 HX.out.2.1 H.out.2.2.2.2 HA.out.1 (fun i hi hne => (HA.out.2 i hi hne).1) hD hK hp
    have hDw : w.heap.size + 1 < D := by omega
    obtain ⟨_, _, _, _, hwe, _⟩ := hp
    have hap : appendP l.f s l.at_ l.age l.next b = s.writes (wof l.f l.at_ b (List.range k)) := by
      obtain ⟨r, hr⟩ := partsW_split l.f l.at_ b k (nparts b.length) hk
      have hst' := writes_stop (wof l.f l.at_ b (List.range k)) r s (by rw [hwe]; exact he)
      rw [wof_range] at hst' hwe ⊢
      unfold appendP
      simp only [hr, hst']
      rw [if_pos (by rw [hwe]; exact he)]
    clear hsW hs2 hsL
    gi_wp2
    have hrow := hmid.choose_spec.choose_spec.2.2.2.2.2.2.2.2.2.1
    refine ⟨by simp, .inl ⟨_, _, rfl, run_takeDeferred hK, ?_⟩⟩
    have hrowY : (X.putObj D (.deferred none)).heap[w.heap.size + 1]? = some (.cells #[.int .i64 (e : Int)] 25 (0, 0)) := (World.putObj_heap_other (by omega)).trans hrow
    have hY4 : (X.putObj D (.deferred none)).cell? ⟨w.heap.size + 1, 0, none⟩ = some (.int .i64 (e : Int)) := cell_of_row _ (w.heap.size + 1) 0 _ _ (0, 0) hrowY
    refine ⟨_, results_errno _ _ ⟨w.heap.size + 1, 0, none⟩ _ rfl hY4, ?_, ?_⟩
    · rw [hap, hwe]
    · have hs := mid9_end hmid (by omega) (Y := X.putObj D (.deferred none)) (l' := l) (Keeps.of_grown (grownBy_putObj' X D _) (.inr (.inl rfl))) (fun h => h.put (by have := LogAt.lt H.out.2.1; omega))
      rw [hap]
      unfold appendL
      rw [if_neg (by rw [hwe]; exact he)]
      exact hs
  case done =>
    rintro D xs X hD rfl hp hK
    obtain ⟨hsW, hs2, hsL⟩ := HS.out
    have hmid := loop_mid hB0 HX.out.1 (by omega) hsW HML.out HIL.out H.out.2.1 H.out.2.2.1 H.out.2.2.2.1 HX.out.2.1 H.out.2.2.2.2 HA.out.1 (fun i hi hne => (HA.out.2 i hi hne).1) hD hK hp
    have hDw : w.heap.size + 1 < D := by omega
    obtain ⟨_, _, _, _, hwe, _⟩ := hp
    rw [wof_range] at hmid hwe
    clear hsW hs2 hsL
    have hbn := writes_bounds (partsW l.f l.at_ b (nparts b.length)) s
    rw [partsW_length] at hbn
    have hnpl : nparts b.length ≤ 1000000 := by unfold nparts; omega
    have hap : appendP l.f s l.at_ l.age l.next b = (if (s.writes (partsW l.f l.at_ b (nparts b.length))).2.barrier.1 ≠ 0 then (s.writes (partsW l.f l.at_ b (nparts b.length))).2.barrier else if ((s.writes (partsW l.f l.at_ b (nparts b.length))).2.barrier.2.write ((l.f + l.at_ : Nat) : Int) (secF l.age l.next b)).1 ≠ 0 then (s.writes (partsW l.f l.at_ b (nparts b.length))).2.barrier.2.write ((l.f + l.at_ : Nat) : Int) (secF l.age l.next b) else ((s.writes (partsW l.f l.at_ b (nparts b.length))).2.barrier.2.write ((l.f + l.at_ : Nat) : Int) (secF l.age l.next b)).2.barrier) := by
      unfold appendP
      rw [if_neg (by simp only [ne_eq]; rw [hwe]; simp)]
    generalize s.writes (partsW l.f l.at_ b (nparts b.length)) = R0 at *
    obtain ⟨R, hRdef⟩ : ∃ R, appendP l.f s l.at_ l.age l.next b = R := ⟨_, rfl⟩
    rw [hRdef] at hap
    have HRD := Lib.hid hRdef
    clear hRdef
    obtain ⟨R01, S1⟩ := R0
    simp only at hmid hbn hap
    have HMID := Lib.hid hmid
    have HAP := Lib.hid hap
    have HKD := Lib.hid hD
    have HBN := Lib.hid hbn
    obtain ⟨M1, I1, d1, l1, nM1, nI1, K1, m1, i1, x1, r21, r41, rD1, a1, t1⟩ := hmid
    have c2 : X.cell? ⟨w.heap.size, 0, none⟩ = some (.pointer (some ⟨g, 0, none⟩)) := cell_of_row X w.heap.size 0 _ _ (0, 0) r21
    have c0 := l1.cells.1
    have hsX := K1.size
    have H1 := Lib.hid (And.intro d1 (And.intro l1 (And.intro nM1 (And.intro nI1 (And.intro K1 (And.intro m1 (And.intro i1 (And.intro x1 (And.intro r21 (And.intro r41 (And.intro rD1 t1)))))))))))
    clear hwe hap hbn d1 l1 nM1 nI1 K1 m1 i1 x1 r21 r41 rD1 a1 t1 hK
    go_wp2_with fail
    refine (barrier_any X H1.out.1 (by have := HBN.out; omega) (by have := HBN.out; omega) (by omega)).mono ?_
    rintro e X2 ⟨rfl, hu2⟩
    have hmid2 := mid9_upd (l := l) hB0 (fun i hi hne => (HA.out.2 i hi hne).1) HA.out.1 (fun k hk => (HML.out k hk).1) H1.out.2.1 H1.out.2.2.1 H1.out.2.2.2.1 H1.out.2.2.2.2.1 H1.out.2.2.2.2.2.1 H1.out.2.2.2.2.2.2.1 H1.out.2.2.2.2.2.2.2.1 H1.out.2.2.2.2.2.2.2.2.1 H1.out.2.2.2.2.2.2.2.2.2.1 H1.out.2.2.2.2.2.2.2.2.2.2.1 H1.out.2.2.2.2.2.2.2.2.2.2.2 hu2
    have hbb := barrier_steps S1
    generalize S1.barrier = R2 at *
    obtain ⟨E2, S2⟩ := R2
    simp only at hmid2 hbb ⊢ HAP
    have HM2 := Lib.hid hmid2
    have hgw := LogAt.lt H.out.2.1
    obtain ⟨M2, I2, d2, l2, nM2, nI2, K2, m2, i2, x2, r22, r42, rD2, a2, t2⟩ := hmid2
    have hs2 := K2.size
    have H2 := Lib.hid (And.intro d2 (And.intro l2 (And.intro nM2 (And.intro nI2 (And.intro K2 (And.intro m2 (And.intro i2 (And.intro x2 (And.intro r22 (And.intro r42 (And.intro rD2 (And.intro a2 t2))))))))))))
    have HBB := Lib.hid hbb
    clear d2 l2 nM2 nI2 K2 m2 i2 x2 r22 r42 rD2 a2 t2 c2 c0 hu2 hbb
    by_cases hE2 : E2 = 0
    · subst hE2
      have c22 : X2.drew.cell? ⟨w.heap.size, 0, none⟩ = some (.pointer (some ⟨g, 0, none⟩)) := cell_of_row X2 w.heap.size 0 _ _ (0, 0) H2.out.2.2.2.2.2.2.2.2.1
      have HC2 := Lib.hid (And.intro c22 H2.out.2.1.cells)
      clear c22
      go_wp2_with fail
      refine seql_start [18, 19] (by kernel_rfl) ?_
      refine seql_take 0 rfl (by kernel_rfl) (fun _ _ _ h => h) (by rfl) (seq_ldl rfl rfl (HC2.out.1)) ?_
      try simp only [List.getElem_toArray, List.getElem_cons_succ, List.getElem_cons_zero, Act.put, List.setIfInBounds_toArray, List.set_cons_zero, List.set_cons_succ]
      refine seql_take 1 (v := ?_) rfl (by kernel_rfl) (fun _ _ _ h => h) (by rfl) (fun w' hw' => ?_) ?_
      rotate_left
      · go_simp; try with_reducible rfl
      try simp only [List.getElem_toArray, List.getElem_cons_succ, List.getElem_cons_zero, Act.put, List.setIfInBounds_toArray, List.set_cons_zero, List.set_cons_succ]
      refine seql_take 2 (v := ?_) rfl (by kernel_rfl) (fun _ _ _ h => h) (by rfl) (fun w' hw' => ?_) ?_
      rotate_left
      · go_simp; try with_reducible rfl
      try simp only [List.getElem_toArray, List.getElem_cons_succ, List.getElem_cons_zero, Act.put, List.setIfInBounds_toArray, List.set_cons_zero, List.set_cons_succ]
      refine seql_take 3 rfl (by kernel_rfl) (fun _ _ _ h => h) (by rfl) (seq_ldp rfl rfl (H2.out.2.1.drew)) ?_
      try simp only [List.getElem_toArray, List.getElem_cons_succ, List.getElem_cons_zero, Act.put, List.setIfInBounds_toArray, List.set_cons_zero, List.set_cons_succ]
      refine seql_take 4 rfl (by kernel_rfl) (fun _ _ _ h => h) (by rfl) (seq_ldl rfl rfl (HC2.out.1)) ?_
      try simp only [List.getElem_toArray, List.getElem_cons_succ, List.getElem_cons_zero, Act.put, List.setIfInBounds_toArray, List.set_cons_zero, List.set_cons_succ]
      refine seql_take 5 (v := ?_) rfl (by kernel_rfl) (fun _ _ _ h => h) (by rfl) (fun w' hw' => ?_) ?_
      rotate_left
      · go_simp; try with_reducible rfl
      try simp only [List.getElem_toArray, List.getElem_cons_succ, List.getElem_cons_zero, Act.put, List.setIfInBounds_toArray, List.set_cons_zero, List.set_cons_succ]
      refine seql_take 6 (v := ?_) rfl (by kernel_rfl) (fun _ _ _ h => h) (by rfl) (fun w' hw' => ?_) ?_
      rotate_left
      · go_simp; try with_reducible rfl
      try simp only [List.getElem_toArray, List.getElem_cons_succ, List.getElem_cons_zero, Act.put, List.setIfInBounds_toArray, List.set_cons_zero, List.set_cons_succ]
      refine seql_take 7 rfl (by kernel_rfl) (fun _ _ _ h => h) (by rfl) (seq_ldi rfl rfl ((show X2.drew.cell? ⟨g, 5, none⟩ = _ from HC2.out.2.2.2.2.2.2))) ?_
      try simp only [List.getElem_toArray, List.getElem_cons_succ, List.getElem_cons_zero, Act.put, List.setIfInBounds_toArray, List.set_cons_zero, List.set_cons_succ]
      refine seql_take 8 rfl (by kernel_rfl) (fun _ _ _ h => h) (by rfl) (seq_ldl rfl rfl (HC2.out.1)) ?_
      try simp only [List.getElem_toArray, List.getElem_cons_succ, List.getElem_cons_zero, Act.put, List.setIfInBounds_toArray, List.set_cons_zero, List.set_cons_succ]
      refine seql_take 9 (v := ?_) rfl (by kernel_rfl) (fun _ _ _ h => h) (by rfl) (fun w' hw' => ?_) ?_
      rotate_left
      · go_simp; try with_reducible rfl
      try simp only [List.getElem_toArray, List.getElem_cons_succ, List.getElem_cons_zero, Act.put, List.setIfInBounds_toArray, List.set_cons_zero, List.set_cons_succ]
      refine seql_take 10 (v := ?_) rfl (by kernel_rfl) (fun _ _ _ h => h) (by rfl) (fun w' hw' => ?_) ?_
      rotate_left
      · go_simp; try with_reducible rfl
      try simp only [List.getElem_toArray, List.getElem_cons_succ, List.getElem_cons_zero, Act.put, List.setIfInBounds_toArray, List.set_cons_zero, List.set_cons_succ]
      refine seql_take 11 rfl (by kernel_rfl) (fun _ _ _ h => h) (by rfl) (seq_ldi rfl rfl ((show X2.drew.cell? ⟨g, 3, none⟩ = _ from HC2.out.2.2.2.2.1))) ?_
      try simp only [List.getElem_toArray, List.getElem_cons_succ, List.getElem_cons_zero, Act.put, List.setIfInBounds_toArray, List.set_cons_zero, List.set_cons_succ]
      refine seql_take 12 rfl (by kernel_rfl) (fun _ _ _ h => h) (by rfl) (seq_ldl rfl rfl (HC2.out.1)) ?_
      try simp only [List.getElem_toArray, List.getElem_cons_succ, List.getElem_cons_zero, Act.put, List.setIfInBounds_toArray, List.set_cons_zero, List.set_cons_succ]
      refine seql_take 13 (v := ?_) rfl (by kernel_rfl) (fun _ _ _ h => h) (by rfl) (fun w' hw' => ?_) ?_
      rotate_left
      · go_simp; try with_reducible rfl
      try simp only [List.getElem_toArray, List.getElem_cons_succ, List.getElem_cons_zero, Act.put, List.setIfInBounds_toArray, List.set_cons_zero, List.set_cons_succ]
      refine seql_take 14 (v := ?_) rfl (by kernel_rfl) (fun _ _ _ h => h) (by rfl) (fun w' hw' => ?_) ?_
      rotate_left
      · go_simp; try with_reducible rfl
      try simp only [List.getElem_toArray, List.getElem_cons_succ, List.getElem_cons_zero, Act.put, List.setIfInBounds_toArray, List.set_cons_zero, List.set_cons_succ]
      refine seql_take 15 rfl (by kernel_rfl) (fun _ _ _ h => h) (by rfl) (seq_ldi rfl rfl ((show X2.drew.cell? ⟨g, 4, none⟩ = _ from HC2.out.2.2.2.2.2.1))) ?_
      try simp only [List.getElem_toArray, List.getElem_cons_succ, List.getElem_cons_zero, Act.put, List.setIfInBounds_toArray, List.set_cons_zero, List.set_cons_succ]
      refine seql_take 16 (v := ?_) rfl (by kernel_rfl) (fun _ _ _ h => h) (by rfl) (fun w' hw' => ?_) ?_
      rotate_left
      · go_simp; try with_reducible rfl
      try simp only [List.getElem_toArray, List.getElem_cons_succ, List.getElem_cons_zero, Act.put, List.setIfInBounds_toArray, List.set_cons_zero, List.set_cons_succ]
      refine seql_run 17 rfl (by kernel_rfl) (by rfl) (fun KK hKK => ?_)
      go_wp2_with fail
      refine (firstZ_any l.age l.next _ _ rfl rfl (by omega) (by omega) bo _ cap b rfl hb X2.drew (H2.out.2.2.2.2.2.2.2.2.2.2.2.1.below (Below.refl _ X2).drew) (H2.out.2.2.2.2.2.2.2.2.2.2.2.2.below (Below.refl _ X2).drew)).mono ?_
      rintro e X3 ⟨fo, fcap, rfl, hownf, hb3⟩
      have hfl := firstL_length l.age l.next b (by omega) (by omega) (by omega)
      have hb23 : Below X2.heap.size X2 X3 := below_drew hb3
      have hmid3 := HM2.out.below hb23
      have H3 := Lib.hid (And.intro (At.own hownf) (And.intro hb3 hmid3))
      have hs3 := hb23.size
      clear hownf hb3 hb23 hmid3
      go_wp2_with fail
      refine ⟨H3.out.2.1, ?_⟩
      refine seql_last 18 rfl (by kernel_rfl) (by kernel_rfl) (by rfl) (fun KK hKK => ?_)
      go_wp2_with fail
      obtain ⟨M3, I3, d3, l3, nM3, nI3, K3, m3, i3, x3, r23, r43, rD3, a3, t3⟩ := H3.out.2.2
      refine (wwriteZ_any X3 d3 (by have := HBN.out; have := HBB.out; omega) (by have := HBN.out; have := HBB.out; omega) l.f l.cnt l.at_ _ rfl (by omega) (by omega) fo _ fcap (firstL l.age l.next b) rfl (by omega) H3.out.1 (by omega)).mono ?_
      rintro e X4 ⟨rfl, hu4, _⟩
      rw [show padZ (firstL l.age l.next b) = secF l.age l.next b from rfl] at hu4 ⊢
      have hmid4 := mid9_upd (l := l) hB0 (fun i hi hne => (HA.out.2 i hi hne).1) HA.out.1 (fun k hk => (HML.out k hk).1) l3 nM3 nI3 K3 m3 i3 x3 r23 r43 rD3 t3 hu4
      have hbb4 := write_steps S2 ((l.f + l.at_ : Nat) : Int) (secF l.age l.next b)
      generalize S2.write ((l.f + l.at_ : Nat) : Int) (secF l.age l.next b) = R4 at *
      obtain ⟨E4, S4⟩ := R4
      simp only at hmid4 hbb4 ⊢ HAP
      have HM4 := Lib.hid hmid4
      obtain ⟨M4, I4, d4, l4, nM4, nI4, K4, m4, i4, x4, r24, r44, rD4, a4, t4⟩ := hmid4
      have H4 := Lib.hid (And.intro d4 (And.intro l4 (And.intro nM4 (And.intro nI4 (And.intro K4 (And.intro m4 (And.intro i4 (And.intro x4 (And.intro r24 (And.intro r44 (And.intro rD4 (And.intro a4 t4))))))))))))
      have hs4 := K4.size
      have HB4 := Lib.hid hbb4
      clear d3 l3 nM3 nI3 K3 m3 i3 x3 r23 r43 rD3 a3 t3 hu4 d4 l4 nM4 nI4 K4 m4 i4 x4 r24 r44 rD4 a4 t4 hbb4 hfl
      go_wp2_with fail
      refine seql_more 19 rfl (by kernel_rfl) (by kernel_rfl) (by rfl) (fun KK hKK => ?_)
      go_wp2_with fail
      refine seql_done (by kernel_rfl) ?_
      by_cases hE4 : E4 = 0
      · subst hE4
        have c24 : X4.cell? ⟨w.heap.size, 0, none⟩ = some (.pointer (some ⟨g, 0, none⟩)) := cell_of_row X4 w.heap.size 0 _ _ (0, 0) H4.out.2.2.2.2.2.2.2.2.1
        have c04 := H4.out.2.1.cells.1
        go_wp2_with fail
        refine (barrier_any X4 H4.out.1 (by have := HBN.out; have := HBB.out; have := HB4.out; omega) (by have := HBN.out; have := HBB.out; have := HB4.out; omega) (by omega)).mono ?_
        rintro e X5 ⟨rfl, hu5⟩
        have hmid5 := mid9_upd (l := l) hB0 (fun i hi hne => (HA.out.2 i hi hne).1) HA.out.1 (fun k hk => (HML.out k hk).1) H4.out.2.1 H4.out.2.2.1 H4.out.2.2.2.1 H4.out.2.2.2.2.1 H4.out.2.2.2.2.2.1 H4.out.2.2.2.2.2.2.1 H4.out.2.2.2.2.2.2.2.1 H4.out.2.2.2.2.2.2.2.2.1 H4.out.2.2.2.2.2.2.2.2.2.1 H4.out.2.2.2.2.2.2.2.2.2.2.1 H4.out.2.2.2.2.2.2.2.2.2.2.2.2 hu5
        have hR : R = S4.barrier := by rw [HAP.out, if_neg (by simp), if_neg (by simp)]
        rw [← hR] at hmid5 ⊢
        clear hR hu5 c24 c04
        obtain ⟨E5, S5⟩ := R
        simp only at hmid5 ⊢
        have HM5 := Lib.hid hmid5
        obtain ⟨M5, I5, d5, l5, nM5, nI5, K5, m5, i5, x5, r25, r45, rD5, a5, t5⟩ := hmid5
        have HR45 := Lib.hid r45
        by_cases hE5 : E5 = 0
        · subst hE5
          have c25 : X5.cell? ⟨w.heap.size, 0, none⟩ = some (.pointer (some ⟨g, 0, none⟩)) := cell_of_row X5 w.heap.size 0 _ _ (0, 0) r25
          have HL5 := Lib.hid (And.intro l5.cells l5)
          have HC5 := Lib.hid c25
          have hatc : X5.cell? ⟨g, 5, none⟩ = some (.int .i64 (l.at_ : Int)) := l5.cells.2.2.2.2.2
          have fz5 : X5.frozen? ⟨g, 5, none⟩ = false := l5.fz 5
          have hnc : X5.cell? ⟨g, 4, none⟩ = some (.int .i64 (l.next : Int)) := l5.cells.2.2.2.2.1
          have fz4 : X5.frozen? ⟨g, 4, none⟩ = false := l5.fz 4
          have hec : X5.cell? ⟨w.heap.size + 1, 0, none⟩ = some (.int .i64 0) := cell_of_row X5 (w.heap.size + 1) 0 _ _ (0, 0) r45
          have fze : X5.frozen? ⟨w.heap.size + 1, 0, none⟩ = false := frozen_of_row X5 (w.heap.size + 1) 0 _ _ r45
          clear d5 l5 nM5 nI5 K5 m5 i5 x5 r25 r45 rD5 a5 t5
          have hsum5 : IntKind.i64.wrap ((l.at_ : Int) + (needN b.length : Int)) = (l.at_ : Int) + (needN b.length : Int) := by rw [IntKind.wrap_i64]; omega
          go_wp2_with fail
          refine seql_start [10] (by kernel_rfl) ?_
          refine seql_take 0 rfl (by kernel_rfl) (fun _ _ _ h => h) (by rfl) (seq_ldl rfl rfl ((show X5.drew.cell? ⟨w.heap.size, 0, none⟩ = _ from HC5.out))) ?_
          try simp only [List.getElem_toArray, List.getElem_cons_succ, List.getElem_cons_zero, Act.put, List.setIfInBounds_toArray, List.set_cons_zero, List.set_cons_succ]
          refine seql_take 1 (v := ?_) rfl (by kernel_rfl) (fun _ _ _ h => h) (by rfl) (fun w' hw' => ?_) ?_
          rotate_left
          · go_simp; try with_reducible rfl
          try simp only [List.getElem_toArray, List.getElem_cons_succ, List.getElem_cons_zero, Act.put, List.setIfInBounds_toArray, List.set_cons_zero, List.set_cons_succ]
          refine seql_take 2 (v := ?_) rfl (by kernel_rfl) (fun _ _ _ h => h) (by rfl) (fun w' hw' => ?_) ?_
          rotate_left
          · go_simp; try with_reducible rfl
          try simp only [List.getElem_toArray, List.getElem_cons_succ, List.getElem_cons_zero, Act.put, List.setIfInBounds_toArray, List.set_cons_zero, List.set_cons_succ]
          refine seql_take 3 rfl (by kernel_rfl) (fun _ _ _ h => h) (by rfl) (seq_ldi rfl rfl ((show X5.drew.cell? ⟨g, 5, none⟩ = _ from HL5.out.1.2.2.2.2.2))) ?_
          try simp only [List.getElem_toArray, List.getElem_cons_succ, List.getElem_cons_zero, Act.put, List.setIfInBounds_toArray, List.set_cons_zero, List.set_cons_succ]
          refine seql_take 4 (v := ?_) rfl (by kernel_rfl) (fun _ _ _ h => h) (by rfl) (fun w' hw' => ?_) ?_
          rotate_left
          · go_simp; try with_reducible rfl
          try simp only [List.getElem_toArray, List.getElem_cons_succ, List.getElem_cons_zero, Act.put, List.setIfInBounds_toArray, List.set_cons_zero, List.set_cons_succ]
          refine seql_take 5 (v := ?_) rfl (by kernel_rfl) (fun _ _ _ h => h) (by rfl) (fun w' hw' => ?_) ?_
          rotate_left
          · go_simp; try with_reducible rfl
          try simp only [List.getElem_toArray, List.getElem_cons_succ, List.getElem_cons_zero, Act.put, List.setIfInBounds_toArray, List.set_cons_zero, List.set_cons_succ]
          refine seql_run 6 rfl (by kernel_rfl) (by rfl) (fun KK hKK => ?_)
          go_wp2_with fail
          refine (need_any b.length (by omega) X5.drew).mono ?_
          rintro e X6 ⟨rfl, rfl⟩
          go_wp2_with fail
          refine ⟨Below.refl _ _, ?_⟩
          refine seql_take 7 (v := ?_) rfl (by kernel_rfl) (fun _ _ _ h => h) (by rfl) (fun w' hw' => ?_) ?_
          rotate_left
          · go_simp; try with_reducible rfl
          try simp only [List.getElem_toArray, List.getElem_cons_succ, List.getElem_cons_zero, Act.put, List.setIfInBounds_toArray, List.set_cons_zero, List.set_cons_succ]
          refine seql_take 8 (v := ?_) rfl (by kernel_rfl) (fun _ _ _ h => h) (by rfl) (fun w' hw' => ?_) ?_
          rotate_left
          · go_simp; try with_reducible rfl
          try simp only [List.getElem_toArray, List.getElem_cons_succ, List.getElem_cons_zero, Act.put, List.setIfInBounds_toArray, List.set_cons_zero, List.set_cons_succ]
          refine seql_take 9 (v := ?_) rfl (by kernel_rfl) (fun _ _ _ h => h) (by rfl) (fun w' hw' => ?_) ?_
          rotate_left
          · go_simp; try with_reducible rfl
          try simp only [List.getElem_toArray, List.getElem_cons_succ, List.getElem_cons_zero, Act.put, List.setIfInBounds_toArray, List.set_cons_zero, List.set_cons_succ]
          refine seql_last 10 rfl (by kernel_rfl) (by kernel_rfl) (by rfl) (fun KK hKK => ?_)
          go_wp2_with fail
          refine seql_done (by kernel_rfl) ?_
          have hgne : ¬ (w.heap.size + 1 = g) := by omega
          have hgne2 : ¬ (g = w.heap.size + 1) := by omega
          go_wp2_with fail
          have K55 := Keeps.trans' (X := fun i => i = w.heap.size + 1 ∨ i = g) (Keeps.trans' (Keeps.trans' (X := fun i => i = w.heap.size + 1 ∨ i = g) (Keeps.of_grown (setCell_grown0 X5 g 5 (.int .i64 ((l.at_ : Int) + (needN b.length : Int)))) (.inr rfl)) (Keeps.of_grown (setCell_grown0 _ g 4 (.int .i64 ((l.next : Int) + 1))) (.inr rfl))) (Keeps.of_grown (setCell_grown0 _ (w.heap.size + 1) 0 (.int .i64 0)) (.inl rfl))) (Keeps.drew _ _)
          have hend := append_end HM5.out hDw hgw 0 _ HRD.out K55 ?_ ?_
          · exact hend _ rfl
          · refine setCell_row0 (cs := #[.int .i64 0]) 0 _ ?_
            rw [setCell_else0 _ _ _ _ _ hgne, setCell_else0 _ _ _ _ _ hgne]
            exact HR45.out
          · intro hlog
            have := (hlog.setPos (l.at_ + needN b.length)).setNext (l.next + 1)
            exact (this.keeps (Keeps.of_grown (X := fun i => i = w.heap.size + 1) (setCell_grown0 _ (w.heap.size + 1) 0 (.int .i64 0)) rfl) (by omega)).drew
        · have hne : ((E5 : Int) != 0) = true := by simp; exact hE5
          have hec : X5.cell? ⟨w.heap.size + 1, 0, none⟩ = some (.int .i64 0) := cell_of_row X5 (w.heap.size + 1) 0 _ _ (0, 0) r45
          have fze : X5.frozen? ⟨w.heap.size + 1, 0, none⟩ = false := frozen_of_row X5 (w.heap.size + 1) 0 _ _ r45
          clear d5 l5 nM5 nI5 K5 m5 i5 x5 r25 r45 rD5 a5 t5
          go_wp2_with fail
          have hal : appendL l E5 b = l := by unfold appendL; rw [if_neg hE5]
          have hend := append_end HM5.out hDw hgw E5 _ HRD.out (Keeps.of_grown (setCell_grown0 X5 (w.heap.size + 1) 0 (.int .i64 (E5 : Int))) (.inl rfl)) (setCell_row0 0 _ HR45.out) (fun h => by rw [hal]; exact h.keeps (Keeps.of_grown (X := fun i => i = w.heap.size + 1) (setCell_grown0 X5 (w.heap.size + 1) 0 (.int .i64 (E5 : Int))) rfl) (by omega))
          exact hend _ rfl
      · have hR : R = (E4, S4) := by rw [HAP.out, if_neg (by simp), if_pos hE4]
        subst hR
        have hne : ((E4 : Int) != 0) = true := by simp; exact hE4
        have hec : X4.cell? ⟨w.heap.size + 1, 0, none⟩ = some (.int .i64 0) := cell_of_row X4 (w.heap.size + 1) 0 _ _ (0, 0) H4.out.2.2.2.2.2.2.2.2.2.1
        have fze : X4.frozen? ⟨w.heap.size + 1, 0, none⟩ = false := frozen_of_row X4 (w.heap.size + 1) 0 _ _ H4.out.2.2.2.2.2.2.2.2.2.1
        go_wp2_with fail
        have hal : appendL l E4 b = l := by unfold appendL; rw [if_neg hE4]
        have hend := append_end HM4.out hDw hgw E4 _ HRD.out (Keeps.of_grown (setCell_grown0 X4 (w.heap.size + 1) 0 (.int .i64 (E4 : Int))) (.inl rfl)) (setCell_row0 0 _ H4.out.2.2.2.2.2.2.2.2.2.1) (fun h => by rw [hal]; exact h.keeps (Keeps.of_grown (X := fun i => i = w.heap.size + 1) (setCell_grown0 X4 (w.heap.size + 1) 0 (.int .i64 (E4 : Int))) rfl) (by omega))
        exact hend _ rfl
    · have hR : R = (E2, S2) := by rw [HAP.out, if_pos hE2]
      subst hR
      have hne : ((E2 : Int) != 0) = true := by simp; exact hE2
      have hec : X2.cell? ⟨w.heap.size + 1, 0, none⟩ = some (.int .i64 0) := cell_of_row X2 (w.heap.size + 1) 0 _ _ (0, 0) H2.out.2.2.2.2.2.2.2.2.2.1
      have fze : X2.frozen? ⟨w.heap.size + 1, 0, none⟩ = false := frozen_of_row X2 (w.heap.size + 1) 0 _ _ H2.out.2.2.2.2.2.2.2.2.2.1
      go_wp2_with fail
      have hal : appendL l E2 b = l := by unfold appendL; rw [if_neg hE2]
      have hend := append_end HM2.out hDw hgw E2 _ HRD.out (Keeps.of_grown (setCell_grown0 X2 (w.heap.size + 1) 0 (.int .i64 (E2 : Int))) (.inl rfl)) (setCell_row0 0 _ H2.out.2.2.2.2.2.2.2.2.2.1) (fun h => by rw [hal]; exact h.keeps (Keeps.of_grown (X := fun i => i = w.heap.size + 1) (setCell_grown0 X2 (w.heap.size + 1) 0 (.int .i64 (E2 : Int))) rfl) (by omega))
      exact hend _ rfl

end Go.Proofs.YtpeehagaiofobaaDoor
