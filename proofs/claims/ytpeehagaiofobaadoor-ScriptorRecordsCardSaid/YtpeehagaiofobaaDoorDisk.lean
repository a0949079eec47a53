/- A disk in memory, and the walks of its smaller methods. -/
import Derived.Test.YtpeehagaiofobaaDoorMap
import Derived.Test.YtpeehagaiofobaaDoorDiskM
import Derived.Test.YtpeehagaiofobaaDoorOps2
import Derived.Handy
import Derived.Lib.BufferMore
namespace Go.Proofs.YtpeehagaiofobaaDoor
open Go.RowKit

/-- A sector's bytes, that never change: they lie in one of I's blocks. -/
def SecV (w : World) (I : Nat → Prop) (v : Value) (b : List UInt8) : Prop := ∃ g cap, v = .slice (some ⟨g, 0, none⟩) 512 cap ∧ b.length = 512 ∧ 512 ≤ cap ∧ At w (some ⟨g, 0, none⟩) (bytesV b) ∧ I g ∧ g < w.heap.size
theorem SecV.keeps {X I J : Nat → Prop} {w w' : World} {v : Value} {b : List UInt8} (h : SecV w I v b) (hk : Keeps X w w') (hX : ∀ g, I g → g < w.heap.size → ¬ X g) (hJ : ∀ g, I g → J g) : SecV w' J v b := by
  obtain ⟨g, cap, rfl, hb, hc, hat, hi, hlt⟩ := h
  exact ⟨g, cap, rfl, hb, hc, hat.keeps hk (fun b' hb' _ => by cases hb'; exact hX _ hi hlt), hJ _ hi, Nat.lt_of_lt_of_le hlt hk.size⟩
def LastV (w : World) (I : Nat → Prop) (v : Value) : Option (List UInt8) → Prop
  | none => v = .slice none 0 0
  | some b => SecV w I v b
def WaitV (w : World) (I : Nat → Prop) (r : List Value) (p : Nat × List UInt8) : Prop := ∃ v, r = [.int .i64 (p.1 : Int), v] ∧ SecV w I v p.2
def NowIs (w : World) (I : Nat → Prop) (f : Int → Option Value) (W : List (Nat × List UInt8)) : Prop := ∀ z, match lastW W z with
  | none => f z = none
  | some b => ∃ v, f z = some v ∧ SecV w I v b

/-- What a disk's fields lead to. -/
structure DBody (B : Nat) (w : World) (I : Nat → Prop) (lb lcap mb : Nat) (wo : Option Addr) (wcap : Nat) (lc : List Value) (f : Int → Option Value) (xs : List (List Value)) (s : DS) : Prop where
  lasts : w.ownsRow B 40 1 (.slice (some ⟨lb, 0, none⟩) s.L.length lcap) s.L.length lc
  lasts2 : All2 (LastV w I) lc s.L
  map : MapAt w mb f
  mapB : B ≤ mb
  now : NowIs w I f s.W
  waits : w.ownsRow B 89 2 (.slice wo s.W.length wcap) s.W.length xs.flatten
  waits2 : All2 (WaitV w I) xs s.W
  imm : ∀ b, I b → B ≤ b ∧ b < w.heap.size
  lm : lb ≠ mb
  wl : blk wo ≠ some lb
  wm : blk wo ≠ some mb
  il : ¬ I lb
  iM : ¬ I mb
  iw : ∀ b, blk wo = some b → ¬ I b

/-- A disk: M are the blocks that it writes, I those that it only reads. -/
def DiskAt (B : Nat) (w : World) (M I : Nat → Prop) (d : Nat) (s : DS) : Prop := ∃ lb lcap mb wo wcap lc f xs,
  w.heap[d]? = some (.cells #[.slice (some ⟨lb, 0, none⟩) s.L.length lcap, .map (some mb), .slice wo s.W.length wcap, .int .i64 s.left, .bool s.off, .int .i64 (s.steps : Int)] 52 (0, 0)) ∧
  DBody B w I lb lcap mb wo wcap lc f xs s ∧ B ≤ d ∧ d ≠ lb ∧ d ≠ mb ∧ blk wo ≠ some d ∧ ¬ I d ∧ s.ok ∧
  (∀ b, M b ↔ b = d ∨ b = lb ∨ b = mb ∨ blk wo = some b)

theorem DBody.keeps {B : Nat} {X I : Nat → Prop} {w w' : World} {lb lcap mb : Nat} {wo : Option Addr} {wcap : Nat} {lc : List Value} {f : Int → Option Value} {xs : List (List Value)} {s : DS} (h : DBody B w I lb lcap mb wo wcap lc f xs s) (hk : Keeps X w w')
    (hI : ∀ g, I g → ¬ X g) (hl : ¬ X lb) (hm : ¬ X mb) (hw : ∀ b, blk wo = some b → ¬ X b) : DBody B w' I lb lcap mb wo wcap lc f xs s where
  lasts := owns_keeps h.lasts hk (by rw [own_slice]; rintro b ⟨⟩; exact hl)
  lasts2 := h.lasts2.mono fun a o _ ho => by
    cases o with
    | none => exact ho
    | some b => exact ho.keeps hk (fun g hg _ => hI g hg) (fun _ h => h)
  map := h.map.keeps hk hm
  mapB := h.mapB
  now := fun z => by
    have := h.now z
    cases hl : lastW s.W z with
    | none => rw [hl] at this; exact this
    | some b =>
      rw [hl] at this
      obtain ⟨v, hv, hs⟩ := this
      exact ⟨v, hv, hs.keeps hk (fun g hg _ => hI g hg) (fun _ h => h)⟩
  waits := owns_keeps h.waits hk (by rw [own_slice]; exact hw)
  waits2 := h.waits2.mono fun a p _ ⟨v, hv, hs⟩ => ⟨v, hv, hs.keeps hk (fun g hg _ => hI g hg) (fun _ h => h)⟩
  imm := fun b hb => ⟨(h.imm b hb).1, Nat.lt_of_lt_of_le (h.imm b hb).2 hk.size⟩
  lm := h.lm
  wl := h.wl
  wm := h.wm
  il := h.il
  iM := h.iM
  iw := h.iw

theorem DiskAt.lt {B : Nat} {w : World} {M I : Nat → Prop} {d : Nat} {s : DS} (h : DiskAt B w M I d s) : ∀ b, M b → B ≤ b ∧ b < w.heap.size := by
  obtain ⟨lb, lcap, mb, wo, wcap, lc, f, xs, hd, hb, hB, _, _, _, _, _, hM⟩ := h
  intro b hb'
  rcases (hM b).1 hb' with rfl | rfl | rfl | hw
  · exact ⟨hB, (Array.getElem?_eq_some_iff.1 hd).1⟩
  · exact hb.lasts.lt b (by rw [own_slice]; rfl)
  · exact ⟨hb.mapB, hb.map.lt⟩
  · exact hb.waits.lt b (by rw [own_slice]; exact hw)
theorem DiskAt.ltI {B : Nat} {w : World} {M I : Nat → Prop} {d : Nat} {s : DS} (h : DiskAt B w M I d s) : ∀ b, I b → B ≤ b ∧ b < w.heap.size := by
  obtain ⟨lb, lcap, mb, wo, wcap, lc, f, xs, hd, hb, _⟩ := h
  exact hb.imm
/-- A disk stays as it is where others write. -/
theorem DiskAt.keeps {B : Nat} {X : Nat → Prop} {w w' : World} {M I : Nat → Prop} {d : Nat} {s : DS} (h : DiskAt B w M I d s) (hk : Keeps X w w') (hM : ∀ b, M b → ¬ X b) (hI : ∀ b, I b → ¬ X b) : DiskAt B w' M I d s := by
  obtain ⟨lb, lcap, mb, wo, wcap, lc, f, xs, hd, hb, hB, h1, h2, h3, h4, h5, h6⟩ := h
  refine ⟨lb, lcap, mb, wo, wcap, lc, f, xs, ?_, hb.keeps hk hI (hM lb ((h6 lb).2 (by simp))) (hM mb ((h6 mb).2 (by simp))) (fun b hb' => hM b ((h6 b).2 (by simp [hb']))), hB, h1, h2, h3, h4, h5, h6⟩
  rw [hk.block d (Array.getElem?_eq_some_iff.1 hd).1 (hM d ((h6 d).2 (by simp)))]
  exact hd
theorem DiskAt.below {B : Nat} {w w' : World} {M I : Nat → Prop} {d : Nat} {s : DS} (h : DiskAt B w M I d s) (hb : Below w.heap.size w w') : DiskAt B w' M I d s :=
  h.keeps (X := fun _ => False) (Keeps.of_below hb) (fun _ _ h => h) (fun _ _ h => h)

/-- The disk's own block, and a new one of its fields. -/
theorem DiskAt.setHead {B : Nat} {w : World} {M I : Nat → Prop} {d : Nat} {s : DS} (h : DiskAt B w M I d s) (j : Nat) (v : Value) (s' : DS) (hL : s'.L = s.L) (hW : s'.W = s.W) (hok : s'.ok)
    (hj : ∀ a b c : Value, (#[a, b, c, .int .i64 s.left, .bool s.off, .int .i64 (s.steps : Int)] : Array Value).setIfInBounds j v = #[a, b, c, .int .i64 s'.left, .bool s'.off, .int .i64 (s'.steps : Int)]) :
    DiskAt B (w.setCell ⟨d, j, none⟩ v) M I d s' ∧ w.grownBy (w.setCell ⟨d, j, none⟩ v) (some d) := by
  obtain ⟨lb, lcap, mb, wo, wcap, lc, f, xs, hd, hb, hB, h1, h2, h3, h4, h5, h6⟩ := h
  have hg := setCell_grown0 w d j v
  refine ⟨⟨lb, lcap, mb, wo, wcap, lc, f, xs, ?_, ?_, hB, h1, h2, h3, h4, hok, h6⟩, hg⟩
  · rw [setCell_row0 j v hd, hj, hL, hW]
  · have := hb.keeps (X := fun i => i = d) (Keeps.of_grown hg rfl) (fun g hg e => h4 (by rw [← e]; exact hg)) (fun e => h1 e.symm) (fun e => h2 e.symm) (fun b hb' e => h3 (by rw [← e]; exact hb'))
    exact ⟨by rw [hL]; exact this.lasts, by rw [hL]; exact this.lasts2, this.map, this.mapB, by rw [hW]; exact this.now, by rw [hW]; exact this.waits, by rw [hW]; exact this.waits2, this.imm, this.lm, this.wl, this.wm, this.il, this.iM, this.iw⟩

theorem DiskAt.cells {B : Nat} {w : World} {M I : Nat → Prop} {d : Nat} {s : DS} (h : DiskAt B w M I d s) : ∃ lb lcap mb wo wcap, w.cell? ⟨d, 0, none⟩ = some (.slice (some ⟨lb, 0, none⟩) s.L.length lcap) ∧ w.cell? ⟨d, 1, none⟩ = some (.map (some mb)) ∧ w.cell? ⟨d, 2, none⟩ = some (.slice wo s.W.length wcap) ∧
    w.cell? ⟨d, 3, none⟩ = some (.int .i64 s.left) ∧ w.cell? ⟨d, 4, none⟩ = some (.bool s.off) ∧ w.cell? ⟨d, 5, none⟩ = some (.int .i64 (s.steps : Int)) := by
  obtain ⟨lb, lcap, mb, wo, wcap, lc, f, xs, hd, _⟩ := h
  exact ⟨lb, lcap, mb, wo, wcap, cell_of_row _ d 0 _ _ (0, 0) hd, cell_of_row _ d 1 _ _ (0, 0) hd, cell_of_row _ d 2 _ _ (0, 0) hd, cell_of_row _ d 3 _ _ (0, 0) hd, cell_of_row _ d 4 _ _ (0, 0) hd, cell_of_row _ d 5 _ _ (0, 0) hd⟩
theorem DiskAt.fz {B : Nat} {w : World} {M I : Nat → Prop} {d : Nat} {s : DS} (h : DiskAt B w M I d s) (j : Nat) : w.frozen? ⟨d, j, none⟩ = false := by
  obtain ⟨lb, lcap, mb, wo, wcap, lc, f, xs, hd, _⟩ := h
  exact frozen_of_row w d j _ _ hd
theorem DiskAt.sok {B : Nat} {w : World} {M I : Nat → Prop} {d : Nat} {s : DS} (h : DiskAt B w M I d s) : s.ok := by
  obtain ⟨lb, lcap, mb, wo, wcap, lc, f, xs, hd, _, _, _, _, _, _, h, _⟩ := h
  exact h

set_option maxHeartbeats 400000 in
theorem on_any {B : Nat} {M I : Nat → Prop} {d : Nat} {s : DS} (w : World) (h : DiskAt B w M I d s) :
    Calls Tryd.prog 38 #[.pointer (some ⟨d, 0, none⟩)] w (fun e w' => e = .returned (.int .i64 (if s.off then 8 else 0)) ∧ w = w') := by
  obtain ⟨lb, lcap, mb, wo, wcap, _, _, _, _, c4, _⟩ := h.cells
  generalize s.off = off at *
  clear h
  go_enter Tryd.func38, Tryd.ntmps38
  cases off
  · go_wp2_with fail
    go_returns
    exact ⟨rfl, rfl⟩
  · go_wp2_with fail
    go_returns
    exact ⟨rfl, rfl⟩

/-- Is it a number of a range? -/
def inR (n : Int) (k : Nat) : Bool := decide (0 ≤ n ∧ n < k)
set_option maxHeartbeats 400000 in
theorem there_any {B : Nat} {M I : Nat → Prop} {d : Nat} {s : DS} (w : World) (h : DiskAt B w M I d s) (n : Int) :
    Calls Tryd.prog 57 #[.pointer (some ⟨d, 0, none⟩), .int .i64 n] w (fun e w' => e = .returned (.bool (inR n s.L.length)) ∧ w = w') := by
  obtain ⟨lb, lcap, mb, wo, wcap, c0, _⟩ := h.cells
  generalize s.L.length = k at *
  clear h
  have HR := Lib.hid (show inR n k = decide (0 ≤ n ∧ n < k) from rfl)
  generalize inR n k = r at *
  go_enter Tryd.func57, Tryd.ntmps57
  by_cases h0 : 0 ≤ n
  · by_cases h1 : n < k
    · have hr : r = true := by rw [HR.out]; exact decide_eq_true ⟨h0, h1⟩
      subst hr
      go_wp2_with fail
      go_returns
      exact ⟨by simp, rfl⟩
    · have hr : r = false := by rw [HR.out]; exact decide_eq_false (fun h => h1 h.2)
      subst hr
      go_wp2_with fail
      go_returns
      exact ⟨rfl, rfl⟩
  · have hr : r = false := by rw [HR.out]; exact decide_eq_false (fun h => h0 h.1)
    subst hr
    go_wp2_with fail
    go_returns
    exact ⟨rfl, rfl⟩

theorem grown_trans0 {w w1 w2 : World} {g : Nat} (h : w.grownBy w1 (some g)) (h' : w1.grownBy w2 (some g)) : w.grownBy w2 (some g) :=
  ⟨h'.os.trans h.os, h'.tape.trans h.tape, h'.output.trans h.output, Nat.le_trans h.size h'.size, fun k hk hne => (h'.block k (Nat.lt_of_lt_of_le hk h.size) hne).trans (h.block k hk hne)⟩
theorem grown_refl0 (w : World) (ob : Option Nat) : w.grownBy w ob := ⟨rfl, rfl, rfl, Nat.le_refl _, fun _ _ _ => rfl⟩

/-- The lead to a disk's map is as it was. -/
def CellKept (d : Nat) (w w' : World) : Prop := ∀ m, w.cell? ⟨d, 1, none⟩ = some m → w'.cell? ⟨d, 1, none⟩ = some m
theorem cellKept_set (d j : Nat) (w : World) (v : Value) (hj : j ≠ 1) : CellKept d w (w.setCell ⟨d, j, none⟩ v) := fun m hm => (World.cell?_setCell_other w ⟨d, j, none⟩ ⟨d, 1, none⟩ v (by simp)).trans hm
set_option maxHeartbeats 1000000 in
theorem spend_any' {B : Nat} {M I : Nat → Prop} {d : Nat} {s : DS} (w : World) (h : DiskAt B w M I d s) (hst : s.steps ≤ 1000000000) :
    Calls Tryd.prog 39 #[.pointer (some ⟨d, 0, none⟩)] w (fun e w' => e = .returned (.int .i64 (if s.left = 0 then 8 else 0)) ∧ DiskAt B w' M I d s.spend ∧ w.grownBy w' (some d) ∧ CellKept d w w') := by
  obtain ⟨lb, lcap, mb, wo, wcap, _, _, _, c3, _, c5⟩ := h.cells
  have f3 := h.fz 3
  have f4 := h.fz 4
  have f5 := h.fz 5
  have hok := h.sok
  have H := Lib.hid h
  obtain ⟨L, W, left, off, steps⟩ := s
  obtain ⟨hk1, hk2, hle, hge⟩ := hok
  simp only at c3 c5 hst hle hge
  have HK := Lib.hid (And.intro hk1 hk2)
  clear h hk1 hk2
  go_enter Tryd.func39, Tryd.ntmps39
  by_cases h0 : left = 0
  · subst h0
    go_wp2_with fail
    go_returns
    refine ⟨rfl, ?_⟩
    have := H.out.setHead 4 (.bool true) (DS.spend ⟨L, W, 0, off, steps⟩) rfl rfl ⟨HK.out.1, HK.out.2, by simp [DS.spend], by simp [DS.spend]⟩ (fun a b c => by simp [DS.spend])
    exact ⟨this.1, this.2, cellKept_set _ _ _ _ (by decide)⟩
  · have h0' : (left == 0) = false := by simp [h0]
    by_cases hp : 0 < left
    · go_wp2_with fail
      go_returns
      have h1 := H.out.setHead 3 (.int .i64 (left - 1)) ⟨L, W, left - 1, off, steps⟩ rfl rfl ⟨HK.out.1, HK.out.2, by simp only; omega, by simp only; omega⟩ (fun a b c => by simp)
      have h2 := h1.1.setHead 5 (.int .i64 ((steps : Int) + 1)) (DS.spend ⟨L, W, left, off, steps⟩) (by simp [DS.spend, h0]) (by simp [DS.spend, h0]) ⟨by simp only [DS.spend, if_neg h0]; exact HK.out.1, by simp only [DS.spend, if_neg h0]; exact HK.out.2, by simp only [DS.spend, if_neg h0, if_pos hp]; omega, by simp only [DS.spend, if_neg h0, if_pos hp]; omega⟩ (fun a b c => by simp [DS.spend, h0, hp])
      exact ⟨by simp, h2.1, grown_trans0 h1.2 h2.2, fun m hm => cellKept_set _ _ _ _ (by decide) m (cellKept_set _ _ _ _ (by decide) m hm)⟩
    · go_wp2_with fail
      go_returns
      have hp : ¬ 0 < left := by omega
      have h2 := H.out.setHead 5 (.int .i64 ((steps : Int) + 1)) (DS.spend ⟨L, W, left, off, steps⟩) (by simp [DS.spend, h0]) (by simp [DS.spend, h0]) ⟨by simp only [DS.spend, if_neg h0]; exact HK.out.1, by simp only [DS.spend, if_neg h0]; exact HK.out.2, by simp only [DS.spend, if_neg h0, if_neg hp]; omega, by simp only [DS.spend, if_neg h0, if_neg hp]; omega⟩ (fun a b c => by simp [DS.spend, h0, hp])
      exact ⟨by simp, h2.1, h2.2, cellKept_set _ _ _ _ (by decide)⟩

theorem spend_any {B : Nat} {M I : Nat → Prop} {d : Nat} {s : DS} (w : World) (h : DiskAt B w M I d s) (hst : s.steps ≤ 1000000000) :
    Calls Tryd.prog 39 #[.pointer (some ⟨d, 0, none⟩)] w (fun e w' => e = .returned (.int .i64 (if s.left = 0 then 8 else 0)) ∧ DiskAt B w' M I d s.spend ∧ w.grownBy w' (some d)) :=
  (spend_any' w h hst).mono fun _ _ ⟨h1, h2, h3, _⟩ => ⟨h1, h2, h3⟩

set_option maxHeartbeats 400000 in
theorem clone_any (ao : Option Addr) (l : List UInt8) (n cap : Nat) (hn : n = l.length) (hm : l.length ≤ 70368744177664) (w : World) (hat : At w ao (bytesV l)) :
    Calls Tryd.prog 37 #[.slice ao n cap] w (NewBytes w l) := by
  subst hn
  have HA := Lib.hid hat
  go_enter Tryd.func37, Tryd.ntmps37
  rcases ao with _ | a
  · have hl : l = [] := by
      rcases HA.out with h | ⟨b, o, h, _⟩
      · simpa [bytesV] using h
      · cases h
    subst hl
    have heq := Lib.run_eql_slice_nil_nil (P := Tryd.prog) w 0 cap Tryd.underlying40
    simp only [List.length_nil] at *
    go_wp2_with fail
    go_ret
    exact ⟨none, 0, rfl, World.ownsRow_nil _ _ _ _, Below.refl _ _⟩
  · have heq := Lib.run_eql_slice_some_nil (P := Tryd.prog) w a l.length cap Tryd.underlying40
    go_wp2_with (at_builtin; refine app_bytes rfl _ _ rfl w.heap.size (some ⟨w.heap.size, 0, none⟩) 0 [] 0 rfl (by exact World.ownsRow_lit w #[] 0 (Nat.le_refl _) (by decide) rfl) _ _ cap l rfl (HA.out.below ((Below.refl _ _).alloc (Nat.le_refl _) _)) rfl (by omega) (by simp) ?_; rintro co capc w1 ⟨q1, q2, q3⟩)
    go_ret
    have hb1 : Below w.heap.size w w1 := ((Below.refl _ w).alloc (Nat.le_refl _) _).trans (below_grown (B := w.heap.size) (w := w.alloc (.cells #[] 5)) (ao := some ⟨w.heap.size, 0, none⟩) (m := 0) (cap := 0) (e := 5) (size := 1) (n := 0) (xs := []) (World.ownsRow_lit w #[] 0 (Nat.le_refl _) (by decide) rfl) (by simp) q2)
    refine ⟨co, capc, by simp, by simpa using q1, hb1⟩

/-- A copy of a sector's bytes is a sector. -/
theorem secV_new {w0 w : World} {ao : Option Addr} {cap : Nat} {b : List UInt8} (hb : b.length = 512) (hown : w.ownsRow w0.heap.size 5 1 (.slice ao 512 cap) 512 (bytesV b)) (I : Nat → Prop) : ∃ g, ao = some ⟨g, 0, none⟩ ∧ w0.heap.size ≤ g ∧ g < w.heap.size ∧ SecV w (fun i => I i ∨ i = g) (.slice ao 512 cap) b := by
  have hat := At.own hown
  have hcap : 512 ≤ cap := by
    obtain ⟨_, _, e, h⟩ := owns_form hown
    cases e; exact h
  rcases hown.2 with ⟨h, _⟩ | ⟨g, cap', cur, hv, _⟩
  · cases h
  · cases hv
    have hlt := hown.lt g rfl
    exact ⟨g, rfl, hlt.1, hlt.2, g, cap, rfl, hb, hcap, hat, .inr rfl, hlt.2⟩

set_option maxRecDepth 100000 in
set_option maxHeartbeats 400000 in
theorem bare_any {I : Nat → Prop} (v : Value) (o : Option (List UInt8)) (w : World) (h : LastV w I v o) :
    Calls Tryd.prog 59 #[v] w (NewBytes w (o.getD zeros)) := by
  cases o with
  | none =>
    have hv : v = .slice none 0 0 := h
    subst hv
    have heq := Lib.run_eql_slice_nil_nil (P := Tryd.prog) w 0 0 Tryd.underlying40
    go_enter Tryd.func59, Tryd.ntmps59
    go_wp2_with (refine op_make rfl _ _ rfl 512 rfl rfl (by decide) ?_; rintro w1 q1 q2)
    go_ret
    exact ⟨_, 512, rfl, q1, grown_below q2⟩
  | some b =>
    obtain ⟨g, cap, rfl, hb, hc, hat, _⟩ : SecV w I v b := h
    have heq := Lib.run_eql_slice_some_nil (P := Tryd.prog) w ⟨g, 0, none⟩ 512 cap Tryd.underlying40
    have HA := Lib.hid (And.intro hat hb)
    clear hat hb
    go_enter Tryd.func59, Tryd.ntmps59
    go_wp2_with fail
    refine (clone_any _ b 512 cap HA.out.2.symm (by rw [HA.out.2]; decide) w HA.out.1).mono ?_
    rintro e w1 ⟨ao, c, rfl, h1, h2⟩
    have H1 := Lib.hid (And.intro h1 h2)
    clear h1 h2
    go_wp2_with fail
    go_ret
    exact ⟨ao, c, rfl, H1.out.1, H1.out.2⟩

end Go.Proofs.YtpeehagaiofobaaDoor
