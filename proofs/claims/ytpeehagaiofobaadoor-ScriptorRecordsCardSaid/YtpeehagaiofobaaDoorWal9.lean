/- The walk of a log's Append. -/
import Derived.Test.YtpeehagaiofobaaDoorWal8
namespace Go.Proofs.YtpeehagaiofobaaDoor
open Go.RowKit Go.Shelf
attribute [local go_sem] Oper.semAt_some

def isRow (w : World) (k : Nat) : Prop := ∃ cs t fr, w.heap[k]? = some (.cells cs t fr)
theorem cell_row {w : World} {a : Addr} {v : Value} (h : w.cell? a = some v) : isRow w a.block := by
  unfold World.cell? at h
  split at h
  · rename_i c t fr hc; exact ⟨c, t, fr, hc⟩
  · cases h
theorem isRow.keep {w w' : World} {k : Nat} (h : isRow w k) (hk : w'.heap[k]? = w.heap[k]?) : isRow w' k := by
  obtain ⟨c, t, fr, h⟩ := h
  exact ⟨c, t, fr, hk.trans h⟩
theorem isRow.lt {w : World} {k : Nat} (h : isRow w k) : k < w.heap.size := by
  obtain ⟨c, t, fr, h⟩ := h
  exact (Array.getElem?_eq_some_iff.1 h).1
theorem SecV.restrict {w : World} {I : Nat → Prop} {v : Value} {b : List UInt8} (h : SecV w I v b) : SecV w (fun k => I k ∧ isRow w k) v b := by
  obtain ⟨g, cap, h1, h2, h3, h4, h5, h6⟩ := h
  refine ⟨g, cap, h1, h2, h3, h4, ⟨h5, ?_⟩, h6⟩
  obtain ⟨b', o, e, hc⟩ := h4.exv 0 (by rw [bytesV_length, h2]; decide)
  cases e
  exact cell_row hc
theorem DiskAt.restrict {B : Nat} {w : World} {M I : Nat → Prop} {d : Nat} {s : DS} (h : DiskAt B w M I d s) : DiskAt B w M (fun k => I k ∧ isRow w k) d s := by
  obtain ⟨lb, lcap, mb, wo, wcap, lc, f, xs, hd, hb, hB, h1, h2, h3, h4, h5, h6⟩ := h
  refine ⟨lb, lcap, mb, wo, wcap, lc, f, xs, hd, ?_, hB, h1, h2, h3, fun h => h4 h.1, h5, h6⟩
  exact {
    lasts := hb.lasts
    lasts2 := hb.lasts2.mono fun a o _ ho => by
      cases o with
      | none => exact ho
      | some b => exact SecV.restrict ho
    map := hb.map
    mapB := hb.mapB
    now := fun z => by
      have := hb.now z
      cases hl : lastW s.W z with
      | none => rw [hl] at this; exact this
      | some b =>
        rw [hl] at this
        obtain ⟨v, hv, hs⟩ := this
        exact ⟨v, hv, hs.restrict⟩
    waits := hb.waits
    waits2 := hb.waits2.mono fun a p _ ⟨v, hv, hs⟩ => ⟨v, hv, hs.restrict⟩
    imm := fun b hb' => hb.imm b hb'.1
    lm := hb.lm
    wl := hb.wl
    wm := hb.wm
    il := fun h => hb.il h.1
    iM := fun h => hb.iM h.1
    iw := fun b hb' h => hb.iw b hb' h.1 }
/-- Of the disk's blocks all but the map hold cells. -/
theorem DiskAt.kinds {B : Nat} {w : World} {M I : Nat → Prop} {d mb : Nat} {s : DS} (h : DiskAt B w M I d s) (hc : w.cell? ⟨d, 1, none⟩ = some (.map (some mb))) : ∀ k, M k → isRow w k ∨ k = mb := by
  obtain ⟨lb, lcap, mb', wo, wcap, lc, f, xs, hd, hb, hB, h1, h2, h3, h4, h5, h6⟩ := h
  have h0 : w.cell? ⟨d, 1, none⟩ = some (.map (some mb')) := cell_of_row _ d 1 _ _ (0, 0) hd
  rw [hc] at h0
  cases h0
  intro k hk
  have own : ∀ {e : TypeId} {size : Nat} {v : Value} {n : Nat} {ys : List Value}, w.ownsRow B e size v n ys → v.ownBlock = some k → isRow w k := by
    intro e size v n ys ho hv
    rcases ho.2 with ⟨rfl, _⟩ | ⟨g, cap, cur, rfl, _, hg, _⟩
    · cases hv
    · cases hv
      exact ⟨_, _, _, hg⟩
  rcases (h6 k).1 hk with rfl | rfl | rfl | hw
  · exact .inl ⟨_, _, _, hd⟩
  · exact .inl (own hb.lasts rfl)
  · exact .inr rfl
  · exact .inl (own hb.waits (by rw [own_slice]; exact hw))
theorem DiskAt.mapOf {B : Nat} {w : World} {M I : Nat → Prop} {d : Nat} {s : DS} (h : DiskAt B w M I d s) : ∃ mb, w.cell? ⟨d, 1, none⟩ = some (.map (some mb)) ∧ M mb := by
  obtain ⟨lb, lcap, mb, wo, wcap, lc, f, xs, hd, hb, hB, h1, h2, h3, h4, h5, h6⟩ := h
  exact ⟨mb, cell_of_row _ d 1 _ _ (0, 0) hd, (h6 mb).2 (by simp)⟩

/-- The writes of so many parts, in whatever order they came. -/
def wof (f at_ : Nat) (b : List UInt8) (pre : List Nat) : List (Nat × List UInt8) := pre.zipIdx.map fun p => (f + at_ + 1 + p.2, secP b p.1)
theorem wof_snoc (f at_ : Nat) (b : List UInt8) (pre : List Nat) (x : Nat) : wof f at_ b (pre ++ [x]) = wof f at_ b pre ++ [(f + at_ + 1 + pre.length, secP b x)] := by
  simp [wof, List.zipIdx_append]
theorem wof_range (f at_ : Nat) (b : List UInt8) : ∀ m, wof f at_ b (List.range m) = partsW f at_ b m
  | 0 => rfl
  | m + 1 => by rw [List.range_succ, wof_snoc, wof_range f at_ b m, partsW_succ, List.length_range]
theorem writes_stop : ∀ (l m : List (Nat × List UInt8)) (s : DS), (s.writes l).1 ≠ 0 → s.writes (l ++ m) = s.writes l
  | [], m, s, h => by simp [DS.writes] at h
  | p :: l, m, s, h => by
    rw [List.cons_append, DS.writes, DS.writes]
    by_cases h0 : (s.write p.1 p.2).1 = 0
    · rw [if_pos h0, if_pos h0]
      refine writes_stop l m _ ?_
      rw [DS.writes, if_pos h0] at h
      exact h
    · rw [if_neg h0, if_neg h0]
theorem partsW_split (f at_ : Nat) (b : List UInt8) (k : Nat) : ∀ m, k ≤ m → ∃ r, partsW f at_ b m = partsW f at_ b k ++ r
  | 0, h => ⟨[], by obtain rfl : k = 0 := by omega
                    simp⟩
  | m + 1, h => by
    by_cases hk : k = m + 1
    · exact ⟨[], by rw [hk]; simp⟩
    · obtain ⟨r, hr⟩ := partsW_split f at_ b k m (by omega)
      exact ⟨r ++ [_], by rw [partsW_succ, hr, List.append_assoc]⟩
theorem writes_bounds : ∀ (ps : List (Nat × List UInt8)) (s : DS), (s.writes ps).2.steps ≤ s.steps + ps.length ∧ (s.writes ps).2.W.length ≤ s.W.length + ps.length
  | [], s => by simp [DS.writes]
  | p :: ps, s => by
    have h1 := write_steps s p.1 p.2
    rw [DS.writes]
    split
    · have h2 := writes_bounds ps (s.write p.1 p.2).2
      simp only [List.length_cons]
      omega
    · simp only [List.length_cons]
      omega
theorem wof_length (f at_ : Nat) (b : List UInt8) (pre : List Nat) : (wof f at_ b pre).length = pre.length := by simp [wof]

/-- In the midst of Append's loop: 'e': what the result's variable holds. -/
def LoopP (B : Nat) (wL : World) (M I : Nat → Prop) (d bt4 n5 : Nat) (f at_ : Nat) (s : DS) (b : List UInt8) (e : Nat) (pre : List Nat) (W : World) : Prop :=
  ∃ M' I' mb, DiskAt B W M' I' d (s.writes (wof f at_ b pre)).2 ∧ (s.writes (wof f at_ b pre)).1 = e ∧ (∀ k, M' k → M k ∨ wL.heap.size ≤ k) ∧ (∀ k, I' k → (I k ∨ wL.heap.size ≤ k) ∧ isRow W k) ∧
    Keeps (fun i => M i ∨ i = n5 ∨ i = bt4 ∨ wL.heap.size ≤ i) wL W ∧ W.cell? ⟨d, 1, none⟩ = some (.map (some mb)) ∧ mb < wL.heap.size ∧
    W.heap[n5]? = some (.cells #[.int .i64 (pre.length : Int)] 3 (0, 0)) ∧ W.heap[bt4]? = some (.cells #[.int .i64 (e : Int)] 25 (0, 0))

theorem loopP_own {B : Nat} {wL : World} {M I : Nat → Prop} {d bt4 n5 : Nat} {f at_ : Nat} {s : DS} {b : List UInt8} (e : Nat) (h5 : n5 < wL.heap.size) (h4 : bt4 < wL.heap.size) (hd : d < wL.heap.size) : OwnFrom wL.heap.size (fun pre W => LoopP B wL M I d bt4 n5 f at_ s b e pre W) := by
  rintro pre W W' row ⟨M', I', mb, h1, h2, h3, h4', h5', h6, h7, h8, h9⟩ hg hrow
  have hr : ∀ r, row = some r → ¬ M' r ∧ ¬ isRow W r ∧ wL.heap.size ≤ r := by
    intro r hr
    obtain ⟨hB, o, ho, hc⟩ := hrow r hr
    have hnr : ¬ isRow W r := by
      rintro ⟨c, t, fr, h⟩
      rw [ho] at h
      cases h
      cases hc
    refine ⟨fun hm => ?_, hnr, hB⟩
    rcases h1.kinds h6 r hm with h | h
    · exact hnr h
    · omega
  have K : Keeps (fun i => row = some i) W W' := Keeps.of_grown' hg fun g hg => hg
  refine ⟨M', I', mb, h1.keeps K (fun k hk e => (hr k e).1 hk) (fun k hk e => (hr k e).2.1 (h4' k hk).2), h2, h3, fun k hk => ⟨(h4' k hk).1, (h4' k hk).2.keep (K.block k (h4' k hk).2.lt fun e => (hr k e).2.1 (h4' k hk).2)⟩,
    h5'.trans K (fun i hi e => .inr (.inr (.inr (hr i e).2.2))), keeps_cell K (fun e => by have := (hr d e).2.2; omega) h6, h7, ?_, ?_⟩
  · rw [K.block n5 (Array.getElem?_eq_some_iff.1 h8).1 (fun e => by have := (hr n5 e).2.2; omega)]; exact h8
  · rw [K.block bt4 (Array.getElem?_eq_some_iff.1 h9).1 (fun e => by have := (hr bt4 e).2.2; omega)]; exact h9

end Go.Proofs.YtpeehagaiofobaaDoor
