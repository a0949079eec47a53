/- The walk of the law's matches. -/
import Derived.Test.YtnhdefaagicejaaMatG
namespace Go.Proofs.Ytnhdefaagicejaa
set_option linter.unusedSimpArgs false
set_option linter.unusedVariables false
open Go.RowKit

/-- The rows of matches. -/
def mP : List PV := [.mk 5 0 [] [], .mk 5 1 [] [.mk 2 5 [] [], .mk 0 0 [] []], .mk 0 0 [] []]
def mV (n : Int) : PV := .mk 3 1 [] [.mk 0 n [] [], .mk 6 0 [] []]
theorem mP_right : rightPs mP = true := by simp [mP, rightPs, rightP]
theorem mP_steps : stepsM mP = 8 := by simp [mP, stepsM, initR, openP, measM, sizeC, sizeV, sizeVs, PV.kind]
theorem mP_cnt : cntM (stepsM mP) (initR 0 mP) ≤ 200000 := by
  rw [mP_steps]
  simp [mP, initR, openP, PV.kind, PV.num, PV.kids, PV.text, cntM, testsOf, addTest, atR, testP, takeRows, takeR, takeC, cellC, restRows, kidCells, List.filter_cons]
theorem mP_first5 : firstR (mV 5) (initR 0 mP) = 1 := by
  rw [first_init]
  simp [mP, mV, firstP, fitsM, fitsMs, holdsT, testP, PV.kind, PV.num, PV.kids, PV.text]
theorem mP_first6 : firstR (mV 6) (initR 0 mP) = 2 := by
  rw [first_init]
  simp [mP, mV, firstP, fitsM, fitsMs, holdsT, testP, PV.kind, PV.num, PV.kids, PV.text]
theorem VsIn.of_at {w : World} {D : Nat → Prop} {n b : Nat} {rows : List (List Value)} {xs : List PV} (h : At w (some ⟨b, 0, none⟩) rows.flatten) (hD : D b) (h2 : All2 (fun r x => VIn w D n r x) rows xs) : VsIn w D n (some ⟨b, 0, none⟩) xs :=
  ⟨rows, rowsAt_of_flatk (by decide) h (All2.lenk (elemV n) h2), fun _ b' hb => by cases hb; exact hD, h2⟩
theorem VIn.flat (w : World) (D : Nat → Prop) (n : Nat) (k m : Int) (hk : R64 k) (hm : R64 m) : VIn w D (n + 1) [.int .i64 k, .int .i64 m, .string ⟨#[]⟩, .slice none 0 0] (.mk k m [] []) :=
  VIn.row.2 ⟨none, 0, rfl, Nat.le_refl _, ⟨by decide, hk, hm, by decide⟩, VsIn.nil _ _ _ _⟩
theorem r64_small (k : Int) (h0 : 0 ≤ k) (h1 : k ≤ 100) : R64 k := by unfold R64; omega
/-- The rows of matches, in memory. -/
theorem mP_in (w : World) (t : TypeId) : ∀ W, (w.alloc (.cells #[.int .i64 2, .int .i64 5, .string ⟨#[]⟩, .slice none 0 0, .int .i64 0, .int .i64 0, .string ⟨#[]⟩, .slice none 0 0] t)).alloc (.cells #[.int .i64 5, .int .i64 0, .string ⟨#[]⟩, .slice none 0 0, .int .i64 5, .int .i64 1, .string ⟨#[]⟩, .slice (some ⟨w.heap.size, 0, none⟩) 2 2, .int .i64 0, .int .i64 0, .string ⟨#[]⟩, .slice none 0 0] t) = W →
    VsIn W (fun b => w.heap.size ≤ b ∧ b < W.heap.size) 3 (some ⟨w.heap.size + 1, 0, none⟩) mP ∧ Below w.heap.size w W := by
  intro W hW
  have hb : Below w.heap.size w W := by rw [← hW]; exact ((Below.refl _ w).alloc (Nat.le_refl _) _).alloc (by simp) _
  have hs : W.heap.size = w.heap.size + 2 := by rw [← hW]; simp
  have h1 : At W (some ⟨w.heap.size, 0, none⟩) [.int .i64 2, .int .i64 5, .string ⟨#[]⟩, .slice none 0 0, .int .i64 0, .int .i64 0, .string ⟨#[]⟩, .slice none 0 0] := by
    rw [← hW]
    exact (At.new w #[.int .i64 2, .int .i64 5, .string ⟨#[]⟩, .slice none 0 0, .int .i64 0, .int .i64 0, .string ⟨#[]⟩, .slice none 0 0] t).below ((Below.refl _ _).alloc (Nat.le_refl _) _)
  have h2 : At W (some ⟨w.heap.size + 1, 0, none⟩) [.int .i64 5, .int .i64 0, .string ⟨#[]⟩, .slice none 0 0, .int .i64 5, .int .i64 1, .string ⟨#[]⟩, .slice (some ⟨w.heap.size, 0, none⟩) 2 2, .int .i64 0, .int .i64 0, .string ⟨#[]⟩, .slice none 0 0] := by
    rw [← hW]
    have := At.new (w.alloc (.cells #[.int .i64 2, .int .i64 5, .string ⟨#[]⟩, .slice none 0 0, .int .i64 0, .int .i64 0, .string ⟨#[]⟩, .slice none 0 0] t)) #[.int .i64 5, .int .i64 0, .string ⟨#[]⟩, .slice none 0 0, .int .i64 5, .int .i64 1, .string ⟨#[]⟩, .slice (some ⟨w.heap.size, 0, none⟩) 2 2, .int .i64 0, .int .i64 0, .string ⟨#[]⟩, .slice none 0 0] t
    simp only [World.size_alloc] at this
    exact this
  refine ⟨VsIn.of_at (rows := [[.int .i64 5, .int .i64 0, .string ⟨#[]⟩, .slice none 0 0], [.int .i64 5, .int .i64 1, .string ⟨#[]⟩, .slice (some ⟨w.heap.size, 0, none⟩) 2 2], [.int .i64 0, .int .i64 0, .string ⟨#[]⟩, .slice none 0 0]]) h2 ⟨by omega, by omega⟩ (((All2.nil.snoc (VIn.flat _ _ _ _ _ (r64_small _ (by decide) (by decide)) (r64_small _ (by decide) (by decide)))).snoc ?_).snoc (VIn.flat _ _ _ _ _ (r64_small _ (by decide) (by decide)) (r64_small _ (by decide) (by decide)))), hb⟩
  exact VIn.row.2 ⟨some ⟨w.heap.size, 0, none⟩, 2, rfl, Nat.le_refl _, ⟨by decide, r64_small _ (by decide) (by decide), r64_small _ (by decide) (by decide), by decide⟩, VsIn.of_at (rows := [[.int .i64 2, .int .i64 5, .string ⟨#[]⟩, .slice none 0 0], [.int .i64 0, .int .i64 0, .string ⟨#[]⟩, .slice none 0 0]]) h1 ⟨by omega, by omega⟩ ((All2.nil.snoc (VIn.flat _ _ _ _ _ (r64_small _ (by decide) (by decide)) (r64_small _ (by decide) (by decide)))).snoc (VIn.flat _ _ _ _ _ (r64_small _ (by decide) (by decide)) (r64_small _ (by decide) (by decide))))⟩
/-- The value of matches, in memory: its parts in the block b. -/
theorem mV_in {w : World} {b : Nat} {n : Int} {t : TypeId} {D : Nat → Prop} (h : w.heap[b]? = some (.cells #[.int .i64 0, .int .i64 n, .string ⟨#[]⟩, .slice none 0 0, .int .i64 6, .int .i64 0, .string ⟨#[]⟩, .slice none 0 0] t (0, 0))) (hn : R64 n) (hD : D b) :
    VIn w D 3 [.int .i64 3, .int .i64 1, .string ⟨#[]⟩, .slice (some ⟨b, 0, none⟩) 2 2] (mV n) := by
  have h1 : At w (some ⟨b, 0, none⟩) [.int .i64 0, .int .i64 n, .string ⟨#[]⟩, .slice none 0 0, .int .i64 6, .int .i64 0, .string ⟨#[]⟩, .slice none 0 0] := by
    refine .inr ⟨b, 0, rfl, fun j v hj => ?_⟩
    have hjl : j < 8 := by
      rcases Nat.lt_or_ge j 8 with h | h
      · exact h
      · rw [List.getElem?_eq_none (by simpa using h)] at hj
        cases hj
    have := cell_of_row w b j _ _ (0, 0) h
    rw [Nat.zero_add, this]
    rw [← hj]
    rcases (by omega : j = 0 ∨ j = 1 ∨ j = 2 ∨ j = 3 ∨ j = 4 ∨ j = 5 ∨ j = 6 ∨ j = 7) with rfl | rfl | rfl | rfl | rfl | rfl | rfl | rfl <;> rfl
  exact VIn.row.2 ⟨some ⟨b, 0, none⟩, 2, rfl, Nat.le_refl _, ⟨by decide, r64_small _ (by decide) (by decide), r64_small _ (by decide) (by decide), by decide⟩, VsIn.of_at (rows := [[.int .i64 0, .int .i64 n, .string ⟨#[]⟩, .slice none 0 0], [.int .i64 6, .int .i64 0, .string ⟨#[]⟩, .slice none 0 0]]) h1 hD ((All2.nil.snoc (VIn.flat _ _ _ _ _ (r64_small _ (by decide) (by decide)) hn)).snoc (VIn.flat _ _ _ _ _ (r64_small _ (by decide) (by decide)) (r64_small _ (by decide) (by decide))))⟩
theorem TreeIn.below' {w w' : World} {D : Nat → Prop} {d p : Nat} {cs : List Value} {t : TreeM} (h : TreeIn w D d cs t) (hb : Below p w w') (hp : w.heap.size = p) : TreeIn w' D d cs t := by
  rw [← hp] at hb
  exact h.keeps (Keeps.of_below (X := fun _ => False) hb) (fun _ _ h => h)
set_option maxRecDepth 100000 in
set_option maxHeartbeats 8000000 in
theorem matches_any (w : World) : Calls Try.prog 7 #[] w (fun e w' => e = .returned (.bool true) ∧ Below w.heap.size w w') := by
  go_enter Try.func7, Try.ntmps7
  go_wp2_with fail
  obtain ⟨W, hW⟩ : ∃ W, (w.alloc (.cells #[.int .i64 2, .int .i64 5, .string ⟨#[]⟩, .slice none 0 0, .int .i64 0, .int .i64 0, .string ⟨#[]⟩, .slice none 0 0] 50)).alloc (.cells #[.int .i64 5, .int .i64 0, .string ⟨#[]⟩, .slice none 0 0, .int .i64 5, .int .i64 1, .string ⟨#[]⟩, .slice (some ⟨w.heap.size, 0, none⟩) 2 2, .int .i64 0, .int .i64 0, .string ⟨#[]⟩, .slice none 0 0] 50) = W := ⟨_, rfl⟩
  have h2 := mP_in w _ W hW
  rw [hW]
  have hcomp : Calls Try.prog 15 #[.slice (some ⟨w.heap.size + 1, 0, none⟩) 3 3] W (Compiles W _ mP) := compile_any (pcap := 3) h2.1 (fun b hb => hb.2) (by decide) (fun p hp => by
    simp only [mP, List.mem_cons, List.not_mem_nil, or_false] at hp
    rcases hp with rfl | rfl | rfl <;> simp [sizeV, sizeVs])
  have H := Lib.hid (And.intro hcomp h2.2)
  clear hW h2 hcomp
  refine H.out.1.mono ?_
  rintro e w5 ⟨hb5, hres⟩
  obtain ⟨cs, rfl, ht⟩ : ∃ cs, e = .returned (.tuple #[.agg cs.toArray, .int .i64 0]) ∧ TreeIn w5 _ (stepsM mP) cs (buildM (stepsM mP) (initR 0 mP)) := by
    rcases hres with ⟨h, _⟩ | ⟨_, h, _⟩ | ⟨_, cs, h⟩
    · rw [mP_right] at h; cases h
    · have := mP_cnt; omega
    · exact ⟨cs, h⟩
  obtain ⟨y0, y1, y2o, y2n, y2c, y3o, y3n, y3c, y4o, y4n, y4c, rfl⟩ := ht.val
  clear hres
  go_upto_region 3 with (fail)
  obtain ⟨p, hp⟩ : ∃ p, w5.heap.size = p := ⟨_, rfl⟩
  have h3 := three w5 (.cells #[.bool y0, .int .i64 y1, .slice y2o y2n y2c, .slice y3o y3n y3c, .slice y4o y4n y4c] 29) (.cells #[.int .i64 0, .int .i64 5, .string ⟨#[]⟩, .slice none 0 0, .int .i64 6, .int .i64 0, .string ⟨#[]⟩, .slice none 0 0] 34) (.cells #[.int .i64 3, .int .i64 1, .string ⟨#[]⟩, .slice (some ⟨w5.heap.size + 1, 0, none⟩) 2 2] 34)
  obtain ⟨w8, hw8⟩ : ∃ w8, ((w5.alloc (.cells #[.bool y0, .int .i64 y1, .slice y2o y2n y2c, .slice y3o y3n y3c, .slice y4o y4n y4c] 29)).alloc (.cells #[.int .i64 0, .int .i64 5, .string ⟨#[]⟩, .slice none 0 0, .int .i64 6, .int .i64 0, .string ⟨#[]⟩, .slice none 0 0] 34)).alloc (.cells #[.int .i64 3, .int .i64 1, .string ⟨#[]⟩, .slice (some ⟨w5.heap.size + 1, 0, none⟩) 2 2] 34) = w8 := ⟨_, rfl⟩
  rw [hw8] at h3 ⊢
  clear hw8
  rw [hp] at h3 ⊢
  obtain ⟨hs8, hb8, hT8, hk8, hv8⟩ := h3
  have ht8 := ht.below' hb8 hp
  have hrun := run_any (rows := initR 0 mP) (N := stepsM mP) ht8 (fun b hb => by have := hb.2; omega) (mV_in (n := 5) (D := fun b => p ≤ b ∧ b < p + 3) hk8 (r64_small _ (by decide) (by decide)) ⟨by omega, by omega⟩) (fun b hb => by have := hb.2; omega) (RunI.first (by unfold stepsM; omega) (inv_init _ (rightPs_get mP_right))) (by rw [mP_steps]; decide) (by simp [mV, sizeV, sizeVs])
  have hT8' : TreeAt w8 p (.bool y0) (.int .i64 y1) (.slice y2o y2n y2c) (.slice y3o y3n y3c) (.slice y4o y4n y4c) := hT8
  have hv8' : Row4 w8 (p + 1 + 1) 34 3 1 [] (some ⟨p + 1, 0, none⟩) 2 2 := hv8
  obtain ⟨x0, x1, x2, x3, x4, -⟩ := hT8'.cells
  obtain ⟨z0, z1, z2, z3⟩ := hv8'.pat
  have H8 := Lib.hid (And.intro hrun (And.intro hs8 (And.intro hb8 (And.intro hT8' (And.intro hk8 (And.intro hv8' (And.intro ht8 (And.intro hb5 hp))))))))
  clear hrun hs8 hb8 hT8 hT8' hk8 hv8 hv8' ht8 ht hb5 hp
  go_wp2_with fail
  refine H8.out.1.mono ?_
  rintro e w9 ⟨hb9, asked, ao, cap, rfl, _⟩
  rw [mP_first5]
  have hs9 := hb9.size
  have hk9 : w9.heap[p + 1]? = some (.cells #[.int .i64 0, .int .i64 5, .string ⟨#[]⟩, .slice none 0 0, .int .i64 6, .int .i64 0, .string ⟨#[]⟩, .slice none 0 0] 34 (0, 0)) := (hb9.block _ (by have := H8.out.2.1; omega)).trans H8.out.2.2.2.2.1
  have hf9 := fun j => frozen_of_row w9 _ j _ _ hk9
  have hc9 := cell_of_row w9 _ 1 _ _ (0, 0) hk9
  simp only [List.getElem?_toArray, List.getElem?_cons_succ, List.getElem?_cons_zero] at hc9
  have hv9 := H8.out.2.2.2.2.2.1.keeps (Keeps.of_below (X := fun _ => False) hb9) (fun h => h)
  have hT9 := H8.out.2.2.2.1.keeps (Keeps.of_below (X := fun _ => False) hb9) (fun h => h)
  have ht9 := H8.out.2.2.2.2.2.2.1.keeps (Keeps.of_below (X := fun _ => False) hb9) (fun _ _ h => h)
  obtain ⟨w10, hw10⟩ : ∃ w10, w9.setCell ⟨p + 1, 1, none⟩ (.int .i64 6) = w10 := ⟨_, rfl⟩
  have hk910 : Keeps (fun b => b = p + 1) w9 w10 := by rw [← hw10]; exact keep1 (X := fun b => b = p + 1) w9 rfl _
  have hk10 : w10.heap[p + 1]? = some (.cells #[.int .i64 0, .int .i64 6, .string ⟨#[]⟩, .slice none 0 0, .int .i64 6, .int .i64 0, .string ⟨#[]⟩, .slice none 0 0] 34 (0, 0)) := by rw [← hw10]; exact setCell_row0 1 (.int .i64 6) hk9
  have hv10 := hv9.keeps hk910 (by omega)
  have hT10 := hT9.keeps hk910 (by omega)
  have ht10 := ht9.keeps hk910 (fun b hb h => by have := hb.2; have := H8.out.2.2.2.2.2.2.2.2; omega)
  have hs10 := hk910.size
  have hrun := run_any (rows := initR 0 mP) (N := stepsM mP) ht10 (fun b hb => by have := hb.2; have := H8.out.2.1; have := H8.out.2.2.2.2.2.2.2.2; omega) (mV_in (n := 6) (D := fun b => p ≤ b ∧ b < p + 3) hk10 (r64_small _ (by decide) (by decide)) ⟨by omega, by omega⟩) (fun b hb => by have := hb.2; have := H8.out.2.1; omega) (RunI.first (by unfold stepsM; omega) (inv_init _ (rightPs_get mP_right))) (by rw [mP_steps]; decide) (by simp [mV, sizeV, sizeVs])
  obtain ⟨u0, u1, u2, u3⟩ := hv9.pat
  have H10 := Lib.hid (And.intro hrun (And.intro hk910 (And.intro hb9 hw10)))
  obtain ⟨x0, x1, x2, x3, x4, -⟩ := hT10.cells
  obtain ⟨z0, z1, z2, z3⟩ := hv10.pat
  clear hrun hk910 hk10 hv10 hT10 ht10 hs10 hv9 hT9 ht9 hw10 hb9 hk9
  go_upto_region 5 with (fail)
  rw [H10.out.2.2.2]
  go_wp2_with fail
  refine H10.out.1.mono ?_
  rintro e w11 ⟨hb11, asked, ao, cap, rfl, _⟩
  rw [mP_first6]
  have H11 := Lib.hid hb11
  clear hb11
  go_wp2_with fail
  go_ret
  have h1 := H8.out.2.2.2.2.2.2.2.1
  have h2 := H8.out.2.2.2.2.2.2.2.2
  have hsW := H.out.2.size
  have hs5 := h1.size
  have hsk := H10.out.2.1.size
  have hs8 := H8.out.2.1
  refine ⟨rfl, H.out.2.trans ((h1.mono hsW).trans (Below.trans (B := w.heap.size) (H8.out.2.2.1.mono (by omega)) ((H10.out.2.2.1.mono (by omega)).trans ((H10.out.2.1.below (fun i hi h => by omega) (by omega)).trans (H11.out.mono (by omega))))))⟩
end Go.Proofs.Ytnhdefaagicejaa
