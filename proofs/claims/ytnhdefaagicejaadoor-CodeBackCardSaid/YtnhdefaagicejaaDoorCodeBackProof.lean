/- THE LAW CodeBack: code in order comes back from its bytes; a beginning of these has another sum. -/
import Derived.Test.YtnhdefaagicejaaDoorCodeL
import Derived.Test.YtnhdefaagicejaaDoorCodeH
import Derived.Test.YtnhdefaagicejaaDoorCodeK
namespace Go.Proofs.YtnhdefaagicejaaDoor.codeBack
set_option linter.unusedSimpArgs false
set_option linter.unusedVariables false
open Go.ChangeShapes Go.WideShapes Go.ChangeAt Go.RowKit Go.ChangeMaps

theorem seq_ldCC {o : Oper} {x : Operand} {a : Act} {w : World} (ho : o.op = .load 35 x) {b f : Nat} {c0 c1 c2 c3 : Value} (hx : a.eval x = .pointer (some ⟨b, f, none⟩)) (hc : w.rangeAt b f [c0, c1, c2, c3]) :
    ∀ w', Below w.heap.size w w' → (execOp a.eval o).run Tryd.prog w' = .ok (.value (.agg #[c0, c1, c2, c3])) w' := by
  intro w' hb
  have hc' : w'.rangeAt b f [c0, c1, c2, c3] := fun j v hv => (World.cell?_of_block (a := ⟨b, f + j, none⟩) (hb.block b (World.block_lt_of_cell? (a := ⟨b, f + j, none⟩) w (hc j v hv)))).trans (hc j v hv)
  unfold execOp
  simp only [ho, hx, run_loadAt_mid w' b f 35 [c0, c1, c2, c3] _ hc' Tryd.underlying35 rfl (by kernel_rfl), Sem.run_bind, Sem.run_pure, Result.andThen_ok]
theorem range4 {w : World} {b : Nat} {v0 v1 v2 v3 : Value} {t : TypeId} (h : w.heap[b]? = some (.cells #[v0, v1, v2, v3] t (0, 0))) : w.rangeAt b 0 [v0, v1, v2, v3] := by
  intro j v hv
  have := cell_of_row w b j _ t (0, 0) h
  rw [Nat.zero_add, this]
  simpa using hv
theorem codeS_len {c : CodeP} (hp : Pre c) (hi : ∀ x ∈ c.ins, R64i x.op ∧ R64i x.a ∧ R64i x.b) (hf : ∀ z ∈ c.funs, R64i z) (h1 : c.ins.length ≤ 60) (h2 : c.strs.length ≤ 10) (h3 : c.funs.length ≤ 8) : (codeS c).length ≤ 1000000 ∧ 0 < (codeS c).length := by
  have a1 := inssB_len c.ins (fun x hx => hi x hx)
  have a2 := strsB_len c.strs (fun t ht => by have := hp.str t ht; omega)
  have a3 := numsB_len c.funs (fun x hx => hf x hx)
  have a4 := enc_len c.ins.length (by omega) (by omega)
  have a5 := enc_len c.strs.length (by omega) (by omega)
  have a6 := enc_len c.funs.length (by omega) (by omega)
  have a7 := enc_len c.glob (by have := hp.g1; omega) (by have := hp.g2; omega)
  have a8 : (four (crc (codeB c))).length = 4 := rfl
  rw [codeS, List.length_append, a8, codeB_len, restB]
  simp only [List.length_append]
  omega
theorem owns_cap {w : World} {base : Nat} {e : TypeId} {size n cap m : Nat} {ao : Option Addr} {xs : List Value} (h : w.ownsRow base e size (.slice ao n cap) m xs) : m ≤ cap := by
  rcases h.2 with ⟨h1, h2⟩ | ⟨g, cp, cur, h1, _, _, h2, _⟩
  · omega
  · cases h1
    exact h2
set_option maxRecDepth 100000 in
set_option maxHeartbeats 8000000 in
theorem walk {w : World} {c : CodeP} {io so fo : Option Addr} {icap scap fcap : Nat} (cut : Int) (hmem : CodeMem w (fun b => b < w.heap.size) c io so fo) (hil : c.ins.length ≤ icap) (hic : icap ≤ 9223372036854775807) (hsl : c.strs.length ≤ scap) (hsc : scap ≤ 9223372036854775807) (hfl : c.funs.length ≤ fcap) (hfc : fcap ≤ 9223372036854775807) (hgl : R64i c.glob) (ht : ShTab w) (htb : Tab w) :
    Calls Tryd.prog 5 #[.agg #[.slice io c.ins.length icap, .slice so c.strs.length scap, .slice fo c.funs.length fcap, .int .i64 c.glob], .int .i64 cut] w (Says w (.bool true)) := by
  obtain ⟨g, hg⟩ : ∃ g, w.heap.size = g := ⟨_, rfl⟩
  obtain ⟨W1, hW1⟩ : ∃ W1, w.alloc (.cells #[.slice io c.ins.length icap, .slice so c.strs.length scap, .slice fo c.funs.length fcap, .int .i64 c.glob] 26) = W1 := ⟨_, rfl⟩
  have hb1 : Below g w W1 := by rw [← hW1, ← hg]; exact (Below.refl _ w).alloc (Nat.le_refl _) _
  have hr1 : W1.heap[g]? = some (.cells #[.slice io c.ins.length icap, .slice so c.strs.length scap, .slice fo c.funs.length fcap, .int .i64 c.glob] 26 (0, 0)) := by rw [← hW1, ← hg]; exact heap_alloc_new w _
  have hs1 : W1.heap.size = g + 1 := by rw [← hW1, ← hg]; simp
  have hm1 : CodeMem W1 (fun b => b < g) c io so fo := (hmem.below (by rw [hg]; exact hb1)).mono (fun b hb => by omega)
  have H := Lib.hid (And.intro hb1 (And.intro hr1 (And.intro hs1 (And.intro hm1 (And.intro hW1 hg)))))
  have HF := Lib.hid (few_any hm1 (fun b hb => by omega) hil hic hsl hsc hfl hfc)
  have HD := Lib.hid (And.intro hgl (And.intro ht htb))
  clear hb1 hr1 hs1 hm1 hW1 hmem ht htb hg hil hic hsl hsc hfl hfc hgl
  go_enter Tryd.func5, Tryd.ntmps5
  go_upto_region 1 with (fail)
  rw [H.out.2.2.2.2.1, H.out.2.2.2.2.2]
  have c0 : W1.cell? ⟨g, 0, none⟩ = some (.slice io c.ins.length icap) := cell_of_row _ _ 0 _ _ (0, 0) H.out.2.1
  have c1 : W1.cell? ⟨g, 1, none⟩ = some (.slice so c.strs.length scap) := cell_of_row _ _ 1 _ _ (0, 0) H.out.2.1
  have c2 : W1.cell? ⟨g, 2, none⟩ = some (.slice fo c.funs.length fcap) := cell_of_row _ _ 2 _ _ (0, 0) H.out.2.1
  have c3 : W1.cell? ⟨g, 3, none⟩ = some (.int .i64 c.glob) := cell_of_row _ _ 3 _ _ (0, 0) H.out.2.1
  go_wp2_with fail
  refine HF.out.mono ?_
  rintro e w2 ⟨hb2, io2, so2, fo2, icap2, scap2, fcap2, rfl, hm2, hil2, hsl2, hfl2⟩
  have hr2 : w2.heap[g]? = _ := (hb2.block g (by have := H.out.2.2.1; omega)).trans H.out.2.1
  have hbw2 : Below g w w2 := H.out.1.trans (hb2.mono (by have := H.out.2.2.1; omega))
  have hl60 : (fewC c).ins.length ≤ 60 := by simp only [fewC, List.length_take]; omega
  have hl10 : (fewC c).strs.length ≤ 10 := by simp only [fewC, List.length_map, List.length_take]; omega
  have hl8 : (fewC c).funs.length ≤ 8 := by simp only [fewC, List.length_take]; omega
  obtain ⟨C, hC⟩ : ∃ C, fewC c = C := ⟨_, rfl⟩
  have hgC : c.glob = C.glob := by rw [← hC]; rfl
  rw [hgC, hC]
  rw [hC] at hm2 hil2 hsl2 hfl2 hl60 hl10 hl8
  have hgl : R64i C.glob := by rw [← hgC]; exact HD.out.1
  have hg1 : g < w2.heap.size := (Array.getElem?_eq_some_iff.1 hr2).1
  have H2 := Lib.hid (And.intro hr2 (And.intro hbw2 (And.intro hm2 (And.intro hgl (And.intro hl60 (And.intro hl10 (And.intro hl8 hg1)))))))
  obtain ⟨d0, d1, d2, d3⟩ : w2.cell? ⟨g, 0, none⟩ = some (.slice io c.ins.length icap) ∧ w2.cell? ⟨g, 1, none⟩ = some (.slice so c.strs.length scap) ∧ w2.cell? ⟨g, 2, none⟩ = some (.slice fo c.funs.length fcap) ∧ w2.cell? ⟨g, 3, none⟩ = some (.int .i64 c.glob) := ⟨cell_of_row _ _ 0 _ _ (0, 0) hr2, cell_of_row _ _ 1 _ _ (0, 0) hr2, cell_of_row _ _ 2 _ _ (0, 0) hr2, cell_of_row _ _ 3 _ _ (0, 0) hr2⟩
  have hf2 : ∀ j, w2.frozen? ⟨g, j, none⟩ = false := fun j => frozen_of_row w2 g j _ _ hr2
  clear hb2 hr2 hbw2 hm2 hgl hl60 hl10 hl8 hil2 hsl2 hfl2 hg1 hC hgC c0 c1 c2 c3
  go_upto_region 2 with (fail)
  obtain ⟨W3, hW3⟩ : ∃ W3, ((((w2.setCell ⟨g, 0, none⟩ (.slice io2 C.ins.length icap2)).setCell ⟨g, 1, none⟩ (.slice so2 C.strs.length scap2)).setCell ⟨g, 2, none⟩ (.slice fo2 C.funs.length fcap2)).setCell ⟨g, 3, none⟩ (.int .i64 C.glob)) = W3 := ⟨_, rfl⟩
  have hk3 : Keeps (fun b => b = g) w2 W3 := by
    rw [← hW3]
    exact Keeps.setCells g [.slice io2 C.ins.length icap2, .slice so2 C.strs.length scap2, .slice fo2 C.funs.length fcap2, .int .i64 C.glob] 0 w2
  have hr3 : W3.heap[g]? = some (.cells #[.slice io2 C.ins.length icap2, .slice so2 C.strs.length scap2, .slice fo2 C.funs.length fcap2, .int .i64 C.glob] 26 (0, 0)) := by
    rw [← hW3]
    exact code_row H2.out.1 _ _ _ _
  have hs3 := hk3.size
  have hg1 := H2.out.2.2.2.2.2.2.2
  have hm3 : CodeMem W3 (fun b => b < g ∨ (g + 1 ≤ b ∧ b < W3.heap.size)) C io2 so2 fo2 := (H2.out.2.2.1.keeps hk3 (fun b hb h => by have := H.out.2.2.1; omega)).mono (fun b hb => by have := H.out.2.2.1; omega)
  have hbw3 : Below g w W3 := H2.out.2.1.trans (hk3.below (fun i hi h => by omega) (by omega))
  have ht3 : ShTab W3 := shtab_below HD.out.2.1 (by rw [H.out.2.2.2.2.2]; exact hbw3)
  rw [hW3]
  have H3 := Lib.hid (And.intro hr3 (And.intro hm3 (And.intro hbw3 (And.intro ht3 (show g < W3.heap.size by omega)))))
  clear hW3 hk3 hr3 hs3 hg1 hm3 hbw3 ht3 d0 d1 d2 d3 hf2
  go_wp2_with fail
  refine (codes_any W3 H3.out.2.2.2.1).mono ?_
  rintro e w4 ⟨rfl, hb4⟩
  have hr4 : w4.heap[g]? = _ := (hb4.block g H3.out.2.2.2.2).trans H3.out.1
  have hm4 : CodeMem w4 (fun b => b < g ∨ (g + 1 ≤ b ∧ b < W3.heap.size)) C io2 so2 fo2 := H3.out.2.1.below hb4
  have hbw4 : Below g w w4 := H3.out.2.2.1.trans (hb4.mono (by have := H3.out.2.2.2.2; omega))
  have hs4 := hb4.size
  have ht4 := shtab_below H3.out.2.2.2.1 hb4
  obtain ⟨d0, d1, d2, d3⟩ : w4.cell? ⟨g, 0, none⟩ = _ ∧ w4.cell? ⟨g, 1, none⟩ = _ ∧ w4.cell? ⟨g, 2, none⟩ = _ ∧ w4.cell? ⟨g, 3, none⟩ = _ := ⟨cell_of_row _ _ 0 _ _ (0, 0) hr4, cell_of_row _ _ 1 _ _ (0, 0) hr4, cell_of_row _ _ 2 _ _ (0, 0) hr4, cell_of_row _ _ 3 _ _ (0, 0) hr4⟩
  have H4 := Lib.hid (And.intro hr4 (And.intro hm4 (And.intro hbw4 (And.intro ht4 hs4))))
  clear hb4 hr4 hm4 hbw4 ht4 hs4
  go_wp2_with fail
  refine (right_any (H4.out.2.1.mono (fun b hb => by have := H4.out.2.2.2.2; have := H3.out.2.2.2.2; omega)) (by have := H2.out.2.2.2.2.1; omega) (by have := H2.out.2.2.2.2.2.1; omega) (by have := H2.out.2.2.2.2.2.2.1; omega)).mono ?_
  rintro e w5 ⟨hb5, hres⟩
  have hr5 : w5.heap[g]? = _ := (hb5.block g (Array.getElem?_eq_some_iff.1 H4.out.1).1).trans H4.out.1
  have hm5 := H4.out.2.1.below hb5
  have hs5 := hb5.size
  have hbw5 : Below g w w5 := H4.out.2.2.1.trans (hb5.mono (by have := H3.out.2.2.2.2; have := H4.out.2.2.2.2; omega))
  have ht5 := shtab_below H4.out.2.2.2.1 hb5
  have H5 := Lib.hid (And.intro hr5 (And.intro hm5 (And.intro hbw5 (And.intro ht5 (show W3.heap.size ≤ w5.heap.size by have := H4.out.2.2.2.2; omega)))))
  have HGS := Lib.hid (show g < w5.heap.size from (Array.getElem?_eq_some_iff.1 hr5).1)
  clear hb5 hr5 hm5 hs5 hbw5 ht5 d0 d1 d2 d3
  rcases hres with ⟨ho, rfl⟩ | ⟨hno, rfl⟩
  rotate_left
  · clear hno
    go_wp2_with fail
    refine (codes_any w5 H5.out.2.2.2.1).mono ?_
    rintro e w6 ⟨rfl, hb6⟩
    have HB6 := Lib.hid (H5.out.2.2.1.trans (hb6.mono (by have := H5.out.2.2.2.2; have := H3.out.2.2.2.2; omega)))
    clear hb6
    go_wp2_with fail
    go_ret
    exact ⟨rfl, by rw [H.out.2.2.2.2.2]; exact HB6.out⟩
  have HO := Lib.hid ho
  clear ho
  have hr5 := H5.out.1
  obtain ⟨d0, d1, d2, d3⟩ : w5.cell? ⟨g, 0, none⟩ = _ ∧ w5.cell? ⟨g, 1, none⟩ = _ ∧ w5.cell? ⟨g, 2, none⟩ = _ ∧ w5.cell? ⟨g, 3, none⟩ = _ := ⟨cell_of_row _ _ 0 _ _ (0, 0) hr5, cell_of_row _ _ 1 _ _ (0, 0) hr5, cell_of_row _ _ 2 _ _ (0, 0) hr5, cell_of_row _ _ 3 _ _ (0, 0) hr5⟩
  have hm5 : CodeMem w5 (fun b => b < w5.heap.size) C io2 so2 fo2 := H5.out.2.1.mono (fun b hb => by have := H5.out.2.2.2.2; have := HGS.out; omega)
  have hlen := codeS_len HO.out.1 hm5.insR hm5.funR H2.out.2.2.2.2.1 H2.out.2.2.2.2.2.1 H2.out.2.2.2.2.2.2.1
  have HL := Lib.hid (And.intro hm5 (And.intro hm5.insR hm5.funR))
  have HLen := Lib.hid hlen
  clear hr5 hm5 hlen
  go_wp2_with fail
  refine (to_any HL.out.1 (by have := H2.out.2.2.2.2.1; omega) (by have := H2.out.2.2.2.2.2.1; omega) (by have := H2.out.2.2.2.2.2.2.1; omega)).mono ?_
  rintro e w6 ⟨hb6, io6, so6, fo6, icap6, scap6, fcap6, rfl, hm6⟩
  have H6 := Lib.hid (And.intro hb6 hm6)
  clear hb6 hm6 d0 d1 d2 d3
  go_wp2_with fail
  refine (encode_any H6.out.2 (shtab_below H5.out.2.2.2.1 H6.out.1) (HD.out.2.2.below (by rw [H.out.2.2.2.2.2]; exact H5.out.2.2.1.trans (H6.out.1.mono (by have := HGS.out; omega)))) HO.out).mono ?_
  rintro e w7 ⟨hb7, bo, bcap, rfl, hown7⟩
  have hb57 : Below w5.heap.size w5 w7 := H6.out.1.trans (hb7.mono H6.out.1.size)
  have H7 := Lib.hid (And.intro hb57 (And.intro (At.own hown7) (owns_cap hown7)))
  clear hb7 hb57 hown7
  go_wp2_with fail
  refine (decode_any (whole := true) H7.out.2.1 rfl (by have := HLen.out.1; omega) H7.out.2.2 (shtab_below H5.out.2.2.2.1 H7.out.1) (HD.out.2.2.below (by rw [H.out.2.2.2.2.2]; exact H5.out.2.2.1.trans (H7.out.1.mono (by have := HGS.out; omega)))) HO.out HL.out.2 rfl).mono ?_
  rintro e w8 ⟨hb8, hres⟩
  obtain ⟨io8, so8, fo8, icap8, scap8, fcap8, rfl, hm8⟩ : ∃ io so fo icap scap fcap, e = .returned (.tuple #[.agg #[.slice io C.ins.length icap, .slice so C.strs.length scap, .slice fo C.funs.length fcap, .int .i64 C.glob], .int .i64 0]) ∧ CodeMem w8 (fun b => b < w8.heap.size) C io so fo := by
    rcases hres with ⟨_, h⟩ | ⟨h, _⟩
    · exact h
    · cases h
  have H8 := Lib.hid (And.intro (H7.out.1.trans (hb8.mono H7.out.1.size)) (And.intro (H7.out.2.1.below hb8) hm8))
  clear hb8 hres hm8
  go_upto_region 6 with (fail)
  obtain ⟨h, hh⟩ : ∃ h, w8.heap.size = h := ⟨_, rfl⟩
  obtain ⟨W9, hW9⟩ : ∃ W9, w8.alloc (.cells #[.slice io8 C.ins.length icap8, .slice so8 C.strs.length scap8, .slice fo8 C.funs.length fcap8, .int .i64 C.glob] 35) = W9 := ⟨_, rfl⟩
  have hb9 : Below h w8 W9 := by rw [← hW9, ← hh]; exact (Below.refl _ w8).alloc (Nat.le_refl _) _
  have hr9 : W9.heap[h]? = some (.cells #[.slice io8 C.ins.length icap8, .slice so8 C.strs.length scap8, .slice fo8 C.funs.length fcap8, .int .i64 C.glob] 35 (0, 0)) := by rw [← hW9, ← hh]; exact heap_alloc_new w8 _
  have hs9 : W9.heap.size = h + 1 := by rw [← hW9, ← hh]; simp
  have hs8 : w5.heap.size ≤ h := by rw [← hh]; exact H8.out.1.size
  have hb59 : Below w5.heap.size w5 W9 := H8.out.1.trans (hb9.mono hs8)
  have hrg9 : W9.heap[g]? = _ := (hb59.block g HGS.out).trans H5.out.1
  have hq9 : CodeMem W9.drew (fun b => b < W9.drew.heap.size) C io8 so8 fo8 := (H8.out.2.2.below (by rw [hh]; exact hb9.drew)).mono (fun b hb => by simp; omega)
  have hp9 : CodeMem W9.drew (fun b => b < W9.drew.heap.size) C io2 so2 fo2 := (HL.out.1.below hb59.drew).mono (fun b hb => by simp; omega)
  have hat9 : At W9.drew bo (bytesV (codeS C)) := H8.out.2.1.below (by rw [hh]; exact hb9.drew)
  have hi9 : W9.drew.heap.size = h + 1 := by simpa using hs9
  rw [hW9, hh]
  have H9 := Lib.hid (And.intro hb59.drew (And.intro hq9 (And.intro hp9 (And.intro hat9 (And.intro hi9 hs8)))))
  have HR9 := Lib.hid (And.intro (show W9.drew.rangeAt h 0 _ from range4 hr9) (show W9.drew.rangeAt g 0 _ from range4 hrg9))
  clear hW9 hh hb9 hr9 hs9 hs8 hb59 hrg9 hq9 hp9 hat9 hi9
  refine seq_start (by kernel_rfl) ?_
  refine seq_take 0 (v := ?_) rfl (by kernel_rfl) (fun _ _ _ h => h) (by rfl) (fun w' hw' => ?_) ?_
  rotate_left
  · go_simp; try with_reducible rfl
  try simp only [List.getElem_toArray, List.getElem_cons_succ, List.getElem_cons_zero, Act.put, List.setIfInBounds_toArray, List.set_cons_zero, List.set_cons_succ]
  refine seq_take 1 (v := ?_) rfl (by kernel_rfl) (fun _ _ _ h => h) (by rfl) (fun w' hw' => ?_) ?_
  rotate_left
  · go_simp; try with_reducible rfl
  try simp only [List.getElem_toArray, List.getElem_cons_succ, List.getElem_cons_zero, Act.put, List.setIfInBounds_toArray, List.set_cons_zero, List.set_cons_succ]
  refine seq_take 2 (v := ?_) rfl (by kernel_rfl) (fun _ _ _ h => h) (by rfl) (fun w' hw' => ?_) ?_
  rotate_left
  · go_simp; try with_reducible rfl
  try simp only [List.getElem_toArray, List.getElem_cons_succ, List.getElem_cons_zero, Act.put, List.setIfInBounds_toArray, List.set_cons_zero, List.set_cons_succ]
  refine seq_take 3 (v := ?_) rfl (by kernel_rfl) (fun _ _ _ h => h) (by rfl) (fun w' hw' => ?_) ?_
  rotate_left
  · go_simp; try with_reducible rfl
  try simp only [List.getElem_toArray, List.getElem_cons_succ, List.getElem_cons_zero, Act.put, List.setIfInBounds_toArray, List.set_cons_zero, List.set_cons_succ]
  refine seq_take 4 (v := ?_) rfl (by kernel_rfl) (fun _ _ _ h => h) (by rfl) (fun w' hw' => ?_) ?_
  rotate_left
  · go_simp; try with_reducible rfl
  try simp only [List.getElem_toArray, List.getElem_cons_succ, List.getElem_cons_zero, Act.put, List.setIfInBounds_toArray, List.set_cons_zero, List.set_cons_succ]
  refine seq_take 5 (v := ?_) rfl (by kernel_rfl) (fun _ _ _ h => h) (by rfl) (fun w' hw' => ?_) ?_
  rotate_left
  · go_simp; try with_reducible rfl
  try simp only [List.getElem_toArray, List.getElem_cons_succ, List.getElem_cons_zero, Act.put, List.setIfInBounds_toArray, List.set_cons_zero, List.set_cons_succ]
  refine seq_take 6 (v := ?_) rfl (by kernel_rfl) (fun _ _ _ h => h) (by rfl) (fun w' hw' => ?_) ?_
  rotate_left
  · go_simp; try with_reducible rfl
  try simp only [List.getElem_toArray, List.getElem_cons_succ, List.getElem_cons_zero, Act.put, List.setIfInBounds_toArray, List.set_cons_zero, List.set_cons_succ]
  refine seq_take 7 rfl (by kernel_rfl) (fun _ _ _ h => h) (by rfl) (seq_ldCC rfl rfl (HR9.out.1)) ?_
  try simp only [List.getElem_toArray, List.getElem_cons_succ, List.getElem_cons_zero, Act.put, List.setIfInBounds_toArray, List.set_cons_zero, List.set_cons_succ]
  refine seq_take 9 rfl (by kernel_rfl) (fun _ _ _ h => h) (by rfl) (seq_ldCo rfl rfl (HR9.out.2)) ?_
  try simp only [List.getElem_toArray, List.getElem_cons_succ, List.getElem_cons_zero, Act.put, List.setIfInBounds_toArray, List.set_cons_zero, List.set_cons_succ]
  refine seq_run 8 rfl (by kernel_rfl) (by rfl) (fun KK hKK => ?_)
  go_wp2_with fail
  refine (from_any H9.out.2.1 (by have := H2.out.2.2.2.2.1; omega)).mono ?_
  rintro e w10 ⟨hb10, io10, so10, fo10, icap10, scap10, fcap10, rfl, hm10⟩
  have H10 := Lib.hid (And.intro hb10 hm10)
  clear hb10 hm10
  go_wp2_with fail
  refine ⟨H10.out.1, ?_⟩
  refine seq_run 10 rfl (by kernel_rfl) (by rfl) (fun KK hKK => ?_)
  go_wp2_with fail
  refine (csame_any H10.out.2 (H9.out.2.2.1.below H10.out.1) (by have := H2.out.2.2.2.2.1; omega) (by have := H2.out.2.2.2.2.2.1; omega) (by have := H2.out.2.2.2.2.2.2.1; omega)).mono ?_
  rintro e w11 ⟨rfl, hb11⟩
  have H11 := Lib.hid (And.intro hb11 (H10.out.1.trans (hb11.mono H10.out.1.size)))
  clear hb11
  go_wp2_with fail
  refine ⟨H11.out.1, ?_⟩
  refine seq_take 11 (v := ?_) rfl (by kernel_rfl) (fun _ _ _ h => h) (by rfl) (fun w' hw' => ?_) ?_
  rotate_left
  · go_simp; try with_reducible rfl
  try simp only [List.getElem_toArray, List.getElem_cons_succ, List.getElem_cons_zero, Act.put, List.setIfInBounds_toArray, List.set_cons_zero, List.set_cons_succ]
  refine seq_take 12 (v := ?_) rfl (by kernel_rfl) (fun _ _ _ h => h) (by rfl) (fun w' hw' => ?_) ?_
  rotate_left
  · go_simp; try with_reducible rfl
  try simp only [List.getElem_toArray, List.getElem_cons_succ, List.getElem_cons_zero, Act.put, List.setIfInBounds_toArray, List.set_cons_zero, List.set_cons_succ]
  refine seq_done (by kernel_rfl) ?_
  have hlp := HLen.out.2
  have hl0 : (((codeS C).length : Int) == 0) = false := by simp; intro h; rw [h] at hlp; simp at hlp
  have hl1 := HLen.out.1
  obtain ⟨k, hk, hke⟩ := cutmod0 cut (codeS C).length hlp (by omega)
  go_upto_region 9 with (fail)
  rw [hke]
  clear hke hl0
  have hkc : k ≤ bcap := by have := H7.out.2.2; omega
  go_wp2_with (refine slice_hi2 rfl _ _ rfl bo (codeS C).length bcap k rfl rfl hkc ?_)
  have hw11 : Below w5.heap.size w5 w11 := H9.out.1.trans (H11.out.2.mono (by have := H9.out.2.2.2.2.1; have := H9.out.2.2.2.2.2; omega))
  refine (decode_any (whole := false) (L := (codeS C).take k) ((H9.out.2.2.2.1.below H11.out.2).takeB k) (by rw [List.length_take]; omega) (by omega) hkc (shtab_below H5.out.2.2.2.1 hw11) (HD.out.2.2.below (by rw [H.out.2.2.2.2.2]; exact H5.out.2.2.1.trans (hw11.mono (by have := HGS.out; omega)))) HO.out HL.out.2 (show ∃ k', k' < (codeS C).length ∧ (codeS C).take k = (codeS C).take k' from ⟨k, hk, rfl⟩)).mono ?_
  rintro e w12 ⟨hb12, hres⟩
  obtain ⟨v0, v1, v2, v3, z, rfl, ⟨o0, n0, k0, rfl⟩, ⟨o1, n1, k1, rfl⟩, ⟨o2, n2, k2, rfl⟩, ⟨y, rfl⟩, hz⟩ : ∃ v0 v1 v2 v3 z, e = .returned (.tuple #[.agg #[v0, v1, v2, v3], .int .i64 z]) ∧ (∃ o n k, v0 = .slice o n k) ∧ (∃ o n k, v1 = .slice o n k) ∧ (∃ o n k, v2 = .slice o n k) ∧ (∃ y, v3 = .int .i64 y) ∧ (z = 9 ∨ z = 2) := by
    rcases hres with ⟨h, _⟩ | ⟨_, h⟩
    · cases h
    · exact h
  have HE := Lib.hid (H5.out.2.2.1.trans ((hw11.trans (hb12.mono hw11.size)).mono (by have := HGS.out; omega)))
  clear hb12 hres hw11
  rcases hz with rfl | rfl
  · go_wp2_with fail
    go_ret
    exact ⟨rfl, by rw [H.out.2.2.2.2.2]; exact HE.out⟩
  · go_wp2_with fail
    go_ret
    exact ⟨rfl, by rw [H.out.2.2.2.2.2]; exact HE.out⟩

theorem own : ownKnob Tryd.prog.godebug = none := by kernel_rfl
theorem laidOut : laidOutB Tryd.prog = true := by kernel_rfl
theorem readable : ∀ t ∈ Tryd.f5.params.toList, Tryd.prog.readableRec t = true ∧ t < Tryd.prog.types.size := by
  rw [Tryd.params5]
  intro t ht
  simp at ht
  rcases ht with rfl | rfl
  · exact ⟨by kernel_rfl, of_decide_eq_true (by kernel_rfl)⟩
  · exact ⟨by kernel_rfl, of_decide_eq_true (by kernel_rfl)⟩

theorem laid_met (os : Os) : laidMet Tryd.prog Rows.codeBackRow.laid ((laidWorldB os).forCall (fun _ _ => 0) ⟨#[], #[.agg #[.slice none 0 0, .slice none 0 0, .slice none 0 0, .int .i64 0], .int .i64 0], []⟩).memory :=
  laidMet_of_run' 8 (by kernel_rfl) (by kernel_rfl)
theorem reads (os : Os) {H : Type} (enc : TypeId × Value → H) : DataW.whole enc Tryd.prog ((laidWorldB os).forCall (fun _ _ => 0) ⟨#[], #[.agg #[.slice none 0 0, .slice none 0 0, .slice none 0 0, .int .i64 0], .int .i64 0], []⟩).memory Tryd.f5.params.toList Rows.codeBackSpec.vars false (#[.agg #[.slice none 0 0, .slice none 0 0, .slice none 0 0, .int .i64 0], .int .i64 0] : Array Value).toList 8 = some ([.agg [.nil, .nil, .nil, .lit (.int .i64 0)], .lit (.int .i64 0)], [], []) := by kernel_rfl
set_option maxRecDepth 100000 in
theorem lifted (os : Os) (started : os.Started) (H : Type) (enc : TypeId × Value → H) (F : Stop.Interp) :
    ReturnsInHanded {} Tryd.checked os 5 .any ((OpenSpec.ofChange Rows.codeBackSpec).preRow enc Tryd.prog Tryd.f5 Rows.codeBackRow.domain false Rows.codeBackRow.laid) (((OpenSpec.ofChange Rows.codeBackSpec).at F).post enc Tryd.prog Tryd.f5 false true false false) := by
  have hx := reads os enc
  refine returnsInHanded_of_row (C := Tryd.checked) (s := OpenSpec.ofChange Rows.codeBackSpec) own started (by kernel_rfl) Tryd.func5
    (witness_row_at (enc := enc) (C := Tryd.checked) false (laidWorldB os) #[.agg #[.slice none 0 0, .slice none 0 0, .slice none 0 0, .int .i64 0], .int .i64 0] rfl (by kernel_rfl) (by kernel_rfl) (by kernel_rfl)
      (OpenSpec.preRow_of_cond 8 hx (by kernel_rfl) (fun k hk => by cases hk) (by kernel_rfl) (laid_met os))) ?_
  intro W base args ds gs before hval0 hW _ _ _ hL _ _
  have ht : ShTab W ∧ Tab W := tabs_of hL
  have hval : ∀ (j : Nat) t v, Tryd.f5.params[j]? = some t → args[j]? = some v → Value.okWide Tryd.prog W .any base t v := hval0
  have hW' := hW
  obtain ⟨p, q, hA0, hV, rfl, hfz, hnd⟩ := hW
  have hA : DataW.TrodAll enc Tryd.prog W 0 (fun _ => true) true Tryd.f5.params.toList args.toList ds p := hA0
  rw [Tryd.params5] at hA hval
  obtain ⟨v0, v1, d0, d1, p0, p1, rfl, rfl, rfl, h0, h1⟩ := trodAll_two hA
  obtain ⟨rfl, rfl⟩ := trodVars_none hV
  obtain ⟨c, io, so, fo, icap, scap, fcap, rfl, hmem, hil, hic, hsl, hsc, hfl, hfc, hgl⟩ := open_code (tc := 26) (ti := 23) (te := 29) Tryd.underlying26 rfl (by kernel_rfl) ⟨by kernel_rfl, by kernel_rfl, by kernel_rfl, by kernel_rfl, by kernel_rfl⟩ Tryd.underlying23 Tryd.underlying29 rfl (by kernel_rfl) (hval 0 26 v0 rfl rfl) h0
  obtain ⟨cut, rfl, rfl, rfl, wc⟩ := open_int Tryd.underlying3 (hval 1 3 v1 rfl rfl) h1
  refine (walk cut hmem hil hic hsl hsc hfl hfc hgl ht.1 ht.2).mono fun e W' ⟨he, hb⟩ => ?_
  subst he
  exact ⟨_, rfl, post_law laidOut rfl rfl Tryd.underlying4 readable rfl rfl rfl hW' hb⟩

theorem said : Rows.CodeBackSaid :=
  OpenClaim.holds_of_cond 5 Tryd.f5 rfl rfl rfl rfl rfl rfl rfl ⟨rfl, rfl, rfl, rfl, rfl⟩ rfl rfl rfl rfl rfl (by kernel_rfl) Tryd.func5 (by kernel_rfl)
    (of_decide_eq_true (by kernel_rfl)) (by unfold Func.isWrapper; first | (rw [if_pos (by decide +kernel)]; kernel_rfl) | (rw [if_neg (by decide +kernel)]; exact ⟨rfl, rfl⟩))
    (fun os started H enc _ F => by rw [OpenClaim.pre_eq_preRow]; exact lifted os started H enc F)

/-- No parameter wants a stand-in; the program's own looks are off. -/
theorem plain (f : FuncId) (fn : Func) (hf : Tryd.pinned.checked.prog.funcNamed "scriptor/scriptorlaw16.CodeBack" = some f) (hfn : Tryd.pinned.checked.prog.funcs[f]? = some fn) :
    true = Tryd.pinned.checked.prog.looks [] ∧ ∀ (j : Nat) t, fn.params[j]? = some t → Tryd.pinned.checked.prog.wantsStandIn t = false := by
  obtain rfl : f = 5 := Option.some.inj ((show Tryd.prog.funcNamed "scriptor/scriptorlaw16.CodeBack" = some 5 by kernel_rfl).symm.trans hf) |>.symm
  obtain rfl : fn = Tryd.f5 := (Option.some.inj (Tryd.func5.symm.trans hfn)).symm
  refine ⟨by kernel_rfl, fun j t ht => ?_⟩
  have hall : ∀ t ∈ Tryd.f5.params.toList, Tryd.prog.wantsStandIn t = false := by
    rw [Tryd.params5]
    intro t ht
    simp at ht
    rcases ht with rfl | rfl
    · kernel_rfl
    · kernel_rfl
  exact hall t (Array.mem_toList_iff.2 (Array.mem_of_getElem? ht))

theorem card : Rows.CodeBackCardSaid :=
  Claim7.holds_tied_plain_at .later [] _ _ _ _ said (fun _ h => by cases h) (by kernel_rfl) (fun _ h => by cases h) codeBack_row_tie rfl ⟨rfl, rfl⟩ (by kernel_rfl) rfl plain (by kernel_rfl)
end Go.Proofs.YtnhdefaagicejaaDoor.codeBack
