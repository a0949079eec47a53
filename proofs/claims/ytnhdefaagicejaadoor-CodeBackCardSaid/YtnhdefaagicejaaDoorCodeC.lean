/- The document's count of what functions have closed in. -/
import Derived.Test.YtnhdefaagicejaaDoorCodeW
namespace Go.Proofs.YtnhdefaagicejaaDoor
set_option linter.unusedSimpArgs false
set_option linter.unusedVariables false
open Go.RowKit

/-- What a call to counts leaves. -/
def Counts (w : World) (c : CodeP) (e : Ending) (w' : World) : Prop :=
  Below w.heap.size w w' ∧ ((∃ L lb, e = .returned (.tuple #[.slice (some ⟨lb, 0, none⟩) L.length L.length, .bool true]) ∧ Frees c L ∧ w'.heap[lb]? = some (.cells (intsV L).toArray 3 (0, 0)) ∧ w.heap.size ≤ lb) ∨ (e = .returned (.tuple #[.slice none 0 0, .bool false]) ∧ ¬ Ord flC c))
set_option maxRecDepth 100000 in
set_option maxHeartbeats 4000000 in
theorem counts_any {w : World} {c : CodeP} {io so fo : Option Addr} {icap scap fcap : Nat} (hmem : CodeMem w (fun b => b < w.heap.size) c io so fo) (hil : c.ins.length ≤ 1000000000) (hfl : c.funs.length ≤ 1000000000) :
    Calls Tryd.prog 19 #[.agg #[.slice io c.ins.length icap, .slice so c.strs.length scap, .slice fo c.funs.length fcap, .int .i64 c.glob]] w (Counts w c) := by
  obtain ⟨g, hg⟩ : ∃ g, w.heap.size = g := ⟨_, rfl⟩
  obtain ⟨W1, hW1⟩ : ∃ W1, w.alloc (.cells #[.slice io c.ins.length icap, .slice so c.strs.length scap, .slice fo c.funs.length fcap, .int .i64 c.glob] 26) = W1 := ⟨_, rfl⟩
  have hb1 : Below g w W1 := by rw [← hW1, ← hg]; exact (Below.refl _ w).alloc (Nat.le_refl _) _
  have hr1 : W1.heap[g]? = some (.cells #[.slice io c.ins.length icap, .slice so c.strs.length scap, .slice fo c.funs.length fcap, .int .i64 c.glob] 26 (0, 0)) := by rw [← hW1, ← hg]; exact heap_alloc_new w _
  have hs1 : W1.heap.size = g + 1 := by rw [← hW1, ← hg]; simp
  have hlt1 : g < W1.heap.size := by omega
  have k2 : W1.cell? ⟨g, 2, none⟩ = some (.slice fo c.funs.length fcap) := cell_of_row _ _ 2 _ _ (0, 0) hr1
  have H := Lib.hid (And.intro hmem (And.intro hb1 (And.intro hr1 (And.intro hs1 (And.intro hW1 hg)))))
  clear hmem hb1 hr1 hs1 hW1 hg
  go_enter Tryd.func19, Tryd.ntmps19
  go_upto_region 1 with (fail)
  rw [H.out.2.2.2.2.1, H.out.2.2.2.2.2]
  go_upto_region 2 with (first | (refine op_makeI rfl _ _ rfl c.funs.length rfl rfl (by omega) ?_; rintro w5 m1 m2; have k25 : w5.cell? ⟨g, 2, none⟩ = some (.slice fo c.funs.length fcap) := (World.cell?_of_block (a := ⟨g, 2, none⟩) (m2.block g hlt1 (fun h => by cases h))).trans k2; have M5 := Lib.hid (And.intro m1 m2); clear m1 m2))
  obtain ⟨lb, hlb⟩ : ∃ lb, W1.heap.size = lb := ⟨_, rfl⟩
  rw [hlb] at M5 hlt1 ⊢
  have hs5 : lb < w5.heap.size := (Array.getElem?_eq_some_iff.1 M5.out.1).1
  have HLB := Lib.hid hlb
  clear hlb k2
  go_upto_region 3 with (first | (refine op_makeB rfl _ _ rfl c.funs.length rfl rfl (by omega) ?_; rintro w7 m3 m4; have M7 := Lib.hid (And.intro m3 m4); clear m3 m4))
  obtain ⟨tb, htb⟩ : ∃ tb, w5.heap.size = tb := ⟨_, rfl⟩
  rw [htb] at M7 hs5 ⊢
  have hs7 : tb < w7.heap.size := (Array.getElem?_eq_some_iff.1 M7.out.1).1
  have h57 : Below w5.heap.size w5 w7 := grown_below M7.out.2
  have hl7 : w7.heap[lb]? = _ := (h57.block lb (by omega)).trans M5.out.1
  have hr7 : w7.heap[g]? = _ := (h57.block g (by omega)).trans ((M5.out.2.block g (by rw [HLB.out]; omega) (fun h => by cases h)).trans H.out.2.2.1)
  have hb7 : Below g w w7 := H.out.2.1.trans (((grown_below M5.out.2).mono (by rw [HLB.out]; omega)).trans (h57.mono (by omega)))
  have H7 := Lib.hid (And.intro hl7 (And.intro M7.out.1 (And.intro hr7 hb7)))
  clear htb h57 hl7 hr7 hb7 k25
  go_upto_block 0 with (fail)
  go_wp2_with fail
  go_loopw [6] (fun v6 wq => ∃ (i : Nat) (L : List Int) (T : List Bool), i ≤ c.ins.length ∧ v6 = .int .i64 (i : Int) ∧ FreesTo c i L T ∧ wq.heap[lb]? = some (.cells (intsV L).toArray 3 (0, 0)) ∧ wq.heap[tb]? = some (.cells (T.map Value.bool).toArray 4 (0, 0)) ∧ Keeps (fun b => b = lb ∨ b = tb) w7 wq) (fun v6 _ => c.ins.length - (intOf v6).toNat)
  case atStart => exact ⟨0, _, _, by omega, rfl, FreesTo.zero c, H7.out.1, H7.out.2.1, Keeps.refl _ _⟩
  case round =>
    obtain ⟨i, L, T, hi, rfl, hfr, hlw, htw, hk7⟩ := hrel
    have hsw := hk7.size
    have hlbg : g < lb := hlt1
    have hlbl := (Array.getElem?_eq_some_iff.1 hlw).1
    have htbl := (Array.getElem?_eq_some_iff.1 htw).1
    have hrg : wr.heap[g]? = _ := (hk7.block g (by omega) (fun h => by omega)).trans H7.out.2.2.1
    have hbw : Below g w wr := H7.out.2.2.2.trans (hk7.below (fun i hi h => by omega) (by omega))
    have hgw : w.heap.size = g := H.out.2.2.2.2.2
    have hmw : CodeMem wr (fun b => b < g) c io so fo := by
      have h1 := H.out.1.below (by rw [hgw]; exact hbw)
      exact h1.mono (fun b hb => by omega)
    have HR := Lib.hid (And.intro hfr (And.intro hlw (And.intro htw (And.intro hk7 (And.intro hrg (And.intro hbw hmw))))))
    have k0 : wr.cell? ⟨g, 0, none⟩ = some (.slice io c.ins.length icap) := cell_of_row _ _ 0 _ _ (0, 0) hrg
    clear hfr hlw htw hk7 hrg hbw hgw hmw
    by_cases hlt : i < c.ins.length
    · have hd1 : decide ((i : Int) < (c.ins.length : Int)) = true := decide_eq_true (by omega)
      obtain ⟨ib, fo', rfl, i0, i1, i2⟩ := HR.out.2.2.2.2.2.2.insAt i hlt
      have hxr := HR.out.2.2.2.2.2.2.insR _ (List.getElem_mem hlt)
      obtain ⟨x, hx⟩ : ∃ x, c.ins[i] = x := ⟨_, rfl⟩
      rw [hx] at i0 i1 i2 hxr
      have hxs : c.ins[i]? = some x := by rw [List.getElem?_eq_getElem hlt, hx]
      obtain ⟨op, a, b⟩ := x
      simp only at i0 i1 i2 hxr
      have HX := Lib.hid (And.intro hxs hxr)
      clear hxr hx hxs
      obtain ⟨W2, hW2⟩ : ∃ W2, wr.alloc (.cells #[.int .i64 op, .int .i64 a, .int .i64 b] 29) = W2 := ⟨_, rfl⟩
      have hb2 : Below wr.heap.size wr W2 := by rw [← hW2]; exact (Below.refl _ wr).alloc (Nat.le_refl _) _
      have hr2 : W2.heap[wr.heap.size]? = some (.cells #[.int .i64 op, .int .i64 a, .int .i64 b] 29 (0, 0)) := by rw [← hW2]; exact heap_alloc_new wr _
      have hs2 : wr.heap.size < W2.heap.size := by rw [← hW2]; simp
      have k0 : W2.cell? ⟨wr.heap.size, 0, none⟩ = some (.int .i64 op) := cell_of_row _ _ 0 _ _ (0, 0) hr2
      have k1 : W2.cell? ⟨wr.heap.size, 1, none⟩ = some (.int .i64 a) := cell_of_row _ _ 1 _ _ (0, 0) hr2
      have k2 : W2.cell? ⟨wr.heap.size, 2, none⟩ = some (.int .i64 b) := cell_of_row _ _ 2 _ _ (0, 0) hr2
      have hlW : W2.heap[lb]? = _ := (hb2.block lb hlbl).trans HR.out.2.1
      have htW : W2.heap[tb]? = _ := (hb2.block tb htbl).trans HR.out.2.2.1
      have kf : W2.cell? ⟨g, 2, none⟩ = some (.slice fo c.funs.length fcap) := (World.cell?_of_block (a := ⟨g, 2, none⟩) (hb2.block g (by omega))).trans (cell_of_row _ _ 2 _ _ (0, 0) HR.out.2.2.2.2.1)
      have H2 := Lib.hid (And.intro (HR.out.2.2.2.1.trans' (Keeps.of_below hb2)) (And.intro hlW (And.intro htW (HR.out.2.2.2.2.2.1.trans (hb2.mono (by omega))))))
      clear hb2 hr2 hlW htW
      by_cases h12 : op = 12
      · have hd2 : (op != 12) = false := by simp [h12]
        have hd3 : decide (op = 12) = true := decide_eq_true h12
        have H12 := Lib.hid h12
        clear h12
        obtain ⟨q, hq⟩ : ∃ q, betw a 1 ((c.funs.length : Int) - 1) = q := ⟨_, rfl⟩
        have HQ := Lib.hid hq
        clear hq
        go_wp2_with fail
        clear hW2
        refine (between_any a 1 ((c.funs.length : Int) - 1) W2).mono ?_
        rintro e w2 ⟨rfl, rfl⟩
        rw [HQ.out]
        cases q with
        | false =>
          go_wp2_with fail
          go_roundw
          case rel =>
            refine ⟨i + 1, L, T, by omega, by simp, HR.out.1.skip HX.out.1 (fun _ hh => ?_), H2.out.2.1, H2.out.2.2.1, H2.out.1⟩
            have := HQ.out
            rw [show betw a 1 ((c.funs.length : Int) - 1) = true from decide_eq_true ⟨hh.1, by have := hh.2; simp only at this; omega⟩] at this
            cases this
          case measure => simp [intOf]; omega
        | true =>
          have hab := of_decide_eq_true HQ.out
          obtain ⟨j, rfl⟩ : ∃ j : Nat, a = (j : Int) := ⟨a.toNat, by omega⟩
          have hj1 : 1 ≤ j := by omega
          have hj2 : j < c.funs.length := by omega
          clear hab
          obtain ⟨t, ht⟩ : ∃ t, T[j]? = some t := ⟨T[j]'(by rw [HR.out.1.tlen]; exact hj2), List.getElem?_eq_getElem _⟩
          obtain ⟨z, hz⟩ : ∃ z, L[j]? = some z := ⟨L[j]'(by rw [HR.out.1.len]; exact hj2), List.getElem?_eq_getElem _⟩
          have HT := Lib.hid (And.intro ht hz)
          have cT : W2.drew.cell? ⟨tb, j, none⟩ = some (.bool t) := (cell_of_row W2 _ j _ _ (0, 0) H2.out.2.2.1).trans (by simp [ht])
          have cL : W2.drew.cell? ⟨lb, j, none⟩ = some (.int .i64 z) := (cell_of_row W2 _ j _ _ (0, 0) H2.out.2.1).trans (by simp [intsV, hz])
          have KT := Lib.hid (And.intro cT (And.intro cL (And.intro (show W2.drew.cell? ⟨wr.heap.size, 1, none⟩ = _ from k1) (show W2.drew.cell? ⟨wr.heap.size, 2, none⟩ = _ from k2))))
          clear cT cL ht hz
          go_wp2_with fail
          refine seq_start (by kernel_rfl) ?_
          refine seq_take 0 (v := ?_) rfl (by kernel_rfl) (fun _ _ _ h => h) (by rfl) (fun w' hw' => ?_) ?_
          rotate_left
          · go_simp; try with_reducible rfl
          try simp only [List.getElem_toArray, List.getElem_cons_succ, List.getElem_cons_zero, Act.put, List.setIfInBounds_toArray, List.set_cons_zero, List.set_cons_succ]
          refine seq_take 1 (v := ?_) rfl (by kernel_rfl) (fun _ _ _ h => h) (by rfl) (fun w' hw' => ?_) ?_
          rotate_left
          · go_simp; try with_reducible rfl
          try simp only [List.getElem_toArray, List.getElem_cons_succ, List.getElem_cons_zero, Act.put, List.setIfInBounds_toArray, List.set_cons_zero, List.set_cons_succ]
          refine seq_take 2 rfl (by kernel_rfl) (fun _ _ _ h => h) (by rfl) (seq_ldi rfl rfl (KT.out.2.2.1)) ?_
          try simp only [List.getElem_toArray, List.getElem_cons_succ, List.getElem_cons_zero, Act.put, List.setIfInBounds_toArray, List.set_cons_zero, List.set_cons_succ]
          refine seq_take 3 (v := ?_) rfl (by kernel_rfl) (fun _ _ _ h => h) (by rfl) (fun w' hw' => ?_) ?_
          rotate_left
          · go_simp; try with_reducible rfl
          try simp only [List.getElem_toArray, List.getElem_cons_succ, List.getElem_cons_zero, Act.put, List.setIfInBounds_toArray, List.set_cons_zero, List.set_cons_succ]
          refine seq_take 4 rfl (by kernel_rfl) (fun _ _ _ h => h) (by rfl) (seq_ldB rfl rfl (KT.out.1)) ?_
          try simp only [List.getElem_toArray, List.getElem_cons_succ, List.getElem_cons_zero, Act.put, List.setIfInBounds_toArray, List.set_cons_zero, List.set_cons_succ]
          refine seq_take 5 (v := ?_) rfl (by kernel_rfl) (fun _ _ _ h => h) (by rfl) (fun w' hw' => ?_) ?_
          rotate_left
          · go_simp; try with_reducible rfl
          try simp only [List.getElem_toArray, List.getElem_cons_succ, List.getElem_cons_zero, Act.put, List.setIfInBounds_toArray, List.set_cons_zero, List.set_cons_succ]
          cases t with
          | false =>
            refine seq_skip 6 rfl (by kernel_rfl) (fun _ _ _ h => h) (by rfl) ?_
            try simp only [List.getElem_toArray, List.getElem_cons_succ, List.getElem_cons_zero, Act.put, List.setIfInBounds_toArray, List.set_cons_zero, List.set_cons_succ]
            refine seq_skip 7 rfl (by kernel_rfl) (fun _ _ _ h => h) (by rfl) ?_
            try simp only [List.getElem_toArray, List.getElem_cons_succ, List.getElem_cons_zero, Act.put, List.setIfInBounds_toArray, List.set_cons_zero, List.set_cons_succ]
            refine seq_skip 8 rfl (by kernel_rfl) (fun _ _ _ h => h) (by rfl) ?_
            try simp only [List.getElem_toArray, List.getElem_cons_succ, List.getElem_cons_zero, Act.put, List.setIfInBounds_toArray, List.set_cons_zero, List.set_cons_succ]
            refine seq_skip 9 rfl (by kernel_rfl) (fun _ _ _ h => h) (by rfl) ?_
            try simp only [List.getElem_toArray, List.getElem_cons_succ, List.getElem_cons_zero, Act.put, List.setIfInBounds_toArray, List.set_cons_zero, List.set_cons_succ]
            refine seq_skip 10 rfl (by kernel_rfl) (fun _ _ _ h => h) (by rfl) ?_
            try simp only [List.getElem_toArray, List.getElem_cons_succ, List.getElem_cons_zero, Act.put, List.setIfInBounds_toArray, List.set_cons_zero, List.set_cons_succ]
            refine seq_skip 11 rfl (by kernel_rfl) (fun _ _ _ h => h) (by rfl) ?_
            try simp only [List.getElem_toArray, List.getElem_cons_succ, List.getElem_cons_zero, Act.put, List.setIfInBounds_toArray, List.set_cons_zero, List.set_cons_succ]
            refine seq_skip 12 rfl (by kernel_rfl) (fun _ _ _ h => h) (by rfl) ?_
            try simp only [List.getElem_toArray, List.getElem_cons_succ, List.getElem_cons_zero, Act.put, List.setIfInBounds_toArray, List.set_cons_zero, List.set_cons_succ]
            refine seq_skip 13 rfl (by kernel_rfl) (fun _ _ _ h => h) (by rfl) ?_
            try simp only [List.getElem_toArray, List.getElem_cons_succ, List.getElem_cons_zero, Act.put, List.setIfInBounds_toArray, List.set_cons_zero, List.set_cons_succ]
            refine seq_take 14 (v := ?_) rfl (by kernel_rfl) (fun _ _ _ h => h) (by rfl) (fun w' hw' => ?_) ?_
            rotate_left
            · go_simp; try with_reducible rfl
            try simp only [List.getElem_toArray, List.getElem_cons_succ, List.getElem_cons_zero, Act.put, List.setIfInBounds_toArray, List.set_cons_zero, List.set_cons_succ]
            refine seq_done (by kernel_rfl) ?_
            obtain ⟨W3, hW3⟩ : ∃ W3, W2.drew = W3 := ⟨_, rfl⟩
            rw [hW3]
            have hb3 : Below W2.heap.size W2 W3 := by rw [← hW3]; exact (Below.refl _ W2).drew
            have hs3 : W2.heap.size ≤ W3.heap.size := hb3.size
            have ht3 : W3.heap[tb]? = _ := (hb3.block tb (by omega)).trans H2.out.2.2.1
            have hl3 : W3.heap[lb]? = _ := (hb3.block lb (by omega)).trans H2.out.2.1
            have j1 : W3.cell? ⟨wr.heap.size, 1, none⟩ = some (.int .i64 (j : Int)) := (World.cell?_of_block (a := ⟨wr.heap.size, 1, none⟩) (hb3.block _ hs2)).trans k1
            have j2 : W3.cell? ⟨wr.heap.size, 2, none⟩ = some (.int .i64 b) := (World.cell?_of_block (a := ⟨wr.heap.size, 2, none⟩) (hb3.block _ hs2)).trans k2
            have cT3 : W3.cell? ⟨tb, j, none⟩ = some (.bool false) := (cell_of_row _ _ j _ _ (0, 0) ht3).trans (by simp [HT.out.1])
            have fT3 := frozen_of_row W3 tb j _ _ ht3
            have M := Lib.hid (And.intro ht3 (And.intro hl3 (And.intro (H2.out.1.trans' (Keeps.of_below hb3)) hW3)))
            clear hb3 ht3 hl3 hW3 k0 k1 k2 kf
            obtain ⟨W4, hW4⟩ : ∃ W4, W3.setCell ⟨tb, j, none⟩ (.bool true) = W4 := ⟨_, rfl⟩
            have hk34 : Keeps (fun b => b = tb) W3 W4 := by rw [← hW4]; exact Keeps.of_grown (setCell_grown0 _ _ _ _) rfl
            have hl4 : W4.heap[lb]? = _ := (hk34.block lb (by omega) (fun h => by omega)).trans M.out.2.1
            have ht4 : W4.heap[tb]? = some (.cells ((T.set j true).map Value.bool).toArray 4 (0, 0)) := by
              rw [← hW4, setCell_row0 j _ M.out.1]
              simp [List.map_set]
            have cL4 : W4.cell? ⟨lb, j, none⟩ = some (.int .i64 z) := (cell_of_row _ _ j _ _ (0, 0) hl4).trans (by simp [intsV, HT.out.2])
            have fL4 := frozen_of_row W4 lb j _ _ hl4
            have m1 : W4.cell? ⟨wr.heap.size, 1, none⟩ = some (.int .i64 (j : Int)) := keeps_cell hk34 (by intro h; simp at h; omega) j1
            have m2 : W4.cell? ⟨wr.heap.size, 2, none⟩ = some (.int .i64 b) := keeps_cell hk34 (by intro h; simp at h; omega) j2
            have N := Lib.hid (And.intro hk34 (And.intro hl4 ht4))
            have hs4 := hk34.size
            clear hk34 hl4 ht4
            go_wp2_with fail
            clear hW4
            go_roundw
            case rel =>
              have hk45 : Keeps (fun b => b = lb) W4 (W4.setCell ⟨lb, j, none⟩ (.int .i64 b)) := Keeps.of_grown (setCell_grown0 _ _ _ _) rfl
              refine ⟨i + 1, L.set j b, T.set j true, by omega, by simp, HR.out.1.put HX.out.1 (by simp only; exact H12.out) hj2 hj1 rfl (.inl HT.out.1), ?_, (hk45.block tb (by omega) (fun h => by omega)).trans N.out.2.2, (M.out.2.2.1.trans' (N.out.1.mono (fun _ _ h => .inr h))).trans' (hk45.mono (fun _ _ h => .inl h))⟩
              rw [setCell_row0 j _ N.out.2.1]
              simp [intsV, List.map_set]
            case measure => simp [intOf]; omega
          | true =>
            by_cases hzb : z = b
            · skip
              have hd7 : (z != b) = false := by simp [hzb]
              have hd8 : decide (z = b) = true := decide_eq_true hzb
              have HZB := Lib.hid hzb
              clear hzb
              refine seq_take 6 (v := ?_) rfl (by kernel_rfl) (fun _ _ _ h => h) (by rfl) (fun w' hw' => ?_) ?_
              rotate_left
              · go_simp; try with_reducible rfl
              try simp only [List.getElem_toArray, List.getElem_cons_succ, List.getElem_cons_zero, Act.put, List.setIfInBounds_toArray, List.set_cons_zero, List.set_cons_succ]
              refine seq_take 7 (v := ?_) rfl (by kernel_rfl) (fun _ _ _ h => h) (by rfl) (fun w' hw' => ?_) ?_
              rotate_left
              · go_simp; try with_reducible rfl
              try simp only [List.getElem_toArray, List.getElem_cons_succ, List.getElem_cons_zero, Act.put, List.setIfInBounds_toArray, List.set_cons_zero, List.set_cons_succ]
              refine seq_take 8 rfl (by kernel_rfl) (fun _ _ _ h => h) (by rfl) (seq_ldi rfl rfl (KT.out.2.2.1)) ?_
              try simp only [List.getElem_toArray, List.getElem_cons_succ, List.getElem_cons_zero, Act.put, List.setIfInBounds_toArray, List.set_cons_zero, List.set_cons_succ]
              refine seq_take 9 (v := ?_) rfl (by kernel_rfl) (fun _ _ _ h => h) (by rfl) (fun w' hw' => ?_) ?_
              rotate_left
              · go_simp; try with_reducible rfl
              try simp only [List.getElem_toArray, List.getElem_cons_succ, List.getElem_cons_zero, Act.put, List.setIfInBounds_toArray, List.set_cons_zero, List.set_cons_succ]
              refine seq_take 10 rfl (by kernel_rfl) (fun _ _ _ h => h) (by rfl) (seq_ldi rfl rfl (KT.out.2.1)) ?_
              try simp only [List.getElem_toArray, List.getElem_cons_succ, List.getElem_cons_zero, Act.put, List.setIfInBounds_toArray, List.set_cons_zero, List.set_cons_succ]
              refine seq_take 11 (v := ?_) rfl (by kernel_rfl) (fun _ _ _ h => h) (by rfl) (fun w' hw' => ?_) ?_
              rotate_left
              · go_simp; try with_reducible rfl
              try simp only [List.getElem_toArray, List.getElem_cons_succ, List.getElem_cons_zero, Act.put, List.setIfInBounds_toArray, List.set_cons_zero, List.set_cons_succ]
              refine seq_take 12 rfl (by kernel_rfl) (fun _ _ _ h => h) (by rfl) (seq_ldi rfl rfl (KT.out.2.2.2)) ?_
              try simp only [List.getElem_toArray, List.getElem_cons_succ, List.getElem_cons_zero, Act.put, List.setIfInBounds_toArray, List.set_cons_zero, List.set_cons_succ]
              refine seq_take 13 (v := ?_) rfl (by kernel_rfl) (fun _ _ _ h => h) (by rfl) (fun w' hw' => ?_) ?_
              rotate_left
              · go_simp; try with_reducible rfl
              try simp only [List.getElem_toArray, List.getElem_cons_succ, List.getElem_cons_zero, Act.put, List.setIfInBounds_toArray, List.set_cons_zero, List.set_cons_succ]
              refine seq_take 14 (v := ?_) rfl (by kernel_rfl) (fun _ _ _ h => h) (by rfl) (fun w' hw' => ?_) ?_
              rotate_left
              · go_simp; try with_reducible rfl
              try simp only [List.getElem_toArray, List.getElem_cons_succ, List.getElem_cons_zero, Act.put, List.setIfInBounds_toArray, List.set_cons_zero, List.set_cons_succ]
              refine seq_done (by kernel_rfl) ?_
              obtain ⟨W3, hW3⟩ : ∃ W3, W2.drew = W3 := ⟨_, rfl⟩
              rw [hW3]
              have hb3 : Below W2.heap.size W2 W3 := by rw [← hW3]; exact (Below.refl _ W2).drew
              have hs3 : W2.heap.size ≤ W3.heap.size := hb3.size
              have ht3 : W3.heap[tb]? = _ := (hb3.block tb (by omega)).trans H2.out.2.2.1
              have hl3 : W3.heap[lb]? = _ := (hb3.block lb (by omega)).trans H2.out.2.1
              have j1 : W3.cell? ⟨wr.heap.size, 1, none⟩ = some (.int .i64 (j : Int)) := (World.cell?_of_block (a := ⟨wr.heap.size, 1, none⟩) (hb3.block _ hs2)).trans k1
              have j2 : W3.cell? ⟨wr.heap.size, 2, none⟩ = some (.int .i64 b) := (World.cell?_of_block (a := ⟨wr.heap.size, 2, none⟩) (hb3.block _ hs2)).trans k2
              have cT3 : W3.cell? ⟨tb, j, none⟩ = some (.bool true) := (cell_of_row _ _ j _ _ (0, 0) ht3).trans (by simp [HT.out.1])
              have fT3 := frozen_of_row W3 tb j _ _ ht3
              have M := Lib.hid (And.intro ht3 (And.intro hl3 (And.intro (H2.out.1.trans' (Keeps.of_below hb3)) hW3)))
              clear hb3 ht3 hl3 hW3 k0 k1 k2 kf
              obtain ⟨W4, hW4⟩ : ∃ W4, W3.setCell ⟨tb, j, none⟩ (.bool true) = W4 := ⟨_, rfl⟩
              have hk34 : Keeps (fun b => b = tb) W3 W4 := by rw [← hW4]; exact Keeps.of_grown (setCell_grown0 _ _ _ _) rfl
              have hl4 : W4.heap[lb]? = _ := (hk34.block lb (by omega) (fun h => by omega)).trans M.out.2.1
              have ht4 : W4.heap[tb]? = some (.cells ((T.set j true).map Value.bool).toArray 4 (0, 0)) := by
                rw [← hW4, setCell_row0 j _ M.out.1]
                simp [List.map_set]
              have cL4 : W4.cell? ⟨lb, j, none⟩ = some (.int .i64 z) := (cell_of_row _ _ j _ _ (0, 0) hl4).trans (by simp [intsV, HT.out.2])
              have fL4 := frozen_of_row W4 lb j _ _ hl4
              have m1 : W4.cell? ⟨wr.heap.size, 1, none⟩ = some (.int .i64 (j : Int)) := keeps_cell hk34 (by intro h; simp at h; omega) j1
              have m2 : W4.cell? ⟨wr.heap.size, 2, none⟩ = some (.int .i64 b) := keeps_cell hk34 (by intro h; simp at h; omega) j2
              have N := Lib.hid (And.intro hk34 (And.intro hl4 ht4))
              have hs4 := hk34.size
              clear hk34 hl4 ht4
              go_wp2_with fail
              clear hW4
              go_roundw
              case rel =>
                have hk45 : Keeps (fun b => b = lb) W4 (W4.setCell ⟨lb, j, none⟩ (.int .i64 b)) := Keeps.of_grown (setCell_grown0 _ _ _ _) rfl
                refine ⟨i + 1, L.set j b, T.set j true, by omega, by simp, HR.out.1.put HX.out.1 (by simp only; exact H12.out) hj2 hj1 rfl (.inr (by rw [HT.out.2, HZB.out])), ?_, (hk45.block tb (by omega) (fun h => by omega)).trans N.out.2.2, (M.out.2.2.1.trans' (N.out.1.mono (fun _ _ h => .inr h))).trans' (hk45.mono (fun _ _ h => .inl h))⟩
                rw [setCell_row0 j _ N.out.2.1]
                simp [intsV, List.map_set]
              case measure => simp [intOf]; omega
            · skip
              have hd7 : (z != b) = true := by simp [hzb]
              have hd8 : decide (z = b) = false := decide_eq_false hzb
              refine seq_take 6 (v := ?_) rfl (by kernel_rfl) (fun _ _ _ h => h) (by rfl) (fun w' hw' => ?_) ?_
              rotate_left
              · go_simp; try with_reducible rfl
              try simp only [List.getElem_toArray, List.getElem_cons_succ, List.getElem_cons_zero, Act.put, List.setIfInBounds_toArray, List.set_cons_zero, List.set_cons_succ]
              refine seq_take 7 (v := ?_) rfl (by kernel_rfl) (fun _ _ _ h => h) (by rfl) (fun w' hw' => ?_) ?_
              rotate_left
              · go_simp; try with_reducible rfl
              try simp only [List.getElem_toArray, List.getElem_cons_succ, List.getElem_cons_zero, Act.put, List.setIfInBounds_toArray, List.set_cons_zero, List.set_cons_succ]
              refine seq_take 8 rfl (by kernel_rfl) (fun _ _ _ h => h) (by rfl) (seq_ldi rfl rfl (KT.out.2.2.1)) ?_
              try simp only [List.getElem_toArray, List.getElem_cons_succ, List.getElem_cons_zero, Act.put, List.setIfInBounds_toArray, List.set_cons_zero, List.set_cons_succ]
              refine seq_take 9 (v := ?_) rfl (by kernel_rfl) (fun _ _ _ h => h) (by rfl) (fun w' hw' => ?_) ?_
              rotate_left
              · go_simp; try with_reducible rfl
              try simp only [List.getElem_toArray, List.getElem_cons_succ, List.getElem_cons_zero, Act.put, List.setIfInBounds_toArray, List.set_cons_zero, List.set_cons_succ]
              refine seq_take 10 rfl (by kernel_rfl) (fun _ _ _ h => h) (by rfl) (seq_ldi rfl rfl (KT.out.2.1)) ?_
              try simp only [List.getElem_toArray, List.getElem_cons_succ, List.getElem_cons_zero, Act.put, List.setIfInBounds_toArray, List.set_cons_zero, List.set_cons_succ]
              refine seq_take 11 (v := ?_) rfl (by kernel_rfl) (fun _ _ _ h => h) (by rfl) (fun w' hw' => ?_) ?_
              rotate_left
              · go_simp; try with_reducible rfl
              try simp only [List.getElem_toArray, List.getElem_cons_succ, List.getElem_cons_zero, Act.put, List.setIfInBounds_toArray, List.set_cons_zero, List.set_cons_succ]
              refine seq_take 12 rfl (by kernel_rfl) (fun _ _ _ h => h) (by rfl) (seq_ldi rfl rfl (KT.out.2.2.2)) ?_
              try simp only [List.getElem_toArray, List.getElem_cons_succ, List.getElem_cons_zero, Act.put, List.setIfInBounds_toArray, List.set_cons_zero, List.set_cons_succ]
              refine seq_take 13 (v := ?_) rfl (by kernel_rfl) (fun _ _ _ h => h) (by rfl) (fun w' hw' => ?_) ?_
              rotate_left
              · go_simp; try with_reducible rfl
              try simp only [List.getElem_toArray, List.getElem_cons_succ, List.getElem_cons_zero, Act.put, List.setIfInBounds_toArray, List.set_cons_zero, List.set_cons_succ]
              refine seq_take 14 (v := ?_) rfl (by kernel_rfl) (fun _ _ _ h => h) (by rfl) (fun w' hw' => ?_) ?_
              rotate_left
              · go_simp; try with_reducible rfl
              try simp only [List.getElem_toArray, List.getElem_cons_succ, List.getElem_cons_zero, Act.put, List.setIfInBounds_toArray, List.set_cons_zero, List.set_cons_succ]
              refine seq_done (by kernel_rfl) ?_
              go_wp2_with fail
              go_ret2
              refine ⟨?_, .inr ⟨rfl, HR.out.1.fail HX.out.1 (by simp only; exact H12.out) hj2 rfl HT.out.1 (fun h => hzb (by rw [HT.out.2] at h; exact Option.some.inj h)) flC⟩⟩
              rw [H.out.2.2.2.2.2]
              exact H2.out.2.2.2.drew
      · have hd2 : (op != 12) = true := by simp [h12]
        have hd3 : decide (op = 12) = false := decide_eq_false h12
        go_wp2_with fail
        clear hW2
        go_roundw
        case rel => exact ⟨i + 1, L, T, by omega, by simp, HR.out.1.skip HX.out.1 (fun h => absurd h h12), H2.out.2.1, H2.out.2.2.1, H2.out.1⟩
        case measure => simp [intOf]; omega
    · obtain rfl : i = c.ins.length := by omega
      have hd1 : decide ((c.ins.length : Int) < (c.ins.length : Int)) = false := decide_eq_false (by omega)
      have hlen := HR.out.1.len
      go_wp2_with fail
      go_ret2
      refine ⟨?_, .inl ⟨L, lb, by rw [hlen]; rfl, HR.out.1.frees, HR.out.2.1, ?_⟩⟩
      · rw [H.out.2.2.2.2.2]; exact HR.out.2.2.2.2.2.1
      · rw [H.out.2.2.2.2.2]; omega
end Go.Proofs.YtnhdefaagicejaaDoor
