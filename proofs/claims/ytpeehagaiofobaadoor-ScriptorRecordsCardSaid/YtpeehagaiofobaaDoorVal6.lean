/- The walks of val.get and val.Decode over a value's own bytes. -/
import Derived.Test.YtpeehagaiofobaaDoorVal5
import Derived.Test.YtpeehagaiofobaaDoorWalIn2
import Derived.Handy
namespace Go.Proofs.YtpeehagaiofobaaDoor
open Go.RowKit

section
variable {P : Program} {ops : Array Oper} {Q : Exit → Act → World → Prop}
/-- Two operations may come up: either may be the next. -/
theorem seqx_two (i j : Nat) {X : Nat → Prop} {o p : Oper} {k : Nat} {listed : Array Bool} {a : Act} {w : World} (hi : ops[i]? = some o) (hj : ops[j]? = some p) (hr : Region.ready .any ops listed = [i, j]) (hwi : Region.wanted o (yielded ops a.tmps) = true) (hwj : Region.wanted p (yielded ops a.tmps) = true)
    (h : ∀ K : Act → World → Prop, (∀ a' w', (Keeps X w w' ∧ SeqX P ops Q X k (listed.setIfInBounds i true) a' w') → K a' w') → o.wp P a w K Q)
    (h' : ∀ K : Act → World → Prop, (∀ a' w', (Keeps X w w' ∧ SeqX P ops Q X k (listed.setIfInBounds j true) a' w') → K a' w') → p.wp P a w K Q) : SeqX P ops Q X (k + 1) listed a w := by
  refine wpAnyH_all hr (by simp) fun n hn => ?_
  have hn' : n = i ∨ n = j := by simpa using hn
  rcases hn' with rfl | rfl
  · unfold wpOp
    simp only [hi, hwi, if_true]
    exact .inl (h _ fun a' w' ⟨hb, hs⟩ => ⟨hb, wpAnyH_stronger (fun w'' h'' => hb.trans' h'') _ _ _ _ hs⟩)
  · unfold wpOp
    simp only [hj, hwj, if_true]
    exact .inl (h' _ fun a' w' ⟨hb, hs⟩ => ⟨hb, wpAnyH_stronger (fun w'' h'' => hb.trans' h'') _ _ _ _ hs⟩)
end
/-- What get leaves where a value's bytes lie. -/
def GetOk (M : Nat) : Prop := ∀ (x : PV) (d : Nat), 201 ≤ d + M → rightV floatOk d x = true → ∀ (w : World) (gi : Nat) (rest : List UInt8), InAt w gi (encV x ++ rest, 0) →
  Calls Tryd.prog 31 #[.pointer (some ⟨gi, 0, none⟩), .int .i64 (d : Int)] w (fun e w' => ∃ cs : List Value, e = .returned (.agg cs.toArray) ∧ VIn w' (fun b => w.heap.size ≤ b) M cs x ∧ InAt w' gi (rest, 0) ∧ Keeps (fun j => j = gi) w w')
/-- In the midst of get: the result's block g0 = w.heap.size, the value's block g2. -/
def GS (w : World) (gi g2 : Nat) (k m : Int) (t : List UInt8) (ao : Option Addr) (n cap : Nat) (rest : List UInt8) (w' : World) : Prop :=
  w'.heap[w.heap.size]? = some (.cells #[.int .i64 0, .int .i64 0, .string ⟨#[]⟩, .slice none 0 0] 37 (0, 0)) ∧ w'.heap[g2]? = some (.cells #[.int .i64 k, .int .i64 m, .string ⟨t.toArray⟩, .slice ao n cap] 37 (0, 0)) ∧ InAt w' gi (rest, 0) ∧ Keeps (fun j => j = gi) w w' ∧ w.heap.size < g2 ∧ g2 < w'.heap.size ∧ gi < w.heap.size
theorem InAt.keepX {X : Nat → Prop} {w w' : World} {gi : Nat} {s : St} (h : InAt w gi s) (hk : Keeps X w w') (hX : ∀ j, X j → gi < j) : InAt w' gi s := by
  have hlt := h.lt
  obtain ⟨ao, cap, h1, h2, h3, h4⟩ := h
  exact ⟨ao, cap, (hk.block gi hlt (fun hx => Nat.lt_irrefl _ (hX gi hx))).trans h1, h2.keeps hk (fun b hb _ hx => by have h5 := h3 b hb; have h6 := hX b hx; omega), h3, h4⟩
theorem GS.num {w W w2 : World} {gi g2 : Nat} {k m : Int} {t : List UInt8} {ao : Option Addr} {n cap : Nat} {r1 r2 : List UInt8} (h : GS w gi g2 k m t ao n cap r1 W) (hin : InAt w2 gi (r2, 0)) (hg : W.grownBy w2 (some gi)) : GS w gi g2 k m t ao n cap r2 w2 := by
  obtain ⟨a, b, c, d, e, f, g⟩ := h
  have hs := hg.size
  exact ⟨(hg.block _ (by omega) (fun h => by cases h; omega)).trans a, (hg.block _ f (fun h => by cases h; omega)).trans b, hin, d.trans' (Keeps.of_grown hg rfl), e, by omega, g⟩
theorem GS.setX {w W : World} {gi g2 : Nat} {k m k' m' : Int} {t t' : List UInt8} {ao ao' : Option Addr} {n cap n' cap' : Nat} {r1 : List UInt8} (h : GS w gi g2 k m t ao n cap r1 W) (j : Nat) (v : Value) (he : (#[.int .i64 k, .int .i64 m, .string ⟨t.toArray⟩, .slice ao n cap] : Array Value).setIfInBounds j v = #[.int .i64 k', .int .i64 m', .string ⟨t'.toArray⟩, .slice ao' n' cap']) : GS w gi g2 k' m' t' ao' n' cap' r1 (W.setCell ⟨g2, j, none⟩ v) := by
  obtain ⟨a, b, c, d, e, f, g⟩ := h
  have hK : Keeps (fun i => i = g2) W (W.setCell ⟨g2, j, none⟩ v) := Keeps.of_grown (setCell_grown0 _ _ _ _) rfl
  refine ⟨(setCell_else0 W g2 j v _ (by omega)).trans a, ?_, c.keepX hK (fun i hi => by omega), d.trans hK (fun i hi hx => by omega), e, by have := hK.size; omega, g⟩
  rw [setCell_row0 j v b, he]
theorem GS.keepX {X : Nat → Prop} {w W W' : World} {gi g2 : Nat} {k m : Int} {t : List UInt8} {ao : Option Addr} {n cap : Nat} {r1 : List UInt8} (h : GS w gi g2 k m t ao n cap r1 W) (hk : Keeps X W W') (hX : ∀ j, X j → g2 < j) : GS w gi g2 k m t ao n cap r1 W' := by
  obtain ⟨a, b, c, d, e, f, g⟩ := h
  have hs := hk.size
  exact ⟨(hk.block _ (by omega) (fun h => by have := hX _ h; omega)).trans a, (hk.block _ f (fun h => by have := hX _ h; omega)).trans b, c.keepX hk (fun j hj => by have := hX j hj; omega), d.trans hk (fun i hi hx => by have := hX i hx; omega), e, by omega, g⟩
theorem GS.got {w W W' : World} {gi g2 : Nat} {k m : Int} {t : List UInt8} {ao : Option Addr} {n cap : Nat} {r1 r2 : List UInt8} (h : GS w gi g2 k m t ao n cap r1 W) (hin : InAt W' gi (r2, 0)) (hk : Keeps (fun j => j = gi) W W') : GS w gi g2 k m t ao n cap r2 W' := by
  obtain ⟨a, b, c, d, e, f, g⟩ := h
  have hs := hk.size
  exact ⟨(hk.block _ (by omega) (fun h => by omega)).trans a, (hk.block _ f (fun h => by omega)).trans b, hin, d.trans' hk, e, by omega, g⟩
theorem headB_cons (k m : Int) (t : List UInt8) (n : Nat) (l : List UInt8) : headB k m t n ++ l = enc k ++ ((if k = 0 ∨ k = 5 then enc m else if k = 1 ∨ k = 2 then encS t else if k = 3 then enc m ++ enc n else if k = 4 then enc n else []) ++ l) := by
  unfold headB
  rw [List.append_assoc]
theorem fits_tlen {k m : Int} {t : List UInt8} {n : Nat} (h : fitsV floatOk k m t n = true) : t.length ≤ 4096 := by
  unfold fitsV at h
  repeat' split at h
  all_goals simp at h
  all_goals first
    | omega
    | (obtain ⟨⟨rfl, _⟩, _⟩ := h; simp)
    | (obtain ⟨⟨_, rfl⟩, _⟩ := h; simp)
    | (obtain ⟨⟨⟨rfl, _⟩, _⟩, _⟩ := h; simp)
theorem results_get (tmps : Array Value) (W : World) (g : Nat) (k m : Int) (t : List UInt8) (ao : Option Addr) (n cap : Nat) (hp : tmps[4]?.getD undef = .pointer (some ⟨g, 0, none⟩)) (hc : ValAt W g k m t ao n cap) :
    (results Tryd.f31 tmps).run Tryd.prog W = .ok (valV k m t ao n cap) W := by
  obtain ⟨c0, c1, c2, c3⟩ := hc
  have hu := Tryd.underlying37
  unfold valV
  simp only [results, Tryd.results31]
  go_simp
theorem fits_kind {k m : Int} {t : List UInt8} {n : Nat} (h : fitsV floatOk k m t n = true) : 0 ≤ k ∧ k ≤ 6 := by
  unfold fitsV at h
  repeat' split at h
  all_goals simp at h
  all_goals omega
set_option maxRecDepth 100000 in
set_option maxHeartbeats 4000000 in
theorem get_any : ∀ M : Nat, GetOk M
  | 0 => fun x d hd h => by
    obtain ⟨k, m, t, ks⟩ := x
    have := (rightV_mk h).2.2
    omega
  | M + 1 => by
    have ih := get_any M
    rintro ⟨k, m, t, ks⟩ d hd hright w gi rest hin
    obtain ⟨hfit, hrs, hd200⟩ := rightV_mk hright
    have hkd := fits_kind hfit
    obtain ⟨⟨k0, k1⟩, m0, m1⟩ := fits_num hfit
    have hgi := hin.lt
    rw [encV, List.append_assoc, headB_cons] at hin
    have hW : InAt (w.alloc (.cells #[.int .i64 0, .int .i64 0, .string ⟨#[]⟩, .slice none 0 0] 37)) gi _ := hin.below ((Below.refl _ w).alloc (Nat.le_refl _) _)
    have H := Lib.hid (And.intro hW (And.intro hfit hrs))
    have hdd : decide (200 < (d : Int)) = false := decide_eq_false (by omega)
    clear hin hright hfit hrs hW
    go_enter Tryd.func31, Tryd.ntmps31
    go_wp2_with fail
    refine (inum_any gi _ 0 6 _ H.out.1).mono ?_
    rintro e w1 ⟨rfl, hin1, hg1⟩
    rw [numR_encI 0 6 k _ hkd.1 hkd.2 k0 k1] at hin1 ⊢
    have hs1 := hg1.size
    simp only [World.size_alloc] at hs1
    have hr01 : w1.heap[w.heap.size]? = some (.cells #[.int .i64 0, .int .i64 0, .string ⟨#[]⟩, .slice none 0 0] 37 (0, 0)) := (hg1.block w.heap.size (by simp) (fun h => by cases h; omega)).trans (heap_alloc_new w _)
    have hk1 : Keeps (fun j => j = gi) w w1 := (Keeps.alloc (fun j => j = gi) w _).trans' (Keeps.of_grown hg1 rfl)
    have hbA := fun (o : Obj) => (Below.refl w1.heap.size w1).alloc (Nat.le_refl _) o
    have hgs : GS w gi w1.heap.size k 0 [] none 0 0 _ (w1.alloc (.cells #[.int .i64 k, .int .i64 0, .string ⟨#[]⟩, .slice none 0 0] 37)) := ⟨((hbA _).block _ (by omega)).trans hr01, heap_alloc_new w1 _, hin1.below (hbA _), hk1.trans' (Keeps.alloc _ _ _), by omega, by simp, hgi⟩
    have HG := Lib.hid hgs
    clear hin1 hg1 hr01 hk1 hbA hgs
    go_upto_block 0 with (fail)
    generalize hg2 : w1.heap.size = g2 at *
    generalize hW1 : (w1.alloc (.cells #[.int .i64 k, .int .i64 0, .string ⟨#[]⟩, .slice none 0 0] 37)) = W1 at *
    clear hg2 hW1
    go_cut [6] from 17 to 43 (fun v6 w' => v6 = .int .i64 (ks.length : Int) ∧ GS w gi g2 k m t none 0 0 (encVs ks ++ rest) w')
    case first =>
      by_cases h0 : k = 0
      · subst h0
        · skip
          have hf := H.out.2.1
          simp [fitsV] at hf
          obtain ⟨HF1, hks0⟩ : t = [] ∧ ks = [] := by
            first
            | exact ⟨hf.1.1, List.eq_nil_of_length_eq_zero (by simpa using hf.1.2)⟩
            | exact ⟨by simp_all, by simp_all⟩
          subst HF1 hks0
          have hmlo : -4611686018427387904 ≤ m ∧ m ≤ 4611686018427387903 := by simp at hf; omega
          have hin0 := HG.out.2.2.1
          rw [show (if (0 : Int) = 0 ∨ (0 : Int) = 5 then enc m else if (0 : Int) = 1 ∨ (0 : Int) = 2 then encS [] else if (0 : Int) = 3 then enc m ++ enc (([] : List PV).length : Int) else if (0 : Int) = 4 then enc (([] : List PV).length : Int) else []) = enc m by simp] at hin0
          have hn := inum_any gi _ (-4611686018427387904) 4611686018427387903 W1 hin0
          rw [numR_encI (-4611686018427387904) 4611686018427387903 m _ hmlo.1 hmlo.2 m0 m1] at hn
          have hcell := cell_of_row W1 g2 0 _ _ (0, 0) HG.out.2.1
          have HN := Lib.hid hn
          clear hn hin0 hf hmlo
          go_wp2_with fail
          refine HN.out.mono ?_
          rintro e w2 ⟨rfl, hin2, hg2⟩
          have HG2 := Lib.hid (HG.out.num hin2 hg2)
          have hc1 := cell_of_row w2 g2 1 _ _ (0, 0) HG2.out.2.1
          have hfz := frozen_of_row w2 g2 1 _ _ HG2.out.2.1
          clear hin2 hg2 hcell
          go_wp2_with fail
          go_meet
          case rel => exact ⟨rfl, HG2.out.setX 1 _ rfl⟩
      by_cases h5 : k = 5
      · subst h5
        · clear h0
          have hf := H.out.2.1
          simp [fitsV] at hf
          obtain ⟨HF1, hks0⟩ : t = [] ∧ ks = [] := by
            first
            | exact ⟨hf.1.1, List.eq_nil_of_length_eq_zero (by simpa using hf.1.2)⟩
            | exact ⟨by simp_all, by simp_all⟩
          subst HF1 hks0
          have hmlo : 1 ≤ m ∧ m ≤ 1099511627776 := by simp at hf; omega
          have hin0 := HG.out.2.2.1
          rw [show (if (5 : Int) = 0 ∨ (5 : Int) = 5 then enc m else if (5 : Int) = 1 ∨ (5 : Int) = 2 then encS [] else if (5 : Int) = 3 then enc m ++ enc (([] : List PV).length : Int) else if (5 : Int) = 4 then enc (([] : List PV).length : Int) else []) = enc m by simp] at hin0
          have hn := inum_any gi _ (1) 1099511627776 W1 hin0
          rw [numR_encI (1) 1099511627776 m _ hmlo.1 hmlo.2 m0 m1] at hn
          have hcell := cell_of_row W1 g2 0 _ _ (0, 0) HG.out.2.1
          have HN := Lib.hid hn
          clear hn hin0 hf hmlo
          go_wp2_with fail
          refine HN.out.mono ?_
          rintro e w2 ⟨rfl, hin2, hg2⟩
          have HG2 := Lib.hid (HG.out.num hin2 hg2)
          have hc1 := cell_of_row w2 g2 1 _ _ (0, 0) HG2.out.2.1
          have hfz := frozen_of_row w2 g2 1 _ _ HG2.out.2.1
          clear hin2 hg2 hcell
          go_wp2_with fail
          go_meet
          case rel => exact ⟨rfl, HG2.out.setX 1 _ rfl⟩
      by_cases h1 : k = 1
      · subst h1
        · clear h0 h5
          have hf := H.out.2.1
          have htl := fits_text hf (by decide)
          simp [fitsV] at hf
          obtain ⟨HF1, hks0⟩ : m = 0 ∧ ks = [] := ⟨by simp_all, by simp_all⟩
          subst HF1 hks0
          have hin0 := HG.out.2.2.1
          rw [show (if (1 : Int) = 0 ∨ (1 : Int) = 5 then enc 0 else if (1 : Int) = 1 ∨ (1 : Int) = 2 then encS t else if (1 : Int) = 3 then enc 0 ++ enc (([] : List PV).length : Int) else if (1 : Int) = 4 then enc (([] : List PV).length : Int) else []) = encS t by simp] at hin0
          have hn := istr_any gi _ 4096 W1 hin0
          rw [strR_encS 4096 t _ (by omega) (by omega)] at hn
          have hcell := cell_of_row W1 g2 0 _ _ (0, 0) HG.out.2.1
          have HN := Lib.hid hn
          clear hn hin0 hf
          go_wp2_with fail
          refine HN.out.mono ?_
          rintro e w2 ⟨rfl, hin2, hg2⟩
          have HG2 := Lib.hid (HG.out.num hin2 hg2)
          have hc1 := cell_of_row w2 g2 2 _ _ (0, 0) HG2.out.2.1
          have hfz := frozen_of_row w2 g2 2 _ _ HG2.out.2.1
          clear hin2 hg2 hcell
          go_wp2_with fail
          go_meet
          case rel => exact ⟨rfl, HG2.out.setX 2 _ rfl⟩
      by_cases h2 : k = 2
      · subst h2
        · clear h0 h5 h1
          have hf := H.out.2.1
          have htl := fits_text hf (by decide)
          simp [fitsV] at hf
          obtain ⟨HF1, hks0⟩ : m = 0 ∧ ks = [] := ⟨by simp_all, by simp_all⟩
          subst HF1 hks0
          have hin0 := HG.out.2.2.1
          rw [show (if (2 : Int) = 0 ∨ (2 : Int) = 5 then enc 0 else if (2 : Int) = 1 ∨ (2 : Int) = 2 then encS t else if (2 : Int) = 3 then enc 0 ++ enc (([] : List PV).length : Int) else if (2 : Int) = 4 then enc (([] : List PV).length : Int) else []) = encS t by simp] at hin0
          have hn := istr_any gi _ 4096 W1 hin0
          rw [strR_encS 4096 t _ (by omega) (by omega)] at hn
          have hcell := cell_of_row W1 g2 0 _ _ (0, 0) HG.out.2.1
          have HN := Lib.hid hn
          clear hn hin0 hf
          go_wp2_with fail
          refine HN.out.mono ?_
          rintro e w2 ⟨rfl, hin2, hg2⟩
          have HG2 := Lib.hid (HG.out.num hin2 hg2)
          have hc1 := cell_of_row w2 g2 2 _ _ (0, 0) HG2.out.2.1
          have hfz := frozen_of_row w2 g2 2 _ _ HG2.out.2.1
          clear hin2 hg2 hcell
          go_wp2_with fail
          go_meet
          case rel => exact ⟨rfl, HG2.out.setX 2 _ rfl⟩
      by_cases h3 : k = 3
      · subst h3
        · clear h0 h5 h1 h2
          have hf := H.out.2.1
          simp [fitsV] at hf
          obtain ⟨HF1, hmlo, hkn⟩ : t = [] ∧ (0 ≤ m ∧ m ≤ 255) ∧ ks.length ≤ 8 := ⟨by simp_all, by omega, by omega⟩
          subst HF1
          have hin0 := HG.out.2.2.1
          rw [show (if (3 : Int) = 0 ∨ (3 : Int) = 5 then enc m else if (3 : Int) = 1 ∨ (3 : Int) = 2 then encS [] else if (3 : Int) = 3 then enc m ++ enc (ks.length : Int) else if (3 : Int) = 4 then enc (ks.length : Int) else []) = enc m ++ enc (ks.length : Int) by simp, List.append_assoc] at hin0
          have hn := inum_any gi _ 0 255 W1 hin0
          rw [numR_encI 0 255 m _ hmlo.1 hmlo.2 m0 m1] at hn
          have hcell := cell_of_row W1 g2 0 _ _ (0, 0) HG.out.2.1
          have HN := Lib.hid hn
          clear hn hin0 hf hmlo
          go_wp2_with fail
          refine HN.out.mono ?_
          rintro e w2 ⟨rfl, hin2, hg2⟩
          have HG2 := Lib.hid (HG.out.num hin2 hg2)
          have hc1 := cell_of_row w2 g2 1 _ _ (0, 0) HG2.out.2.1
          have hfz := frozen_of_row w2 g2 1 _ _ HG2.out.2.1
          clear hin2 hg2 hcell
          go_wp2_with fail
          have HG3 := Lib.hid (show GS w gi g2 3 m [] none 0 0 _ (w2.setCell ⟨g2, 1, none⟩ (.int .i64 m)) from HG2.out.setX 1 _ rfl)
          have hn := inum_any gi _ 0 8 (w2.setCell ⟨g2, 1, none⟩ (.int .i64 m)) HG3.out.2.2.1
          rw [numR_encI 0 8 (ks.length : Int) _ (by omega) (by omega) (by omega) (by omega)] at hn
          refine hn.mono ?_
          rintro e w3 ⟨rfl, hin3, hg3⟩
          have HG4 := Lib.hid (HG3.out.num hin3 hg3)
          clear hin3 hg3 hn hc1 hfz
          go_wp2_with fail
          go_meet
          case rel => exact ⟨rfl, HG4.out⟩
      by_cases h4 : k = 4
      · subst h4
        · clear h0 h5 h1 h2 h3
          have hf := H.out.2.1
          simp [fitsV] at hf
          obtain ⟨HF1, HF2, hkn⟩ : t = [] ∧ m = 0 ∧ (2 ≤ ks.length ∧ ks.length ≤ 8) := ⟨by simp_all, by simp_all, by omega, by omega⟩
          subst HF1 HF2
          have hin0 := HG.out.2.2.1
          rw [show (if (4 : Int) = 0 ∨ (4 : Int) = 5 then enc 0 else if (4 : Int) = 1 ∨ (4 : Int) = 2 then encS [] else if (4 : Int) = 3 then enc 0 ++ enc (ks.length : Int) else if (4 : Int) = 4 then enc (ks.length : Int) else []) = enc (ks.length : Int) by simp] at hin0
          have hn := inum_any gi _ 2 8 W1 hin0
          rw [numR_encI 2 8 (ks.length : Int) _ (by omega) (by omega) (by omega) (by omega)] at hn
          have hcell := cell_of_row W1 g2 0 _ _ (0, 0) HG.out.2.1
          have HN := Lib.hid hn
          clear hn hin0 hf
          go_wp2_with fail
          refine HN.out.mono ?_
          rintro e w2 ⟨rfl, hin2, hg2⟩
          have HG2 := Lib.hid (HG.out.num hin2 hg2)
          clear hin2 hg2 hcell
          go_wp2_with fail
          go_meet
          case rel => exact ⟨rfl, HG2.out⟩
      · obtain rfl : k = 6 := by omega
        clear h0 h5 h1 h2 h3 h4
        have hf := H.out.2.1
        simp [fitsV] at hf
        obtain ⟨HF1, HF2, hks0⟩ : t = [] ∧ m = 0 ∧ ks = [] := ⟨by simp_all, by simp_all, by simp_all⟩
        subst HF1 HF2 hks0
        have hg6 := HG.out
        rw [show (if (6 : Int) = 0 ∨ (6 : Int) = 5 then enc 0 else if (6 : Int) = 1 ∨ (6 : Int) = 2 then encS [] else if (6 : Int) = 3 then enc 0 ++ enc (([] : List PV).length : Int) else if (6 : Int) = 4 then enc (([] : List PV).length : Int) else []) = [] by simp, List.nil_append] at hg6
        have hcell := cell_of_row W1 g2 0 _ _ (0, 0) hg6.2.1
        have HG2 := Lib.hid hg6
        clear hg6 hf
        go_wp2_with fail
        go_meet
        case rel => exact ⟨rfl, HG2.out⟩
    case rest =>
      obtain ⟨rfl, hgs⟩ := hcut
      have hkl := fits_kids H.out.2.1
      have HG0 := Lib.hid hgs
      clear hgs
      go_wp2_with fail
      go_loopw [45] (fun v45 wr => ∃ (i : Nat) (ao : Option Addr) (cap : Nat), i ≤ ks.length ∧ v45 = .int .i64 (i : Int) ∧ GS w gi g2 k m t ao i cap (encVs (ks.drop i) ++ rest) wr ∧ ValsOwn wr (g2 + 1) (fun b => g2 < b ∧ b < wr.heap.size ∧ blk ao ≠ some b) M ao cap (ks.take i)) (fun v45 _ => ks.length - (intOf v45).toNat)
      case atStart => exact ⟨0, none, 0, by omega, rfl, by simpa using HG0.out, by simpa using ValsOwn.nil _ _ _ _⟩
      case round =>
        obtain ⟨i, ao, cap, hi, rfl, hgs, hown⟩ := hrel
        have HGI := Lib.hid hgs
        have HOW := Lib.hid hown
        clear hgs hown
        by_cases hlt : i < ks.length
        · have hd1 : decide ((i : Int) < (ks.length : Int)) = true := decide_eq_true (by omega)
          have hri := rightVs_get H.out.2.2 i hlt
          obtain ⟨x, hx⟩ : ∃ x, ks[i] = x := ⟨_, rfl⟩
          have hdrop : encVs (ks.drop i) ++ rest = encV x ++ (encVs (ks.drop (i + 1)) ++ rest) := by rw [List.drop_eq_getElem_cons hlt, encVs, hx, List.append_assoc]
          rw [hx] at hri
          rw [hdrop] at HGI
          have HX := Lib.hid (And.intro hri hx)
          clear hri hx hdrop
          go_wp2_with fail
          refine (err_any gi _ wr HGI.out.2.2.1).mono ?_
          rintro e w2 ⟨rfl, rfl⟩
          go_wp2_with fail
          cases M with
          | zero =>
            exfalso
            obtain ⟨_, _, _, _⟩ := x
            have := (rightV_mk HX.out.1).2.2
            omega
          | succ n' =>
          obtain ⟨ky, my, ty, kys⟩ := x
          have hget := ih (.mk ky my ty kys) (d + 1) (by omega) HX.out.1 w2.drew gi _ (HGI.out.2.2.1.below (Below.refl _ w2).drew)
          rw [show (((d + 1 : Nat)) : Int) = (d : Int) + 1 by simp] at hget
          have HGET := Lib.hid hget
          obtain ⟨_, _, _, _, hg2w, hg2s, hgiw⟩ := HGI.out
          clear hget
          refine seqx_start (fun j => j = gi ∨ g2 ≤ j) (by kernel_rfl) ?_
          refine seqx_take 0 (v := ?_) rfl (by kernel_rfl) (fun _ _ _ h => h) (by rfl) (fun w' hw' => ?_) ?_
          rotate_left
          · go_simp; try with_reducible rfl
          try simp only [List.getElem_toArray, List.getElem_cons_succ, List.getElem_cons_zero, Act.put, List.setIfInBounds_toArray, List.set_cons_zero, List.set_cons_succ]
          refine seqx_take 2 (v := ?_) rfl (by kernel_rfl) (fun _ _ _ h => h) (by rfl) (fun w' hw' => ?_) ?_
          rotate_left
          · go_simp; try with_reducible rfl
          try simp only [List.getElem_toArray, List.getElem_cons_succ, List.getElem_cons_zero, Act.put, List.setIfInBounds_toArray, List.set_cons_zero, List.set_cons_succ]
          refine seqx_take 3 (v := ?_) rfl (by kernel_rfl) (fun _ _ _ h => h) (by rfl) (fun w' hw' => ?_) ?_
          rotate_left
          · go_simp; try with_reducible rfl
          try simp only [List.getElem_toArray, List.getElem_cons_succ, List.getElem_cons_zero, Act.put, List.setIfInBounds_toArray, List.set_cons_zero, List.set_cons_succ]
          refine seqx_take 4 (v := ?_) rfl (by kernel_rfl) (fun _ _ _ h => h) (by rfl) (fun w' hw' => ?_) ?_
          rotate_left
          · go_simp; try with_reducible rfl
          try simp only [List.getElem_toArray, List.getElem_cons_succ, List.getElem_cons_zero, Act.put, List.setIfInBounds_toArray, List.set_cons_zero, List.set_cons_succ]
          refine seqx_two 1 5 rfl rfl (by kernel_rfl) (by rfl) (by rfl) (fun KK hKK => ?_) (fun KK hKK => ?_)
          · skip
            have c3 : (w2.drew).cell? ⟨g2, 3, none⟩ = some (.slice ao i cap) := cell_of_row w2 g2 3 _ _ (0, 0) HGI.out.2.1
            go_wp2_with fail
            refine ⟨Keeps.refl _ _, ?_⟩
            clear c3
            refine seqx_run 5 rfl (by kernel_rfl) (by rfl) (fun KK hKK => ?_)
            go_wp2_with fail
            refine HGET.out.mono ?_
            rintro e w3 ⟨cs', rfl, hv3, hin3, hk3⟩
            obtain ⟨yo, ycap, hyv, hycs, _⟩ := hv3.val
            rw [hyv]
            rw [hycs] at hv3
            unfold valV
            have hs3 := hk3.size
            simp only [World.size_drew] at hs3
            have hk23 : Keeps (fun j => j = gi) w2 w3 := (Keeps.drew _ w2).trans' hk3
            have HG3 := Lib.hid (HGI.out.got hin3 hk23)
            have HV3 := Lib.hid (show VIn w3 (fun b => g2 < b ∧ b < w3.heap.size ∧ blk ao ≠ some b) (n' + 1) _ _ from hv3.there.mono (fun j hj => ⟨by have h1 := hj.1; simp only [World.size_drew] at h1; omega, hj.2, fun h => by have h1 := hj.1; have h2 := (HOW.out.lt j h).2; simp only [World.size_drew] at h1; omega⟩))
            have HO3 := Lib.hid (show ValsOwn w3 (g2 + 1) (fun b => g2 < b ∧ b < w3.heap.size ∧ blk ao ≠ some b) (n' + 1) ao cap (ks.take i) from (HOW.out.keeps hk23 (fun j hj hx => by have := hj.1; omega) (fun j hj hx => by have := (HOW.out.lt j hj).1; omega)).grow (fun j hj => ⟨hj.1, by have := hj.2.1; omega, hj.2.2⟩) (fun j hj hd => hd.2.2 hj) (Nat.le_refl _))
            have HK3 := Lib.hid (show Keeps (fun j => j = gi ∨ g2 ≤ j) w2.drew w3 from hk3.mono (fun _ _ h => .inl h))
            clear hv3 hin3 hk3 hk23 hyv hycs
            go_wp2_with fail
            refine ⟨HK3.out, ?_⟩
            refine seqx_run 6 rfl (by kernel_rfl) (by rfl) (fun KK hKK => ?_)
            go_wp2_with fail
            refine ⟨Keeps.alloc _ _ _, ?_⟩
            refine seqx_run 7 rfl (by kernel_rfl) (by rfl) (fun KK hKK => ?_)
            refine wp_val _ _ rfl (g2 + 1) (fun b => g2 < b ∧ b < w3.heap.size ∧ blk ao ≠ some b) (n' + 1) ao cap i (ks.take i) (by rw [List.length_take]; omega) rfl HO3.out ky my ty yo kys.length ycap (.mk ky my ty kys) HV3.out rfl (fun j hj => hj.2.1) (by omega) (by omega) ?_
            rintro ao4 cap4 w4 q1 q2 q3 q4
            have HG4 := Lib.hid (HG3.out.keepX q2 (fun j hj => by have := (HO3.out.lt j hj).1; omega))
            have HQ4 := Lib.hid (And.intro q1 (And.intro q3 q2.size))
            refine hKK _ _ ⟨q4.mono fun j _ hj => .inr (by have := (HO3.out.lt j hj).1; omega), ?_⟩
            clear q1 q2 q3 q4
            refine seqx_take 8 (v := ?_) rfl (by kernel_rfl) (fun _ _ _ h => h) (by rfl) (fun w' hw' => ?_) ?_
            rotate_left
            · go_simp; try with_reducible rfl
            try simp only [List.getElem_toArray, List.getElem_cons_succ, List.getElem_cons_zero, Act.put, List.setIfInBounds_toArray, List.set_cons_zero, List.set_cons_succ]
            refine seqx_run 9 rfl (by kernel_rfl) (by rfl) (fun KK hKK => ?_)
            have hc3 := cell_of_row w4 g2 3 _ _ (0, 0) HG4.out.2.1
            have hfz := frozen_of_row w4 g2 3 _ _ HG4.out.2.1
            go_wp2_with fail
            refine ⟨Keeps.of_grown (setCell_grown0 _ _ _ _) (.inr (Nat.le_refl _)), ?_⟩
            clear hc3 hfz
            refine seqx_done (by kernel_rfl) ?_
            go_wp2_with fail
            go_roundw
            case rel =>
              have hsz4 := HQ4.out.2.2
              have hss : (w4.setCell ⟨g2, 3, none⟩ (.slice ao4 (i + 1) cap4)).heap.size = w4.heap.size := by simp
              have hK9 : Keeps (fun j => j = g2) w4 (w4.setCell ⟨g2, 3, none⟩ (.slice ao4 (i + 1) cap4)) := Keeps.of_grown (setCell_grown0 _ _ _ _) rfl
              refine ⟨i + 1, ao4, cap4, by omega, by simp, HG4.out.setX 3 _ rfl, ?_⟩
              rw [List.take_succ_eq_append_getElem hlt, HX.out.2]
              refine (HQ4.out.1.keeps hK9 (fun j hj hx => by have := hj.1; omega) (fun j hj hx => by have := (HQ4.out.1.lt j hj).1; omega)).grow (fun j hj => ⟨hj.1, by rw [hss]; have := hj.2.1; omega, fun h => ?_⟩) (fun j hj hd => hd.2.2 hj) (Nat.le_refl _)
              rcases HQ4.out.2.1 j h with h | h
              · exact hj.2.2 h
              · have := hj.2.1; omega
            case measure => simp [intOf]; omega
          · go_wp2_with fail
            refine HGET.out.mono ?_
            rintro e w3 ⟨cs', rfl, hv3, hin3, hk3⟩
            obtain ⟨yo, ycap, hyv, hycs, _⟩ := hv3.val
            rw [hyv]
            rw [hycs] at hv3
            unfold valV
            have hs3 := hk3.size
            simp only [World.size_drew] at hs3
            have hk23 : Keeps (fun j => j = gi) w2 w3 := (Keeps.drew _ w2).trans' hk3
            have HG3 := Lib.hid (HGI.out.got hin3 hk23)
            have HV3 := Lib.hid (show VIn w3 (fun b => g2 < b ∧ b < w3.heap.size ∧ blk ao ≠ some b) (n' + 1) _ _ from hv3.there.mono (fun j hj => ⟨by have h1 := hj.1; simp only [World.size_drew] at h1; omega, hj.2, fun h => by have h1 := hj.1; have h2 := (HOW.out.lt j h).2; simp only [World.size_drew] at h1; omega⟩))
            have HO3 := Lib.hid (show ValsOwn w3 (g2 + 1) (fun b => g2 < b ∧ b < w3.heap.size ∧ blk ao ≠ some b) (n' + 1) ao cap (ks.take i) from (HOW.out.keeps hk23 (fun j hj hx => by have := hj.1; omega) (fun j hj hx => by have := (HOW.out.lt j hj).1; omega)).grow (fun j hj => ⟨hj.1, by have := hj.2.1; omega, hj.2.2⟩) (fun j hj hd => hd.2.2 hj) (Nat.le_refl _))
            have HK3 := Lib.hid (show Keeps (fun j => j = gi ∨ g2 ≤ j) w2.drew w3 from hk3.mono (fun _ _ h => .inl h))
            clear hv3 hin3 hk3 hk23 hyv hycs
            go_wp2_with fail
            refine ⟨HK3.out, ?_⟩
            refine seqx_two 1 6 rfl rfl (by kernel_rfl) (by rfl) (by rfl) (fun KK hKK => ?_) (fun KK hKK => ?_)
            · skip
              have c3 : (w3).cell? ⟨g2, 3, none⟩ = some (.slice ao i cap) := cell_of_row w3 g2 3 _ _ (0, 0) HG3.out.2.1
              go_wp2_with fail
              refine ⟨Keeps.refl _ _, ?_⟩
              clear c3
              refine seqx_run 6 rfl (by kernel_rfl) (by rfl) (fun KK hKK => ?_)
              go_wp2_with fail
              refine ⟨Keeps.alloc _ _ _, ?_⟩
              refine seqx_run 7 rfl (by kernel_rfl) (by rfl) (fun KK hKK => ?_)
              refine wp_val _ _ rfl (g2 + 1) (fun b => g2 < b ∧ b < w3.heap.size ∧ blk ao ≠ some b) (n' + 1) ao cap i (ks.take i) (by rw [List.length_take]; omega) rfl HO3.out ky my ty yo kys.length ycap (.mk ky my ty kys) HV3.out rfl (fun j hj => hj.2.1) (by omega) (by omega) ?_
              rintro ao4 cap4 w4 q1 q2 q3 q4
              have HG4 := Lib.hid (HG3.out.keepX q2 (fun j hj => by have := (HO3.out.lt j hj).1; omega))
              have HQ4 := Lib.hid (And.intro q1 (And.intro q3 q2.size))
              refine hKK _ _ ⟨q4.mono fun j _ hj => .inr (by have := (HO3.out.lt j hj).1; omega), ?_⟩
              clear q1 q2 q3 q4
              refine seqx_take 8 (v := ?_) rfl (by kernel_rfl) (fun _ _ _ h => h) (by rfl) (fun w' hw' => ?_) ?_
              rotate_left
              · go_simp; try with_reducible rfl
              try simp only [List.getElem_toArray, List.getElem_cons_succ, List.getElem_cons_zero, Act.put, List.setIfInBounds_toArray, List.set_cons_zero, List.set_cons_succ]
              refine seqx_run 9 rfl (by kernel_rfl) (by rfl) (fun KK hKK => ?_)
              have hc3 := cell_of_row w4 g2 3 _ _ (0, 0) HG4.out.2.1
              have hfz := frozen_of_row w4 g2 3 _ _ HG4.out.2.1
              go_wp2_with fail
              refine ⟨Keeps.of_grown (setCell_grown0 _ _ _ _) (.inr (Nat.le_refl _)), ?_⟩
              clear hc3 hfz
              refine seqx_done (by kernel_rfl) ?_
              go_wp2_with fail
              go_roundw
              case rel =>
                have hsz4 := HQ4.out.2.2
                have hss : (w4.setCell ⟨g2, 3, none⟩ (.slice ao4 (i + 1) cap4)).heap.size = w4.heap.size := by simp
                have hK9 : Keeps (fun j => j = g2) w4 (w4.setCell ⟨g2, 3, none⟩ (.slice ao4 (i + 1) cap4)) := Keeps.of_grown (setCell_grown0 _ _ _ _) rfl
                refine ⟨i + 1, ao4, cap4, by omega, by simp, HG4.out.setX 3 _ rfl, ?_⟩
                rw [List.take_succ_eq_append_getElem hlt, HX.out.2]
                refine (HQ4.out.1.keeps hK9 (fun j hj hx => by have := hj.1; omega) (fun j hj hx => by have := (HQ4.out.1.lt j hj).1; omega)).grow (fun j hj => ⟨hj.1, by rw [hss]; have := hj.2.1; omega, fun h => ?_⟩) (fun j hj hd => hd.2.2 hj) (Nat.le_refl _)
                rcases HQ4.out.2.1 j h with h | h
                · exact hj.2.2 h
                · have := hj.2.1; omega
              case measure => simp [intOf]; omega
            · skip
              go_wp2_with fail
              refine ⟨Keeps.alloc _ _ _, ?_⟩
              refine seqx_run 1 rfl (by kernel_rfl) (by rfl) (fun KK hKK => ?_)
              have c3 : (w3.alloc (.cells #[.int .i64 ky, .int .i64 my, .string ⟨ty.toArray⟩, .slice yo kys.length ycap] 37)).cell? ⟨g2, 3, none⟩ = some (.slice ao i cap) := (World.cell?_of_block (a := ⟨g2, 3, none⟩) (Below.heap_alloc w3 _ _ HG3.out.2.2.2.2.2.1)).trans (cell_of_row w3 g2 3 _ _ (0, 0) HG3.out.2.1)
              go_wp2_with fail
              refine ⟨Keeps.refl _ _, ?_⟩
              clear c3
              refine seqx_run 7 rfl (by kernel_rfl) (by rfl) (fun KK hKK => ?_)
              refine wp_val _ _ rfl (g2 + 1) (fun b => g2 < b ∧ b < w3.heap.size ∧ blk ao ≠ some b) (n' + 1) ao cap i (ks.take i) (by rw [List.length_take]; omega) rfl HO3.out ky my ty yo kys.length ycap (.mk ky my ty kys) HV3.out rfl (fun j hj => hj.2.1) (by omega) (by omega) ?_
              rintro ao4 cap4 w4 q1 q2 q3 q4
              have HG4 := Lib.hid (HG3.out.keepX q2 (fun j hj => by have := (HO3.out.lt j hj).1; omega))
              have HQ4 := Lib.hid (And.intro q1 (And.intro q3 q2.size))
              refine hKK _ _ ⟨q4.mono fun j _ hj => .inr (by have := (HO3.out.lt j hj).1; omega), ?_⟩
              clear q1 q2 q3 q4
              refine seqx_take 8 (v := ?_) rfl (by kernel_rfl) (fun _ _ _ h => h) (by rfl) (fun w' hw' => ?_) ?_
              rotate_left
              · go_simp; try with_reducible rfl
              try simp only [List.getElem_toArray, List.getElem_cons_succ, List.getElem_cons_zero, Act.put, List.setIfInBounds_toArray, List.set_cons_zero, List.set_cons_succ]
              refine seqx_run 9 rfl (by kernel_rfl) (by rfl) (fun KK hKK => ?_)
              have hc3 := cell_of_row w4 g2 3 _ _ (0, 0) HG4.out.2.1
              have hfz := frozen_of_row w4 g2 3 _ _ HG4.out.2.1
              go_wp2_with fail
              refine ⟨Keeps.of_grown (setCell_grown0 _ _ _ _) (.inr (Nat.le_refl _)), ?_⟩
              clear hc3 hfz
              refine seqx_done (by kernel_rfl) ?_
              go_wp2_with fail
              go_roundw
              case rel =>
                have hsz4 := HQ4.out.2.2
                have hss : (w4.setCell ⟨g2, 3, none⟩ (.slice ao4 (i + 1) cap4)).heap.size = w4.heap.size := by simp
                have hK9 : Keeps (fun j => j = g2) w4 (w4.setCell ⟨g2, 3, none⟩ (.slice ao4 (i + 1) cap4)) := Keeps.of_grown (setCell_grown0 _ _ _ _) rfl
                refine ⟨i + 1, ao4, cap4, by omega, by simp, HG4.out.setX 3 _ rfl, ?_⟩
                rw [List.take_succ_eq_append_getElem hlt, HX.out.2]
                refine (HQ4.out.1.keeps hK9 (fun j hj hx => by have := hj.1; omega) (fun j hj hx => by have := (HQ4.out.1.lt j hj).1; omega)).grow (fun j hj => ⟨hj.1, by rw [hss]; have := hj.2.1; omega, fun h => ?_⟩) (fun j hj hd => hd.2.2 hj) (Nat.le_refl _)
                rcases HQ4.out.2.1 j h with h | h
                · exact hj.2.2 h
                · have := hj.2.1; omega
              case measure => simp [intOf]; omega
        · obtain rfl : i = ks.length := by omega
          have hd1 : decide ((ks.length : Int) < (ks.length : Int)) = false := decide_eq_false (by omega)
          rw [List.drop_length, encVs, List.nil_append] at HGI
          rw [List.take_length] at HOW
          have hr2 := HGI.out.2.1
          have c0 := cell_of_row _ g2 0 _ _ (0, 0) hr2
          have c1 := cell_of_row _ g2 1 _ _ (0, 0) hr2
          have c2 := cell_of_row _ g2 2 _ _ (0, 0) hr2
          have c3 := cell_of_row _ g2 3 _ _ (0, 0) hr2
          have hr0 := HGI.out.1
          have e0 := cell_of_row _ w.heap.size 0 _ _ (0, 0) hr0
          have e1 := cell_of_row _ w.heap.size 1 _ _ (0, 0) hr0
          have e2 := cell_of_row _ w.heap.size 2 _ _ (0, 0) hr0
          have e3 := cell_of_row _ w.heap.size 3 _ _ (0, 0) hr0
          have hfz : ∀ j, wr.frozen? ⟨w.heap.size, j, none⟩ = false := fun j => frozen_of_row wr w.heap.size j _ _ hr0
          go_wp2_with fail
          clear c0 c1 c2 c3 e0 e1 e2 e3 hfz hr2 hr0
          generalize hg0 : w.heap.size = g0 at *
          generalize hF : ((((wr.setCell ⟨g0, 0, none⟩ (.int .i64 k)).setCell ⟨g0, 1, none⟩ (.int .i64 m)).setCell ⟨g0, 2, none⟩ (.string ⟨t.toArray⟩)).setCell ⟨g0, 3, none⟩ (.slice ao ks.length cap)) = F
          obtain ⟨q1, q2, q3, q4, q5, q6, q7⟩ := HGI.out
          have hK : Keeps (fun j => j = g0) wr F := by
            rw [← hF]
            exact Keeps.trans' (Keeps.trans' (Keeps.trans' (Keeps.of_grown (setCell_grown0 _ _ _ _) rfl) (Keeps.of_grown (setCell_grown0 _ _ _ _) rfl)) (Keeps.of_grown (setCell_grown0 _ _ _ _) rfl)) (Keeps.of_grown (setCell_grown0 _ _ _ _) rfl)
          have hrF := setCell_row0 3 (.slice ao ks.length cap) (setCell_row0 2 (.string ⟨t.toArray⟩) (setCell_row0 1 (.int .i64 m) (setCell_row0 0 (.int .i64 k) (by rw [hg0] at q1; exact q1))))
          rw [hF] at hrF
          have hvF : ValAt F g0 k m t ao ks.length cap := ⟨cell_of_row _ _ 0 _ _ (0, 0) hrF, cell_of_row _ _ 1 _ _ (0, 0) hrF, cell_of_row _ _ 2 _ _ (0, 0) hrF, cell_of_row _ _ 3 _ _ (0, 0) hrF⟩
          refine bodyPost_ret (v := valV k m t ao ks.length cap) (results_get _ _ g0 k m t ao ks.length cap rfl hvF) rfl ?_
          have hcl := HOW.out.cap_le
          have htl := fits_tlen H.out.2.1
          have hvs := (HOW.out.vs).keeps hK (fun j hj hx => by
            rcases hj with h | h
            · have := h.1; omega
            · have := (HOW.out.lt j h).1; omega)
          refine ⟨[.int .i64 k, .int .i64 m, .string ⟨t.toArray⟩, .slice ao ks.length cap], rfl, VIn.row.2 ⟨ao, cap, rfl, hcl.1, ⟨hcl.2, ⟨k0, k1⟩, ⟨m0, m1⟩, by omega⟩, hvs.mono (fun j hj => by
            rcases hj with h | h
            · have := h.1; omega
            · have := (HOW.out.lt j h).1; omega)⟩, q3.keepX hK (fun j hj => by omega), q4.trans hK (fun i hi hx => by omega)⟩
end Go.Proofs.YtpeehagaiofobaaDoor
