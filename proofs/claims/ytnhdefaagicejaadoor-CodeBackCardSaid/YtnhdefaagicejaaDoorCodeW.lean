/- The document's small functions for code: between, Uses, same, float; how many values functions have closed in. -/
import Derived.Test.YtnhdefaagicejaaDoorCodeV
namespace Go.Proofs.YtnhdefaagicejaaDoor
set_option linter.unusedSimpArgs false
set_option linter.unusedVariables false
open Go.RowKit

theorem between_any (n lo hi : Int) (w : World) : Calls Tryd.prog 18 #[.int .i64 n, .int .i64 lo, .int .i64 hi] w (fun e w' => e = .returned (.bool (betw n lo hi)) ∧ w = w') := by
  by_cases h1 : lo ≤ n
  · have hd1 : decide (n < lo) = false := decide_eq_false (by omega)
    have hd2 : decide (lo ≤ n) = true := decide_eq_true h1
    by_cases h2 : n ≤ hi
    · have hd3 : decide (n ≤ hi) = true := decide_eq_true h2
      have hd4 : decide (hi < n) = false := decide_eq_false (by omega)
      have HB := Lib.hid (show betw n lo hi = true from decide_eq_true ⟨h1, h2⟩)
      go_enter Tryd.func18, Tryd.ntmps18
      go_wp2_with fail
      go_ret
      exact ⟨by rw [HB.out]; rfl, rfl⟩
    · have hd3 : decide (n ≤ hi) = false := decide_eq_false h2
      have hd4 : decide (hi < n) = true := decide_eq_true (by omega)
      have HB := Lib.hid (show betw n lo hi = false from decide_eq_false (fun h => h2 h.2))
      go_enter Tryd.func18, Tryd.ntmps18
      go_wp2_with fail
      go_ret
      exact ⟨by rw [HB.out]; rfl, rfl⟩
  · have hd1 : decide (n < lo) = true := decide_eq_true (by omega)
    have hd2 : decide (lo ≤ n) = false := decide_eq_false h1
    have HB := Lib.hid (show betw n lo hi = false from decide_eq_false (fun h => h1 h.1))
    go_enter Tryd.func18, Tryd.ntmps18
    go_wp2_with fail
    go_ret
    exact ⟨by rw [HB.out]; rfl, rfl⟩
theorem uses_any (op : Int) (h0 : 0 ≤ op) (h1 : op ≤ 28) (w : World) : Calls Tryd.prog 11 #[.int .i64 op] w (fun e w' => e = .returned (.int .i64 (usesP op : Nat)) ∧ w = w') := by
  rcases op_cases h0 h1 with rfl | rfl | rfl | rfl | rfl | rfl | rfl | rfl | rfl | rfl | rfl | rfl | rfl | rfl | rfl | rfl | rfl | rfl | rfl | rfl | rfl | rfl | rfl | rfl | rfl | rfl | rfl | rfl | rfl <;>
    (clear h0 h1; go_enter Tryd.func11, Tryd.ntmps11; go_wp2_with fail; go_ret; exact ⟨rfl, rfl⟩)
theorem rwrap_any (z : Int) (hz : R64i z) (w : World) : Calls Tryd.prog 34 #[.int .i64 z] w fun e w' => e = .returned (.int .i64 (wrap63 z)) ∧ w = w' := by
  have HZ := Lib.hid (show wrap64 (IntKind.u64.wrap (IntKind.u64.wrap z * 2)) / 2 = wrap63 z by
    obtain ⟨h1, h2⟩ := hz
    rw [IntKind.wrap_u64, IntKind.wrap_u64]
    unfold wrap64 wrap63
    omega)
  go_enter Tryd.func34, Tryd.ntmps34
  go_wp2_with fail
  go_ret
  exact ⟨by rw [← HZ.out]; rfl, rfl⟩
/-! Floats by their bits. -/
theorem order_self (d : Ieee.Datum) : d.order d = if d.isNaN then none else some .eq := by
  cases d with
  | number s m i => simp [Ieee.Datum.order, Ieee.Datum.isNaN]
  | infinity s => simp [Ieee.Datum.order, Ieee.Datum.isNaN]
  | nan s t => simp [Ieee.Datum.order, Ieee.Datum.isNaN]
theorem nan_iff (x : Nat) : isNaNB x = decide (9218868437227405312 < x % 9223372036854775808) := by
  unfold isNaNB
  show (Ieee.Format.order Ieee.double x x != some Ordering.eq) = _
  unfold Ieee.Format.order
  rw [order_self]
  have hs : Ieee.double.signWeight = 9223372036854775808 := by decide
  have hb : Ieee.double.binade = 4503599627370496 := by decide
  have hi : Ieee.double.infRung = 9218868437227405312 := by decide
  unfold Ieee.Format.read
  simp only [hs, hb, hi]
  generalize x % 9223372036854775808 = r
  by_cases h1 : r < 4503599627370496
  · have : ¬ 9218868437227405312 < r := by omega
    simp [h1, this, Ieee.Datum.isNaN]
  · by_cases h2 : r < 9218868437227405312
    · have : ¬ 9218868437227405312 < r := by omega
      simp [h1, h2, this, Ieee.Datum.isNaN]
    · by_cases h3 : r = 9218868437227405312
      · subst h3
        simp [Ieee.Datum.isNaN]
      · have : 9218868437227405312 < r := by omega
        simp [h1, h2, h3, this, Ieee.Datum.isNaN]
theorem and_63 (x : Nat) (hx : x < 18446744073709551616) : bits .and .u64 (x : Int) 9223372036854775807 = ((x % 9223372036854775808 : Nat) : Int) := by
  rw [show (9223372036854775807 : Int) = ((9223372036854775807 : Nat) : Int) from rfl, bits_and_u64_nat x 9223372036854775807 hx (by decide), show (9223372036854775807 : Nat) = 2 ^ 63 - 1 by decide, Nat.and_two_pow_sub_one_eq_mod]
theorem rnan_any (x : Nat) (hx : x < 18446744073709551616) (w : World) : Calls Tryd.prog 54 #[.int .u64 (x : Int)] w (fun e w' => e = .returned (.bool (isNaNB x)) ∧ w = w') := by
  have ha := and_63 x hx
  have HN := Lib.hid (nan_iff x)
  obtain ⟨r, hr⟩ : ∃ r, x % 9223372036854775808 = r := ⟨_, rfl⟩
  rw [hr] at ha HN
  have hd : decide ((9218868437227405312 : Int) < (r : Int)) = decide (9218868437227405312 < r) := by
    rw [Bool.eq_iff_iff, decide_eq_true_iff, decide_eq_true_iff]; omega
  have HD := Lib.hid hd
  clear hr hd
  go_enter Tryd.func54, Tryd.ntmps54
  go_wp2_with fail
  go_ret
  exact ⟨by rw [HN.out, ← HD.out]; rfl, rfl⟩
theorem rcanon_any (x : Nat) (hx : x < 18446744073709551616) (w : World) : Calls Tryd.prog 48 #[.int .u64 (x : Int)] w (fun e w' => e = .returned (.int .u64 (ofM x)) ∧ w = w') := by
  have HX := Lib.hid hx
  clear hx
  cases hn : isNaNB x
  · have HN := Lib.hid (show ofM x = (x : Int) by unfold ofM; rw [hn]; rfl)
    go_enter Tryd.func48, Tryd.ntmps48
    go_wp2_with fail
    refine (rnan_any x HX.out w).mono ?_
    rintro e w1 ⟨rfl, rfl⟩
    rw [hn]
    go_wp2_with fail
    go_ret
    exact ⟨by rw [HN.out]; rfl, rfl⟩
  · have HN := Lib.hid (show ofM x = 9221120237041090560 by unfold ofM; rw [hn]; rfl)
    go_enter Tryd.func48, Tryd.ntmps48
    go_wp2_with fail
    refine (rnan_any x HX.out w).mono ?_
    rintro e w1 ⟨rfl, rfl⟩
    rw [hn]
    go_wp2_with fail
    go_ret
    exact ⟨by rw [HN.out]; rfl, rfl⟩
theorem fstep_eq (x : Nat) (c : UInt8) (hx : x < 72057594037927936) : fstep x c = ((x * 256 + c.toNat : Nat) : Int) := by
  have hc := c.toNat_lt
  unfold fstep
  rw [IntKind.wrap_u64, IntKind.wrap_u64, show ((x : Int) * 256) % 18446744073709551616 = ((x * 256 : Nat) : Int) by omega, show ((c.toNat : Nat) : Int) % 18446744073709551616 = ((c.toNat : Nat) : Int) by omega, bits_or_u64_nat _ _ (by omega) (by omega)]
  have := Nat.two_pow_add_eq_or_of_lt (i := 8) (b := c.toNat) hc x
  rw [Nat.mul_comm x 256]
  exact congrArg (fun (n : Nat) => (n : Int)) this.symm
theorem fbits_take (t : List UInt8) : ∀ k, k ≤ 8 → k ≤ t.length → ∃ n : Nat, fbits (t.take k) = (n : Int) ∧ n < 256 ^ k
  | 0, _, _ => ⟨0, rfl, by decide⟩
  | k + 1, h, hl => by
    obtain ⟨n, hn, hlt⟩ := fbits_take t k (by omega) (by omega)
    have hp : 256 ^ k ≤ 256 ^ 7 := Nat.pow_le_pow_right (by decide) (by omega)
    have h7 : 256 ^ 7 = 72057594037927936 := by decide
    have hc := (t[k]).toNat_lt
    refine ⟨n * 256 + (t[k]).toNat, ?_, by rw [Nat.pow_succ]; omega⟩
    rw [List.take_succ_eq_append_getElem hl]
    have e : fbits (t.take k ++ [t[k]]) = fstep (fbits (t.take k)) t[k] := by unfold fbits; rw [List.foldl_append]; rfl
    rw [e, hn, fstep_eq n _ (by omega)]
theorem fbits_nat (t : List UInt8) (h : t.length ≤ 8) : ∃ n : Nat, fbits t = (n : Int) ∧ n < 256 ^ t.length := by
  have := fbits_take t t.length h (Nat.le_refl _)
  rwa [List.take_length] at this
set_option maxRecDepth 100000 in
set_option maxHeartbeats 1000000 in
theorem rfloat_any (t : List UInt8) (_ht : t.length ≤ 1000000) (w : World) :
    Calls Tryd.prog 35 #[.string ⟨t.toArray⟩] w (fun e w' => e = .returned (.bool (flC t)) ∧ w = w') := by
  have hsz : (ByteArray.mk t.toArray).size = t.length := by rw [ByteArray.size]; simp
  by_cases h8 : t.length = 8
  · have hd8 : ((t.length : Int) != 8) = false := by simp [h8]
    have HS := Lib.hid (fun k (hk : k < t.length) => show IntKind.u64.wrap (IntKind.u64.wrap (fbits (t.take k) * 256) + IntKind.u64.wrap ((t[k]).toNat : Int)) = fbits (t.take (k + 1)) from by
      obtain ⟨n, hn, hlt⟩ := fbits_nat (t.take k) (by rw [List.length_take]; omega)
      have hp : 256 ^ (t.take k).length ≤ 256 ^ 7 := Nat.pow_le_pow_right (by decide) (by rw [List.length_take]; omega)
      have h7 : 256 ^ 7 = 72057594037927936 := by decide
      have hc := (t[k]).toNat_lt
      rw [List.take_succ_eq_append_getElem hk]
      have e : fbits (t.take k ++ [t[k]]) = fstep (fbits (t.take k)) t[k] := by unfold fbits; rw [List.foldl_append]; rfl
      rw [e, hn, fstep_eq n _ (by omega), IntKind.wrap_u64, IntKind.wrap_u64, IntKind.wrap_u64]
      omega)
    have HF := Lib.hid (show flC t = (ofM (fbits t).toNat == fbits t) by unfold flC floatOk; rw [h8]; rfl)
    have HN := Lib.hid (fbits_nat t (by omega))
    go_enter Tryd.func35, Tryd.ntmps35
    go_wp2_with fail
    go_loopw [3, 4] (fun v3 v4 wr => ∃ k : Nat, k ≤ 8 ∧ v4 = .int .i64 (k : Int) ∧ v3 = .int .u64 (fbits (t.take k)) ∧ wr = w) (fun _ v4 _ => 8 - (intOf v4).toNat)
    case atStart => exact ⟨0, by omega, rfl, rfl, rfl⟩
    case round =>
      obtain ⟨k, hk, rfl, rfl, rfl⟩ := hrel
      by_cases hlt : k < 8
      · have hd1 : decide ((k : Int) < 8) = true := decide_eq_true (by omega)
        have hkt : k < t.length := by omega
        have hidx : (ByteArray.mk t.toArray)[k]'(by omega) = t[k] := by
          show t.toArray[k] = t[k]
          simp
        go_wp2_with fail
        go_roundw
        case rel => exact ⟨k + 1, by omega, by simp, by rw [HS.out k hkt], trivial⟩
        case measure => simp [intOf]; omega
      · obtain rfl : k = 8 := by omega
        have hd1 : decide (((8 : Nat) : Int) < 8) = false := by decide
        rw [show t.take 8 = t from List.take_of_length_le (by omega)]
        obtain ⟨n, hn, hlt8⟩ := HN.out
        have hlt9 : n < 18446744073709551616 := by rw [h8] at hlt8; exact hlt8
        rw [hn]
        have HK := Lib.hid (And.intro hn hlt9)
        clear hn hlt8 hlt9 HS
        go_wp2_with fail
        refine (rcanon_any n HK.out.2 wr).mono ?_
        rintro e w1 ⟨rfl, rfl⟩
        go_wp2_with fail
        go_ret
        exact ⟨by rw [HF.out, HK.out.1]; rfl, rfl⟩
  · have hd8 : ((t.length : Int) != 8) = true := by simp; omega
    have HF := Lib.hid (show flC t = false by unfold flC; simp [h8])
    go_enter Tryd.func35, Tryd.ntmps35
    go_wp2_with fail
    go_ret
    exact ⟨by rw [HF.out]; rfl, rfl⟩
/-- A spot's value: a frame that is there; the row of its brackets lies in the blocks O. -/
def SpV (w : World) (O : Nat → Prop) (v : Value) (f : FrP) : Prop :=
  ∃ oo ocap, v = .agg #[.bool true, .int .i64 (f.fn : Int), .int .i64 f.h, .slice oo f.op.length ocap] ∧ f.op.length ≤ ocap ∧ ocap ≤ 9223372036854775807 ∧ At w oo (intsV f.op) ∧ ∀ b, blk oo = some b → O b
theorem SpV.keeps {X : Nat → Prop} {w w' : World} {O : Nat → Prop} {v : Value} {f : FrP} (h : SpV w O v f) (hk : Keeps X w w') (hX : ∀ b, O b → ¬ X b) : SpV w' O v f := by
  obtain ⟨oo, ocap, h1, h2, h3, h4, h5⟩ := h
  exact ⟨oo, ocap, h1, h2, h3, h4.keeps hk (fun b hb _ => hX b (h5 b hb)), h5⟩
theorem SpV.below {w w' : World} {O : Nat → Prop} {v : Value} {f : FrP} (h : SpV w O v f) (hb : Below w.heap.size w w') : SpV w' O v f := h.keeps (X := fun _ => False) (Keeps.of_below hb) (fun _ _ h => h)
theorem SpV.mono {w : World} {O E : Nat → Prop} {v : Value} {f : FrP} (h : SpV w O v f) (hOE : ∀ b, O b → E b) : SpV w E v f := by
  obtain ⟨oo, ocap, h1, h2, h3, h4, h5⟩ := h
  exact ⟨oo, ocap, h1, h2, h3, h4, fun b hb => hOE b (h5 b hb)⟩
set_option maxRecDepth 100000 in
set_option maxHeartbeats 2000000 in
theorem rsame_any (f g : FrP) (v u : Value) (O E : Nat → Prop) (hf : f.op.length ≤ 1000000) (hg : g.op.length ≤ 1000000) (w : World) (hv : SpV w O v f) (hu : SpV w E u g) :
    Calls Tryd.prog 20 #[v, u] w (fun e w' => e = .returned (.bool (decide (f = g))) ∧ Below w.heap.size w w') := by
  obtain ⟨fn, h, o⟩ := f
  obtain ⟨gn, k, p⟩ := g
  obtain ⟨oo, ocap, rfl, h2, h3, h4, _⟩ := hv
  obtain ⟨po, pcap, rfl, g2, g3, g4, _⟩ := hu
  simp only at *
  obtain ⟨W1, hW1⟩ : ∃ W1, (w.alloc (.cells #[.bool true, .int .i64 (fn : Int), .int .i64 h, .slice oo o.length ocap] 62)).alloc (.cells #[.bool true, .int .i64 (gn : Int), .int .i64 k, .slice po p.length pcap] 62) = W1 := ⟨_, rfl⟩
  have hb : Below w.heap.size w W1 := by rw [← hW1]; exact ((Below.refl w.heap.size w).alloc (Nat.le_refl _) _).alloc (by simp) _
  have hn1 := heap_alloc_new w (.cells #[.bool true, .int .i64 (fn : Int), .int .i64 h, .slice oo o.length ocap] 62)
  have hr1 : W1.heap[w.heap.size]? = some (.cells #[.bool true, .int .i64 (fn : Int), .int .i64 h, .slice oo o.length ocap] 62 (0, 0)) := by
    rw [← hW1]
    exact (Below.heap_alloc (w.alloc _) _ w.heap.size (by simp)).trans hn1
  have hr2 : W1.heap[w.heap.size + 1]? = some (.cells #[.bool true, .int .i64 (gn : Int), .int .i64 k, .slice po p.length pcap] 62 (0, 0)) := by
    rw [← hW1]
    have := heap_alloc_new (w.alloc (.cells #[.bool true, .int .i64 (fn : Int), .int .i64 h, .slice oo o.length ocap] 62)) (.cells #[.bool true, .int .i64 (gn : Int), .int .i64 k, .slice po p.length pcap] 62)
    simpa using this
  have k1 : W1.cell? ⟨w.heap.size, 1, none⟩ = some (.int .i64 (fn : Int)) := cell_of_row _ _ 1 _ _ (0, 0) hr1
  have k2 : W1.cell? ⟨w.heap.size, 2, none⟩ = some (.int .i64 h) := cell_of_row _ _ 2 _ _ (0, 0) hr1
  have k3 : W1.cell? ⟨w.heap.size, 3, none⟩ = some (.slice oo o.length ocap) := cell_of_row _ _ 3 _ _ (0, 0) hr1
  have j1 : W1.cell? ⟨w.heap.size + 1, 1, none⟩ = some (.int .i64 (gn : Int)) := cell_of_row _ _ 1 _ _ (0, 0) hr2
  have j2 : W1.cell? ⟨w.heap.size + 1, 2, none⟩ = some (.int .i64 k) := cell_of_row _ _ 2 _ _ (0, 0) hr2
  have j3 : W1.cell? ⟨w.heap.size + 1, 3, none⟩ = some (.slice po p.length pcap) := cell_of_row _ _ 3 _ _ (0, 0) hr2
  have H := Lib.hid (And.intro hb (And.intro (h4.below hb) (And.intro (g4.below hb) (And.intro k3 j3))))
  clear h4 g4 hb h2 h3 g2 g3 hn1 hr1 hr2
  by_cases e1 : fn = gn
  · subst e1
    by_cases e2 : h = k
    · subst e2
      by_cases hl : o.length = p.length
      · have HL := Lib.hid hl
        have hd0 : ((o.length : Int) != (p.length : Int)) = false := by simp [hl]
        clear hl
        go_enter Tryd.func20, Tryd.ntmps20
        go_wp2_with fail
        clear hW1
        go_loopw [5] (fun v5 wr => ∃ i : Nat, i ≤ o.length ∧ v5 = .int .i64 (i : Int) ∧ Below W1.heap.size W1 wr ∧ o.take i = p.take i) (fun v5 _ => o.length - (intOf v5).toNat)
        case atStart => exact ⟨0, by omega, rfl, Below.refl _ _, rfl⟩
        case round =>
          obtain ⟨i, hi, rfl, hbr, htk⟩ := hrel
          have HO := Lib.hid (And.intro hbr htk)
          have k3r : wr.cell? ⟨w.heap.size, 3, none⟩ = _ := (World.cell?_of_block (a := ⟨w.heap.size, 3, none⟩) (hbr.block w.heap.size (World.block_lt_of_cell? (a := ⟨w.heap.size, 3, none⟩) W1 k3))).trans k3
          have j3r : wr.cell? ⟨w.heap.size + 1, 3, none⟩ = _ := (World.cell?_of_block (a := ⟨w.heap.size + 1, 3, none⟩) (hbr.block (w.heap.size + 1) (World.block_lt_of_cell? (a := ⟨w.heap.size + 1, 3, none⟩) W1 j3))).trans j3
          clear hbr htk
          by_cases hlt : i < o.length
          · have hd1 : decide ((i : Int) < (o.length : Int)) = true := decide_eq_true (by omega)
            have hlt2 : i < p.length := by have := HL.out; omega
            obtain ⟨b, f, rfl, c0⟩ := (H.out.2.1.below HO.out.1).exv i (by simpa [intsV] using hlt)
            obtain ⟨b2, f2, rfl, d0⟩ := (H.out.2.2.1.below HO.out.1).exv i (by simpa [intsV] using hlt2)
            rw [intsV_get o i hlt] at c0
            rw [intsV_get p i hlt2] at d0
            obtain ⟨x, hx⟩ : ∃ x, o[i] = x := ⟨_, rfl⟩
            obtain ⟨y, hy⟩ : ∃ y, p[i] = y := ⟨_, rfl⟩
            rw [hx] at c0
            rw [hy] at d0
            have HC := Lib.hid (And.intro (show wr.drew.cell? ⟨b, f + i, none⟩ = _ from c0) (And.intro (show wr.drew.cell? ⟨b2, f2 + i, none⟩ = _ from d0) (And.intro hx (And.intro hy (And.intro (show wr.drew.cell? ⟨w.heap.size, 3, none⟩ = _ from k3r) (show wr.drew.cell? ⟨w.heap.size + 1, 3, none⟩ = _ from j3r))))))
            clear c0 d0 hx hy
            go_wp2_with fail
            refine seq_start (by kernel_rfl) ?_
            clear k3r j3r k1 k2 k3 j1 j2 j3
            refine seq_take 0 (v := ?_) rfl (by kernel_rfl) (fun _ _ _ h => h) (by rfl) (fun w' hw' => ?_) ?_
            rotate_left
            · go_simp; try with_reducible rfl
            try simp only [List.getElem_toArray, List.getElem_cons_succ, List.getElem_cons_zero, Act.put, List.setIfInBounds_toArray, List.set_cons_zero, List.set_cons_succ]
            refine seq_take 1 rfl (by kernel_rfl) (fun _ _ _ h => h) (by rfl) (seq_ldII rfl rfl (HC.out.2.2.2.2.1)) ?_
            try simp only [List.getElem_toArray, List.getElem_cons_succ, List.getElem_cons_zero, Act.put, List.setIfInBounds_toArray, List.set_cons_zero, List.set_cons_succ]
            refine seq_take 2 (v := ?_) rfl (by kernel_rfl) (fun _ _ _ h => h) (by rfl) (fun w' hw' => ?_) ?_
            rotate_left
            · go_simp; try with_reducible rfl
            try simp only [List.getElem_toArray, List.getElem_cons_succ, List.getElem_cons_zero, Act.put, List.setIfInBounds_toArray, List.set_cons_zero, List.set_cons_succ]
            refine seq_take 3 (v := ?_) rfl (by kernel_rfl) (fun _ _ _ h => h) (by rfl) (fun w' hw' => ?_) ?_
            rotate_left
            · go_simp; try with_reducible rfl
            try simp only [List.getElem_toArray, List.getElem_cons_succ, List.getElem_cons_zero, Act.put, List.setIfInBounds_toArray, List.set_cons_zero, List.set_cons_succ]
            refine seq_take 4 rfl (by kernel_rfl) (fun _ _ _ h => h) (by rfl) (seq_ldi rfl rfl (HC.out.1)) ?_
            try simp only [List.getElem_toArray, List.getElem_cons_succ, List.getElem_cons_zero, Act.put, List.setIfInBounds_toArray, List.set_cons_zero, List.set_cons_succ]
            refine seq_take 5 (v := ?_) rfl (by kernel_rfl) (fun _ _ _ h => h) (by rfl) (fun w' hw' => ?_) ?_
            rotate_left
            · go_simp; try with_reducible rfl
            try simp only [List.getElem_toArray, List.getElem_cons_succ, List.getElem_cons_zero, Act.put, List.setIfInBounds_toArray, List.set_cons_zero, List.set_cons_succ]
            refine seq_take 6 rfl (by kernel_rfl) (fun _ _ _ h => h) (by rfl) (seq_ldII rfl rfl (HC.out.2.2.2.2.2)) ?_
            try simp only [List.getElem_toArray, List.getElem_cons_succ, List.getElem_cons_zero, Act.put, List.setIfInBounds_toArray, List.set_cons_zero, List.set_cons_succ]
            refine seq_take 7 (v := ?_) rfl (by kernel_rfl) (fun _ _ _ h => h) (by rfl) (fun w' hw' => ?_) ?_
            rotate_left
            · go_simp; try with_reducible rfl
            try simp only [List.getElem_toArray, List.getElem_cons_succ, List.getElem_cons_zero, Act.put, List.setIfInBounds_toArray, List.set_cons_zero, List.set_cons_succ]
            refine seq_take 8 (v := ?_) rfl (by kernel_rfl) (fun _ _ _ h => h) (by rfl) (fun w' hw' => ?_) ?_
            rotate_left
            · go_simp; try with_reducible rfl
            try simp only [List.getElem_toArray, List.getElem_cons_succ, List.getElem_cons_zero, Act.put, List.setIfInBounds_toArray, List.set_cons_zero, List.set_cons_succ]
            refine seq_take 9 rfl (by kernel_rfl) (fun _ _ _ h => h) (by rfl) (seq_ldi rfl rfl (HC.out.2.1)) ?_
            try simp only [List.getElem_toArray, List.getElem_cons_succ, List.getElem_cons_zero, Act.put, List.setIfInBounds_toArray, List.set_cons_zero, List.set_cons_succ]
            refine seq_take 10 (v := ?_) rfl (by kernel_rfl) (fun _ _ _ h => h) (by rfl) (fun w' hw' => ?_) ?_
            rotate_left
            · go_simp; try with_reducible rfl
            try simp only [List.getElem_toArray, List.getElem_cons_succ, List.getElem_cons_zero, Act.put, List.setIfInBounds_toArray, List.set_cons_zero, List.set_cons_succ]
            refine seq_done (by kernel_rfl) ?_
            by_cases hxy : x = y
            · have hd2 : (x != y) = false := by simp [hxy]
              have hd3 : decide (x = y) = true := decide_eq_true hxy
              go_wp2_with fail
              go_roundw
              case rel =>
                refine ⟨i + 1, by omega, by simp, HO.out.1.drew, ?_⟩
                rw [List.take_succ_eq_append_getElem hlt, List.take_succ_eq_append_getElem hlt2, HO.out.2, HC.out.2.2.1, HC.out.2.2.2.1, hxy]
              case measure => simp [intOf]; omega
            · have hd2 : (x != y) = true := by simp [hxy]
              have hd3 : decide (x = y) = false := decide_eq_false hxy
              have hne : decide ((⟨fn, h, o⟩ : FrP) = ⟨fn, h, p⟩) = false := decide_eq_false (fun hh => hxy (by
                have hop : o = p := (FrP.mk.inj hh).2.2
                rw [← HC.out.2.2.1, ← HC.out.2.2.2.1]; simp [hop]))
              have HNE := Lib.hid hne
              clear hne
              go_wp2_with fail
              go_ret
              exact ⟨by rw [HNE.out]; rfl, H.out.1.trans ((HO.out.1.drew).mono H.out.1.size)⟩
          · obtain rfl : i = o.length := by omega
            have hd1 : decide ((o.length : Int) < (o.length : Int)) = false := decide_eq_false (by omega)
            have heq : decide ((⟨fn, h, o⟩ : FrP) = ⟨fn, h, p⟩) = true := decide_eq_true (by
              have hh := HO.out.2
              rw [List.take_length, HL.out, List.take_length] at hh
              rw [hh])
            have HEQ := Lib.hid heq
            clear heq
            go_wp2_with fail
            go_ret
            exact ⟨by rw [HEQ.out]; rfl, H.out.1.trans (HO.out.1.mono H.out.1.size)⟩
      · have hd0 : ((o.length : Int) != (p.length : Int)) = true := by simp; omega
        have HNE := Lib.hid (show decide ((⟨fn, h, o⟩ : FrP) = ⟨fn, h, p⟩) = false from decide_eq_false (fun hh => hl (by rw [(FrP.mk.inj hh).2.2])))
        go_enter Tryd.func20, Tryd.ntmps20
        go_wp2_with fail
        go_ret
        exact ⟨by rw [HNE.out]; rfl, H.out.1⟩
    · have HNE := Lib.hid (show decide ((⟨fn, h, o⟩ : FrP) = ⟨fn, k, p⟩) = false by simp [e2])
      have hd2 : (h != k) = true := by simp [e2]
      have hd3 : decide (h = k) = false := decide_eq_false e2
      go_enter Tryd.func20, Tryd.ntmps20
      go_wp2_with fail
      go_ret
      exact ⟨by rw [HNE.out]; rfl, H.out.1⟩
  · have HNE := Lib.hid (show decide ((⟨fn, h, o⟩ : FrP) = ⟨gn, k, p⟩) = false by simp [e1])
    have hd : decide ((fn : Int) = (gn : Int)) = false := decide_eq_false (by omega)
    have hd2 : ((fn : Int) != (gn : Int)) = true := by simp; omega
    go_enter Tryd.func20, Tryd.ntmps20
    go_wp2_with fail
    go_ret
    exact ⟨by rw [HNE.out]; rfl, H.out.1⟩
end Go.Proofs.YtnhdefaagicejaaDoor
