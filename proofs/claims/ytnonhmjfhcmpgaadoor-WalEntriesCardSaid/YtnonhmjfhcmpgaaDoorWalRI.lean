/- The walk of the reference's reader of numbers. -/
import Derived.Test.YtnonhmjfhcmpgaaDoorWalIn
import Derived.Test.YtnonhmjfhcmpgaaDoorOps2
import Derived.Deep.Cut
namespace Go.Proofs.YtnonhmjfhcmpgaaDoor
open Go.RowKit
/-- The document's reading object. -/
def RefAt (w : World) (g : Nat) (s : St) : Prop := w.heap[g]? = some (.cells #[.string ⟨s.1.toArray⟩, .int .i64 (s.2 : Int)] 97 (0, 0))
theorem RefAt.lt {w : World} {g : Nat} {s : St} (h : RefAt w g s) : g < w.heap.size := (Array.getElem?_eq_some_iff.1 h).1
theorem RefAt.below {w w' : World} {g : Nat} {s : St} (h : RefAt w g s) (hb : Below w.heap.size w w') : RefAt w' g s := by
  unfold RefAt; rw [hb.block g h.lt]; exact h
theorem RefAt.kept {w w' : World} {g g' : Nat} {s : St} (h : RefAt w g s) (hg : w.grownBy w' (some g')) (hne : g ≠ g') : RefAt w' g s := by
  unfold RefAt; rw [hg.block g h.lt (by simp; omega)]; exact h
theorem RefAt.c0 {w : World} {g : Nat} {s : St} (h : RefAt w g s) : w.cell? ⟨g, 0, none⟩ = some (.string ⟨s.1.toArray⟩) := cell_of_row _ g 0 _ _ (0, 0) h
theorem RefAt.c1 {w : World} {g : Nat} {s : St} (h : RefAt w g s) : w.cell? ⟨g, 1, none⟩ = some (.int .i64 (s.2 : Int)) := cell_of_row _ g 1 _ _ (0, 0) h
theorem RefAt.fz {w : World} {g : Nat} {s : St} (h : RefAt w g s) (j : Nat) : w.frozen? ⟨g, j, none⟩ = false := frozen_of_row w g j _ _ h
theorem RefAt.setE {w : World} {g : Nat} {s : St} (h : RefAt w g s) (e : Nat) : RefAt (w.setCell ⟨g, 1, none⟩ (.int .i64 (e : Int))) g (s.1, e) := by
  unfold RefAt; rw [setCell_row 1 _ h]; rfl
theorem RefAt.setB {w : World} {g : Nat} {s : St} (h : RefAt w g s) (l : List UInt8) : RefAt (w.setCell ⟨g, 0, none⟩ (.string ⟨l.toArray⟩)) g (l, s.2) := by
  unfold RefAt; rw [setCell_row 0 _ h]; rfl
theorem str_idx (l : List UInt8) (i : Nat) (h : i < l.length) (hb : i < (ByteArray.mk l.toArray).size) : (ByteArray.mk l.toArray)[i]'hb = l[i] := by
  show l.toArray[i]'_ = l[i]
  simp
theorem add_raw (x i v : Nat) (hv : v < 128 ^ i) (hi : i ≤ 9) (h9 : i = 9 → x % 128 ≤ 1) :
    IntKind.u64.wrap ((v : Int) + IntKind.u64.wrap (((x % 128 : Nat) : Int) * 2 ^ (7 * i))) = ((v + x % 128 * 128 ^ i : Nat) : Int) := by
  have hp : x % 128 * 128 ^ i + 128 ^ i ≤ 18446744073709551616 := by
    rcases Nat.lt_or_ge i 9 with h | h
    · have h8 : 128 ^ i ≤ 128 ^ 8 := Nat.pow_le_pow_right (by decide) (by omega)
      have : x % 128 * 128 ^ i ≤ 127 * 128 ^ 8 := Nat.mul_le_mul (by omega) h8
      have e8 : 127 * 128 ^ 8 = 9151314442816847872 := by decide
      have e9 : 128 ^ 8 = 72057594037927936 := by decide
      omega
    · obtain rfl : i = 9 := by omega
      have h9' := h9 rfl
      clear h9 hv
      generalize x % 128 = y at *
      rcases (show y = 0 ∨ y = 1 by omega) with rfl | rfl <;> decide
  have h2 : ((x % 128 : Nat) : Int) * 2 ^ (7 * i) = ((x % 128 * 128 ^ i : Nat) : Int) := by
    rw [Int.natCast_mul, show (128 : Nat) ^ i = 2 ^ (7 * i) by rw [Nat.pow_mul]]
    simp
  have hpos := Nat.pow_pos (n := i) (show 0 < 128 by decide)
  rw [h2, IntKind.wrap_u64, IntKind.wrap_u64]
  omega

theorem add_raw2 (x i v y : Nat) (hv : v < 128 ^ i) (hi : i ≤ 9) (h9 : i = 9 → x % 128 ≤ 1) (hy : x % 128 = y) :
    IntKind.u64.wrap ((v : Int) + IntKind.u64.wrap ((x : Int) % 128 * 2 ^ (7 * i))) = ((v + y * 128 ^ i : Nat) : Int) := by
  have := add_raw x i v hv hi h9
  rw [← hy]
  exact this
theorem add_raw9 (v u : Nat) (h : v + 1 * 128 ^ 9 = u) (hu : u < 18446744073709551616) : IntKind.u64.wrap ((v : Int) + 9223372036854775808) = (u : Int) := by
  rw [IntKind.wrap_u64]
  have : (128 : Nat) ^ 9 = 9223372036854775808 := by decide
  omega
theorem exd_take (l : List UInt8) (k : Nat) : ByteArray.extract ⟨l.toArray⟩ 0 k = ⟨(l.take k).toArray⟩ := by
  apply ByteArray.ext
  rw [ByteArray.data_extract]
  simp
theorem exd_drop (l : List UInt8) (k : Nat) : ByteArray.extract ⟨l.toArray⟩ k l.length = ⟨(l.drop k).toArray⟩ := by
  apply ByteArray.ext
  rw [ByteArray.data_extract]
  simp
  exact List.take_of_length_le (by simp)
theorem half_unzz (u : Nat) : (u % 2 = 1 → (-1 : Int) - (u : Int) / 2 = unzz u) ∧ (u % 2 = 0 → (u : Int) / 2 = unzz u) := by
  constructor
  · intro h; rw [unzz, if_neg (by omega)]; omega
  · intro h; rw [unzz, if_pos h]; omega

set_option maxRecDepth 100000 in
set_option maxHeartbeats 1000000 in
theorem rnum_any (g : Nat) (s : St) (lo hi : Int) (w : World) (h : RefAt w g s) :
    Calls Tryd.prog 53 #[.pointer (some ⟨g, 0, none⟩), .int .i64 lo, .int .i64 hi] w (fun x w' => x = .returned (.int .i64 (numR lo hi s).1) ∧ RefAt w' g (numR lo hi s).2 ∧ w.grownBy w' (some g)) := by
  obtain ⟨l, e0⟩ := s
  have H := Lib.hid h
  have c0 := h.c0
  have c1 := h.c1
  have hf0 := h.fz 0
  have hf1 := h.fz 1
  simp only at c0 c1
  have hsz : (ByteArray.mk l.toArray).size = l.length := by rw [ByteArray.size]; simp
  generalize hN : numR lo hi (l, e0) = N
  have HN := Lib.hid hN
  clear hN h
  go_enter Tryd.func53, Tryd.ntmps53
  by_cases he0 : e0 = 0
  · subst he0
    obtain ⟨u, k, e, hr⟩ : ∃ u k e, raw l = (u, k, e) := ⟨_, _, _, rfl⟩
    go_wp2_with fail
    go_loopw [7, 8] (fun x y wr => ∃ i v : Nat, x = .int .u64 (v : Int) ∧ y = .int .i64 (i : Int) ∧ i ≤ 9 ∧ i ≤ l.length ∧ v < 128 ^ i ∧ rawF (10 - i) i v (l.drop i) = (u, k, e) ∧ wr = w) (fun _ j _ => 10 - (intOf j).toNat)
    case atStart => exact ⟨0, 0, rfl, rfl, by omega, by omega, by simp, hr, rfl⟩
    case round =>
      obtain ⟨i, v, rfl, rfl, hi9, hil, hv, hrec, rfl⟩ := hrel
      have HR0 := Lib.hid hr
      by_cases hend : i = l.length
      · subst hend
        rw [show 10 - l.length = (9 - l.length) + 1 by omega, List.drop_length, rawF] at hrec
        simp only [Prod.mk.injEq] at hrec
        obtain ⟨rfl, rfl, rfl⟩ := hrec
        have hN : N = (0, (l, 3)) := by rw [← HN.out, numR, if_neg (by simp)]; simp only [HR0.out]; rw [if_pos (by decide)]
        subst hN
        clear hv hr
        go_wp2_with fail
        go_returns
        exact ⟨rfl, H.out.setE 3, setCell_grown _ _ _ _⟩
      have hlt : i < l.length := by omega
      have hx := str_idx l i hlt (by omega)
      have hx256 : (l[i]).toNat < 256 := (l[i]).toNat_lt
      rw [show 10 - i = (9 - i) + 1 by omega, List.drop_eq_getElem_cons hlt, rawF] at hrec
      have hxx : ((ByteArray.mk l.toArray)[i]'(by omega)).toNat = (l[i]).toNat := by rw [hx]
      clear hx hend hr
      generalize (l[i]).toNat = x at *
      by_cases h9 : i = 9 ∧ 1 < x
      · rw [if_pos h9] at hrec
        simp only [Prod.mk.injEq] at hrec
        obtain ⟨rfl, rfl, rfl⟩ := hrec
        have hN : N = (0, (l, 2)) := by rw [← HN.out, numR, if_neg (by simp)]; simp only [HR0.out]; rw [if_pos (by decide)]
        subst hN
        obtain ⟨rfl, h1x⟩ := h9
        clear hv
        go_wp2_with fail
        go_returns
        exact ⟨rfl, H.out.setE 2, setCell_grown _ _ _ _⟩
      rw [if_neg h9] at hrec
      have hg9 : (((i : Int) == 9) && decide (1 < (x : Int))) = false := by simp; omega
      by_cases h128 : x < 128
      · rw [if_pos h128] at hrec
        by_cases h0 : x = 0 ∧ 0 < i
        · rw [if_pos h0] at hrec
          simp only [Prod.mk.injEq] at hrec
          obtain ⟨rfl, rfl, rfl⟩ := hrec
          have hN : N = (0, (l, 2)) := by rw [← HN.out, numR, if_neg (by simp)]; simp only [HR0.out]; rw [if_pos (by decide)]
          subst hN
          obtain ⟨rfl, hi0⟩ := h0
          clear hv h9 hg9
          by_cases hi99 : i = 9
          · subst hi99
            go_wp2_with fail
            go_returns
            exact ⟨rfl, H.out.setE 2, setCell_grown _ _ _ _⟩
          · have hi99' : ((i : Int) == 9) = false := by simp; omega
            clear hi99
            go_wp2_with fail
            go_returns
            exact ⟨rfl, H.out.setE 2, setCell_grown _ _ _ _⟩
        · rw [if_neg h0] at hrec
          have E := Lib.hid (add_raw2 x i v x hv (by omega) (by omega) (by omega))
          simp only [Prod.mk.injEq] at hrec
          obtain ⟨hu, rfl, rfl⟩ := hrec
          rw [hu] at E
          obtain ⟨-, hkl, -, hu64⟩ := raw_ok HR0.out
          have hN1 : N = if unzz u < lo ∨ unzz u > hi then (0, (l, 4)) else (unzz u, (l.drop (i + 1), 0)) := by
            rw [← HN.out, numR, if_neg (by simp)]
            simp only [HR0.out, if_neg (show ¬ (0 : Nat) ≠ 0 by simp)]
          have HN1 := Lib.hid hN1
          have HUZ := Lib.hid (half_unzz u)
          have HU0 := Lib.hid hu
          have h0' : (decide (0 < (i : Int)) && ((x : Int) == 0)) = false := by simp; omega
          have HV := Lib.hid (And.intro hv (And.intro h9 h0))
          clear hu hN1 h0 h9 hv
          rcases (show i = 9 ∨ ((i ≠ 9 ∧ 0 < i) ∧ x ≠ 0) ∨ i = 0 by have := HV.out.2.2; omega) with hi99 | ⟨⟨hi99, hi0⟩, hx0⟩ | hi0
          case' inl =>
            subst hi99
            have hx1 : x = 1 := by have := HV.out.2; omega
            subst hx1
            have E9 := Lib.hid (add_raw9 v u HU0.out hu64)
            clear h0' hg9
            go_upto_region 15 with (fail)
            rw [E9.out]
          case' inr.inl =>
            have hi99' : ((i : Int) == 9) = false := by simp; omega
            have hx0' : ((x : Int) == 0) = false := by simp; omega
            clear hi99 h0' hg9
            go_upto_region 15 with (fail)
            rw [E.out]
          case' inr.inr =>
            have hi99' : ((i : Int) == 9) = false := by simp; omega
            have hi1 : decide ((0 : Int) < (i : Int)) = false := by simp; omega
            have hi2 : ¬ (0 < i) := by omega
            clear h0' hg9 hi0
            go_upto_region 15 with (fail)
            rw [E.out]
          all_goals
            generalize hz : unzz u = z at *
            have HZ := Lib.hid (And.intro HUZ.out HN1.out)
            clear HUZ HN1 hz
            rcases Nat.mod_two_eq_zero_or_one u with hpar | hpar
            case' inl =>
              have hb : ((u : Int) % 2 == 1) = false := by rw [show (u : Int) % 2 = 0 by omega]; rfl
              have HP := Lib.hid (HZ.out.1.2 hpar)
              clear hpar
              go_upto_region 22 with (fail)
              rw [HP.out]
            case' inr =>
              have hb : ((u : Int) % 2 == 1) = true := by rw [show (u : Int) % 2 = 1 by omega]; rfl
              have HP := Lib.hid (HZ.out.1.1 hpar)
              clear hpar
              go_upto_region 22 with (fail)
              rw [HP.out]
            all_goals
              by_cases hzb : z < lo ∨ z > hi
              · have hN := HZ.out.2
                rw [if_pos hzb] at hN
                have HN2 := Lib.hid hN
                clear hN
                rcases hzb with h | h
                · go_wp2_with fail
                  go_returns
                  rw [HN2.out]
                  exact ⟨rfl, H.out.setE 4, setCell_grown _ _ _ _⟩
                · by_cases h2 : z < lo
                  · go_wp2_with fail
                    go_returns
                    rw [HN2.out]
                    exact ⟨rfl, H.out.setE 4, setCell_grown _ _ _ _⟩
                  · go_wp2_with fail
                    go_returns
                    rw [HN2.out]
                    exact ⟨rfl, H.out.setE 4, setCell_grown _ _ _ _⟩
              · have hN := HZ.out.2
                rw [if_neg hzb] at hN
                have HN2 := Lib.hid hN
                have h1 : ¬ z < lo := by omega
                have h2 : ¬ hi < z := by omega
                clear hN hzb
                go_wp2_with fail
                go_returns
                rw [HN2.out, exd_drop]
                exact ⟨rfl, H.out.setB _, setCell_grown _ _ _ _⟩
      · rw [if_neg h128] at hrec
        have hi99 : i < 9 := by omega
        have hi99' : ((i : Int) == 9) = false := by simp; omega
        have HR := Lib.hid hrec
        have E := Lib.hid (add_raw2 x i v (x - 128) hv (by omega) (by omega) (by omega))
        have HV := Lib.hid hv
        clear hrec hv h9 hg9
        go_wp2_with fail
        go_roundw
        case rel =>
          refine ⟨i + 1, v + (x - 128) * 128 ^ i, congrArg (Value.int .u64) E.out, by first | rfl | simp, by omega, by omega, ?_, ?_, by first | rfl | trivial⟩
          · have : (x - 128) * 128 ^ i ≤ 127 * 128 ^ i := Nat.mul_le_mul (by omega) (Nat.le_refl _)
            have := HV.out
            rw [Nat.pow_succ]; omega
          · rw [show 10 - (i + 1) = 9 - i by omega]
            exact HR.out
        case measure => simp [intOf]; omega
  · have he1 : ((e0 : Int) != 0) = true := by simp; omega
    have HE := Lib.hid he0
    clear he0
    go_wp2_with fail
    go_returns
    have : N = (0, (l, e0)) := by rw [← HN.out, numR, if_pos HE.out]
    subst this
    exact ⟨rfl, H.out, grown_refl _ _⟩

/-! ### The calls on nothing. -/

end Go.Proofs.YtnonhmjfhcmpgaaDoor
