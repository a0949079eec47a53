/- The walks of the reading end: wire.Open, and the methods of In. -/
import Derived.Test.YtkgdcbpiicckkaaGreatDoorWire
import Derived.Test.YtkgdcbpiicckkaaGreatDoorCloneB
import Derived.Test.YtkgdcbpiicckkaaGreatDoorRead
import Derived.Lib.BufferMore
import Derived.Handy
import Derived.Laws.Bits64b
namespace Go.Proofs.YtkgdcbpiicckkaaGreatDoor
set_option linter.unusedSimpArgs false
set_option linter.unusedVariables false
open Go.RowKit
/-- A reading's object: what is left, and the first error. -/
def InAt (w : World) (g : Nat) (s : St) : Prop :=
  ∃ ao cap, w.heap[g]? = some (.cells #[.slice ao s.1.length cap, .int .i64 (s.2 : Int)] 58 (0, 0)) ∧ At w ao (bytesV s.1) ∧ (∀ b, blk ao = some b → b < g) ∧ s.1.length ≤ cap

theorem InAt.lt {w : World} {g : Nat} {s : St} (h : InAt w g s) : g < w.heap.size := by
  obtain ⟨ao, cap, h, _⟩ := h
  exact (Array.getElem?_eq_some_iff.1 h).1
theorem InAt.below {w w' : World} {g : Nat} {s : St} (h : InAt w g s) (hb : Below w.heap.size w w') : InAt w' g s := by
  have hlt := h.lt
  obtain ⟨ao, cap, h1, h2, h3, h4⟩ := h
  exact ⟨ao, cap, by rw [hb.block g hlt]; exact h1, h2.below hb, h3, h4⟩

set_option maxHeartbeats 400000 in
theorem open_any (ao : Option Addr) (l : List UInt8) (cap : Nat) (hm : l.length ≤ 70368744177664) (w : World) (hat : At w ao (bytesV l)) :
    Calls Tryz.prog 12 #[.slice ao l.length cap] w (fun e w' => ∃ g, e = .returned (.pointer (some ⟨g, 0, none⟩)) ∧ w.heap.size ≤ g ∧ InAt w' g (l, 0) ∧ Below w.heap.size w w') := by
  have HA := Lib.hid hat
  go_enter Tryz.func12, Tryz.ntmps12
  go_wp2_with fail
  refine (clone_any ao l l.length cap rfl hm w hat).mono ?_
  rintro e w1 ⟨ao1, cap1, rfl, hown, hbel⟩
  have H := Lib.hid (And.intro hown hbel)
  clear hown hbel
  go_wp2_with fail
  go_ret
  refine ⟨w1.heap.size, rfl, H.out.2.size, ⟨ao1, cap1, heap_alloc_new w1 _, (At.own H.out.1).below ((Below.refl _ _).alloc (Nat.le_refl _) _), ?_, ?_⟩, H.out.2.alloc H.out.2.size _⟩
  · intro b hb
    exact (H.out.1.lt b (by rw [own_slice]; exact hb)).2
  · obtain ⟨_, _, e, h⟩ := owns_form H.out.1
    cases e
    exact h

/-- The loads of a reading's object. -/
theorem InAt.cells {w : World} {g : Nat} {s : St} (h : InAt w g s) : ∃ ao cap, w.cell? ⟨g, 0, none⟩ = some (.slice ao s.1.length cap) ∧ w.cell? ⟨g, 1, none⟩ = some (.int .i64 (s.2 : Int)) ∧ At w ao (bytesV s.1) ∧ blk ao ≠ some g ∧ s.1.length ≤ cap := by
  obtain ⟨ao, cap, h1, h2, h3, h4⟩ := h
  exact ⟨ao, cap, cell_of_row _ g 0 _ _ (0, 0) h1, cell_of_row _ g 1 _ _ (0, 0) h1, h2, fun h => Nat.lt_irrefl _ (h3 _ h), h4⟩

set_option maxHeartbeats 400000 in
theorem err_any (g : Nat) (s : St) (w : World) (h : InAt w g s) :
    Calls Tryz.prog 35 #[.pointer (some ⟨g, 0, none⟩)] w (fun e w' => e = .returned (.int .i64 (s.2 : Int)) ∧ w' = w) := by
  obtain ⟨ao, cap, c0, c1, hat, hne, hcap⟩ := h.cells
  have H := Lib.hid h
  have HC := Lib.hid (And.intro c0 (And.intro hat (And.intro hne hcap)))
  clear c0 h hat hne hcap
  go_enter Tryz.func35, Tryz.ntmps35
  go_wp2_with fail
  go_ret
  exact ⟨rfl, rfl⟩

theorem setCell_row {w : World} {g : Nat} {cs : Array Value} {t : TypeId} {fr : Nat × Nat} (j : Nat) (v : Value) (h : w.heap[g]? = some (.cells cs t fr)) : (w.setCell ⟨g, j, none⟩ v).heap[g]? = some (.cells (cs.setIfInBounds j v) t fr) := by
  simp [World.setCell, Array.getElem?_modify, h]
theorem setCell_else (w : World) (g j : Nat) (v : Value) (k : Nat) (hk : k ≠ g) : (w.setCell ⟨g, j, none⟩ v).heap[k]? = w.heap[k]? := by
  simp [World.setCell, Array.getElem?_modify, Ne.symm hk]
theorem setCell_grown (w : World) (g j : Nat) (v : Value) : w.grownBy (w.setCell ⟨g, j, none⟩ v) (some g) :=
  ⟨by simp [World.setCell], by simp [World.setCell], by simp [World.setCell], by simp [World.setCell], fun k _ hne => setCell_else w g j v k (fun e => hne (by rw [e]))⟩
theorem At.setElse {w : World} {ao : Option Addr} {xs : List Value} (h : At w ao xs) (g j : Nat) (v : Value) (hne : blk ao ≠ some g) : At (w.setCell ⟨g, j, none⟩ v) ao xs :=
  h.keep fun b hb _ => setCell_else w g j v b (by rintro rfl; exact hne hb)

/-- Another error; a later place. -/
theorem InAt.setE {w : World} {g : Nat} {s : St} (h : InAt w g s) (e : Nat) : InAt (w.setCell ⟨g, 1, none⟩ (.int .i64 (e : Int))) g (s.1, e) := by
  obtain ⟨ao, cap, h1, h2, h3, h4⟩ := h
  exact ⟨ao, cap, by rw [setCell_row 1 _ h1]; rfl, h2.setElse g 1 _ (fun h => Nat.lt_irrefl _ (h3 _ h)), h3, h4⟩
theorem InAt.frozen {w : World} {g : Nat} {s : St} (h : InAt w g s) (j : Nat) : w.frozen? ⟨g, j, none⟩ = false := by
  obtain ⟨ao, cap, h1, _⟩ := h
  exact frozen_of_row w g j _ _ h1

set_option maxHeartbeats 400000 in
theorem fail_any (g : Nat) (s : St) (e : Nat) (w : World) (h : InAt w g s) :
    Calls Tryz.prog 36 #[.pointer (some ⟨g, 0, none⟩), .int .i64 (e : Int)] w (fun x w' => ∃ v, x = .returned v ∧ InAt w' g (failR e s) ∧ w.grownBy w' (some g)) := by
  obtain ⟨ao, cap, c0, c1, hat, hne, hcap⟩ := h.cells
  have H := Lib.hid h
  have HC := Lib.hid (And.intro c0 (And.intro hat (And.intro hne hcap)))
  have hfz := h.frozen 1
  clear c0 h hat hne hcap
  go_enter Tryz.func36, Tryz.ntmps36
  by_cases hs : s.2 = 0
  · have hs' : ((s.2 : Int) == 0) = true := by simp [hs]
    have HS := Lib.hid hs
    clear hs
    go_wp2_with fail
    go_returns
    refine ⟨_, rfl, ?_, setCell_grown _ _ _ _⟩
    rw [failR, if_pos HS.out]
    exact H.out.setE e
  · have hs' : ((s.2 : Int) == 0) = false := by simp; omega
    have HS := Lib.hid hs
    clear hs
    go_wp2_with fail
    go_returns
    refine ⟨_, rfl, ?_, ⟨rfl, rfl, rfl, Nat.le_refl _, fun _ _ _ => rfl⟩⟩
    rw [failR, if_neg HS.out]
    exact H.out

set_option maxRecDepth 100000 in
theorem or_raw (x i v : Nat) (hx : x < 256) (hv : v < 128 ^ i) (hi : i ≤ 9) (h9 : i = 9 → x % 128 ≤ 1) :
    bits .or .u64 (v : Int) (IntKind.u64.wrap (IntKind.u64.wrap (bits .and .u8 (x : Int) 127) * 2 ^ (7 * i))) = ((v + x % 128 * 128 ^ i : Nat) : Int) := by
  have h1 : bits .and .u8 (x : Int) 127 = ((x % 128 : Nat) : Int) := by
    have e : ∀ a, a < 256 → (a &&& 127 : Nat) = a % 128 := by decide +kernel
    have h1 : (BitVec.ofInt 8 (x : Int)).toNat = x := by rw [BitVec.ofInt_natCast, BitVec.toNat_ofNat]; omega
    show IntKind.u8.wrap ((BitVec.ofInt 8 (x : Int) &&& BitVec.ofInt 8 127).toNat : Int) = _
    rw [BitVec.toNat_and, h1, show (BitVec.ofInt 8 127).toNat = 127 from rfl, e _ hx, IntKind.wrap_u8]
    omega
  have hp : x % 128 * 128 ^ i + 128 ^ i ≤ 18446744073709551616 := by
    rcases Nat.lt_or_ge i 9 with h | h
    · have h8 : 128 ^ i ≤ 128 ^ 8 := Nat.pow_le_pow_right (by decide) (by omega)
      have : x % 128 * 128 ^ i ≤ 127 * 128 ^ 8 := Nat.mul_le_mul (by omega) h8
      have e8 : 127 * 128 ^ 8 = 9151314442816847872 := by decide
      have e9 : 128 ^ 8 = 72057594037927936 := by decide
      omega
    · obtain rfl : i = 9 := by omega
      have h9' := h9 rfl
      clear h9 hv h1 hx
      generalize x % 128 = y at *
      rcases (show y = 0 ∨ y = 1 by omega) with rfl | rfl <;> decide
  have h2 : ((x % 128 : Nat) : Int) * 2 ^ (7 * i) = ((x % 128 * 128 ^ i : Nat) : Int) := by
    rw [Int.natCast_mul, show (128 : Nat) ^ i = 2 ^ (7 * i) by rw [Nat.pow_mul]]
    simp
  rw [h1, IntKind.wrap_u64, IntKind.wrap_u64, show ((x % 128 : Nat) : Int) % 18446744073709551616 = ((x % 128 : Nat) : Int) by omega, h2,
    show ((x % 128 * 128 ^ i : Nat) : Int) % 18446744073709551616 = ((x % 128 * 128 ^ i : Nat) : Int) by have := Nat.pow_pos (n := i) (show 0 < 128 by decide); omega]
  have hpos := Nat.pow_pos (n := i) (show 0 < 128 by decide)
  rw [bits_or_u64_nat v _ (by omega) (by omega)]
  have e2 : (128 : Nat) ^ i = 2 ^ (7 * i) := by rw [Nat.pow_mul]
  rw [e2] at hv ⊢
  rw [Nat.mul_comm, Nat.or_comm, ← Nat.two_pow_add_eq_or_of_lt hv, Nat.add_comm]

set_option maxRecDepth 100000 in
set_option maxHeartbeats 1000000 in
theorem raw_any (g : Nat) (s : St) (w : World) (h : InAt w g s) (u k e : Nat) (hr : raw s.1 = (u, k, e)) :
    Calls Tryz.prog 51 #[.pointer (some ⟨g, 0, none⟩)] w (fun x w' => x = .returned (.tuple #[.int .u64 (u : Int), .int .i64 (k : Int), .int .i64 (e : Int)]) ∧ w' = w) := by
  obtain ⟨ao, cap, c0, c1, hat, hne, hcap⟩ := h.cells
  obtain ⟨l, e0⟩ := s
  have H := Lib.hid h
  have HC := Lib.hid (And.intro c1 (And.intro hat (And.intro hne hcap)))
  clear c1 h hat hne hcap
  go_enter Tryz.func51, Tryz.ntmps51
  go_wp2_with fail
  go_loopw [5, 8] (fun x y wr => ∃ i v : Nat, x = .int .u64 (v : Int) ∧ y = .int .i64 (i : Int) ∧ i ≤ 10 ∧ i ≤ l.length ∧ v < 128 ^ i ∧ rawF (10 - i) i v (l.drop i) = (u, k, e) ∧ wr = w) (fun _ j _ => 10 - (intOf j).toNat)
  case atStart => exact ⟨0, 0, rfl, rfl, by omega, by omega, by simp, hr, rfl⟩
  case round =>
    obtain ⟨i, v, rfl, rfl, hi, hil, hv, hrec, rfl⟩ := hrel
    by_cases hi10 : i = 10
    · subst hi10
      rw [show 10 - 10 = 0 from rfl, rawF] at hrec
      simp only [Prod.mk.injEq] at hrec
      obtain ⟨rfl, rfl, rfl⟩ := hrec
      clear hv hil
      go_wp2_with fail
      go_returns
      exact ⟨rfl, rfl⟩
    have h10 : ((i : Int) < 10) := by omega
    by_cases hend : i = l.length
    · subst hend
      rw [show 10 - l.length = (9 - l.length) + 1 by omega, List.drop_length, rawF] at hrec
      simp only [Prod.mk.injEq] at hrec
      obtain ⟨rfl, rfl, rfl⟩ := hrec
      clear hv hil
      go_wp2_with fail
      go_returns
      exact ⟨rfl, rfl⟩
    have hlt : i < l.length := by omega
    have hend' : ((i : Int) == (l.length : Int)) = false := beq_eq_false_iff_ne.2 (by omega)
    have hget := HC.out.2.1
    obtain ⟨b, o, rfl⟩ : ∃ b o, ao = some ⟨b, o, none⟩ := by
      rcases hget with h | ⟨b, o, h, _⟩
      · have := congrArg List.length h; rw [bytesV_length] at this; simp only [List.length_nil] at this; omega
      · exact ⟨b, o, h⟩
    have hcell := hget.cell i (.int .u8 ((l[i]).toNat : Int)) (by rw [bytesV_get l i hlt]; rfl)
    have hx : (l[i]).toNat < 256 := (l[i]).toNat_lt
    rw [show 10 - i = (9 - i) + 1 by omega, List.drop_eq_getElem_cons hlt, rawF] at hrec
    clear hend hget hr hi
    generalize (l[i]).toNat = x at *
    by_cases h9 : i = 9
    · subst h9
      have HV := Lib.hid hv
      clear hv
      rcases Nat.lt_or_ge 1 x with h1 | h1
      · rw [if_pos ⟨rfl, h1⟩] at hrec
        simp only [Prod.mk.injEq] at hrec
        obtain ⟨rfl, rfl, rfl⟩ := hrec
        go_wp2_with fail
        go_returns
        exact ⟨rfl, rfl⟩
      · rw [if_neg (by omega), if_pos (by omega)] at hrec
        rcases Nat.eq_zero_or_pos x with rfl | h0
        · rw [if_pos (by omega)] at hrec
          simp only [Prod.mk.injEq] at hrec
          obtain ⟨rfl, rfl, rfl⟩ := hrec
          go_wp2_with fail
          go_returns
          exact ⟨rfl, rfl⟩
        · obtain rfl : x = 1 := by omega
          rw [if_neg (by omega)] at hrec
          simp only [Prod.mk.injEq] at hrec
          obtain ⟨rfl, rfl, rfl⟩ := hrec
          go_wp2_with fail
          have E := or_raw 1 9 v (by omega) HV.out (by omega) (by omega)
          rw [show (2 : Int) ^ (7 * 9) = 9223372036854775808 by decide] at E
          go_returns
          exact ⟨congrArg (fun z => Ending.returned (.tuple #[.int .u64 z, .int .i64 10, .int .i64 0])) E, rfl⟩
    rw [if_neg (by omega)] at hrec
    have hi9 : i < 9 := by omega
    clear h9
    have HV := Lib.hid (And.intro hv hi9)
    clear hv
    rcases Nat.lt_or_ge x 128 with h1 | h1
    · rw [if_pos h1] at hrec
      by_cases h0 : x = 0
      · subst h0
        rcases Nat.eq_zero_or_pos i with rfl | hi0
        · rw [if_neg (by omega)] at hrec
          have hv0 := HV.out.1
          obtain rfl : v = 0 := by omega
          simp only [Prod.mk.injEq] at hrec
          obtain ⟨rfl, rfl, rfl⟩ := hrec
          simp only [Nat.add_zero] at hcell
          go_wp2_with fail
          go_returns
          exact ⟨rfl, rfl⟩
        · rw [if_pos ⟨rfl, hi0⟩] at hrec
          simp only [Prod.mk.injEq] at hrec
          obtain ⟨rfl, rfl, rfl⟩ := hrec
          go_wp2_with fail
          go_returns
          exact ⟨rfl, rfl⟩
      · rw [if_neg (by omega)] at hrec
        simp only [Prod.mk.injEq] at hrec
        obtain ⟨rfl, rfl, rfl⟩ := hrec
        go_wp2_with fail
        have E := or_raw x i v hx HV.out.1 (by omega) (by omega)
        rw [Nat.mod_eq_of_lt h1] at E
        go_returns
        exact ⟨congrArg (fun z => Ending.returned (.tuple #[.int .u64 z, .int .i64 ((i + 1 : Nat) : Int), .int .i64 0])) E, rfl⟩
    · rw [if_neg (by omega)] at hrec
      have HR := Lib.hid hrec
      clear hrec
      have E := or_raw x i v hx HV.out.1 (by omega) (by omega)
      rw [show x % 128 = x - 128 by omega] at E
      go_wp2_with fail
      go_roundw
      case rel =>
        refine ⟨i + 1, v + (x - 128) * 128 ^ i, by first | rfl | simp [E], by first | rfl | simp, by omega, by omega, ?_, ?_, by first | rfl | trivial⟩
        · have : (x - 128) * 128 ^ i ≤ 127 * 128 ^ i := Nat.mul_le_mul (by omega) (Nat.le_refl _)
          have := HV.out.1
          rw [Nat.pow_succ]; omega
        · rw [show 10 - (i + 1) = 9 - i by omega]
          exact HR.out
      case measure => simp [intOf]; omega

/-- A later place. -/
theorem InAt.setB {w : World} {g : Nat} {s : St} (h : InAt w g s) (ao : Option Addr) (cap : Nat) (hc : w.cell? ⟨g, 0, none⟩ = some (.slice ao s.1.length cap)) (k : Nat) :
    InAt (w.setCell ⟨g, 0, none⟩ (.slice (tailOf ao cap k) (s.1.length - k) (cap - k))) g (s.1.drop k, s.2) := by
  obtain ⟨ao', cap', h1, h2, h3, h4⟩ := h
  have h5 := cell_of_row _ g 0 _ _ (0, 0) h1
  rw [h5] at hc
  cases hc
  have hadd : ∀ a : Addr, (a.add k).block = a.block := by intro a; unfold Addr.add; split <;> rfl
  have hbl : ∀ b, blk (tailOf ao cap k) = some b → b < g := by
    unfold tailOf; split
    · exact h3
    · cases ao with
      | none => simp [blk]
      | some a => simpa [blk, hadd] using h3
  have hne : blk (tailOf ao cap k) ≠ some g := fun h => Nat.lt_irrefl _ (hbl _ h)
  refine ⟨tailOf ao cap k, cap - k, by rw [setCell_row 0 _ h1]; simp, ?_, hbl, by simp; omega⟩
  have := (h2.drop cap k (by rw [bytesV_length]; exact h4)).setElse g 0 (.slice (tailOf ao cap k) (s.1.length - k) (cap - k)) hne
  rw [show bytesV (s.1.drop k) = (bytesV s.1).drop k by simp [bytesV, List.map_drop]]
  exact this

theorem xor_unzz (u : Nat) (hu : u < 18446744073709551616) : bits .xor .i64 ((u : Int) / 2) (wrap64 (-wrap64 (bits .and .u64 (u : Int) 1))) = unzz u := by
  have h1 : bits .and .u64 (u : Int) 1 = ((u % 2 : Nat) : Int) := by
    rw [show (1 : Int) = ((1 : Nat) : Int) from rfl, bits_and_u64_nat u 1 hu (by decide), Nat.and_one_is_mod]
  have hd : (u : Int) / 2 = ((u / 2 : Nat) : Int) := by omega
  have ha : (BitVec.ofInt 64 ((u / 2 : Nat) : Int)).toNat = u / 2 := by rw [BitVec.ofInt_natCast, BitVec.toNat_ofNat]; omega
  rw [h1, hd]
  rcases Nat.mod_two_eq_zero_or_one u with h | h
  · rw [h, unzz, if_pos h, show wrap64 (-wrap64 ((0 : Nat) : Int)) = 0 by decide +kernel]
    show IntKind.i64.wrap ((BitVec.ofInt 64 ((u / 2 : Nat) : Int) ^^^ BitVec.ofInt 64 0).toNat : Int) = _
    rw [show BitVec.ofInt 64 0 = 0#64 by decide, BitVec.xor_zero, ha]
    simp only [IntKind.wrap_i64]
    omega
  · rw [h, unzz, if_neg (by omega), show wrap64 (-wrap64 ((1 : Nat) : Int)) = -1 by decide +kernel]
    show IntKind.i64.wrap ((BitVec.ofInt 64 ((u / 2 : Nat) : Int) ^^^ BitVec.ofInt 64 (-1)).toNat : Int) = _
    rw [show BitVec.ofInt 64 (-1) = BitVec.allOnes 64 by decide, BitVec.xor_allOnes, BitVec.toNat_not, ha]
    simp only [IntKind.wrap_i64]
    omega

theorem grown_refl (w : World) (ob : Option Nat) : w.grownBy w ob := ⟨rfl, rfl, rfl, Nat.le_refl _, fun _ _ _ => rfl⟩

set_option maxRecDepth 100000 in
set_option maxHeartbeats 1000000 in
theorem inum_any (g : Nat) (s : St) (lo hi : Int) (w : World) (h : InAt w g s) :
    Calls Tryz.prog 34 #[.pointer (some ⟨g, 0, none⟩), .int .i64 lo, .int .i64 hi] w (fun x w' => x = .returned (.int .i64 (numR lo hi s).1) ∧ InAt w' g (numR lo hi s).2 ∧ w.grownBy w' (some g)) := by
  obtain ⟨ao, cap, c0, c1, hat, hne, hcap⟩ := h.cells
  obtain ⟨l, e0⟩ := s
  have H := Lib.hid h
  have HC := Lib.hid (And.intro c0 (And.intro c1 (And.intro hat (And.intro hne hcap))))
  have hfz := h.frozen 0
  clear c1 h hat hne hcap
  generalize hN : numR lo hi (l, e0) = N
  have HN := Lib.hid hN
  clear hN
  go_enter Tryz.func34, Tryz.ntmps34
  go_wp2_with fail
  refine (err_any g (l, e0) w H.out).mono ?_
  rintro e w1 ⟨rfl, rfl⟩
  by_cases he0 : e0 = 0
  · subst he0
    go_wp2_with fail
    obtain ⟨u, k, e, hr⟩ : ∃ u k e, raw l = (u, k, e) := ⟨_, _, _, rfl⟩
    refine (raw_any g (l, 0) w1 H.out u k e hr).mono ?_
    rintro x w2 ⟨rfl, rfl⟩
    by_cases he : e = 0
    · subst he
      obtain ⟨-, hkl, -, hu⟩ := raw_ok hr
      have hz := xor_unzz u hu
      have hN1 : N = if unzz u < lo ∨ unzz u > hi then (0, (l, 4)) else (unzz u, (l.drop k, 0)) := by
        rw [← HN.out, numR, if_neg (by simp)]
        simp only [hr, if_neg (show ¬ (0 : Nat) ≠ 0 by simp)]
      generalize unzz u = z at *
      have HR := Lib.hid hr
      have HU := Lib.hid (And.intro hu hkl)
      clear hr hkl
      by_cases hb : z < lo ∨ z > hi
      · rw [if_pos hb] at hN1
        subst hN1
        have hb' : (decide (z < lo) || decide (hi < z)) = true := by
          rcases hb with h | h <;> simp [h]
        go_wp2_with fail
        all_goals
          first
          | omega
          | refine (fail_any g (l, 0) 4 w2 H.out).mono ?_
            rintro x w3 ⟨v, rfl, hin, hgr⟩
            go_wp2_with fail
            go_returns
            exact ⟨rfl, hin, hgr⟩
      · rw [if_neg hb] at hN1
        subst hN1
        have hb' : ¬ z < lo := by omega
        have hb2 : ¬ hi < z := by omega
        go_wp2_with (refine slice_lo rfl _ _ rfl ao l.length cap k rfl rfl HU.out.2 ?_)
        all_goals
          first
          | omega
          | skip
        go_returns
        refine ⟨rfl, H.out.setB ao cap HC.out.1 k, setCell_grown _ _ _ _⟩
    · have he1 : ((e : Int) == 0) = false := by simp; omega
      have he2 : ((e : Int) != 0) = true := by simp; omega
      have HE := Lib.hid he
      clear he
      have HR := Lib.hid hr
      clear hr
      go_wp2_with fail
      refine (fail_any g (l, 0) e w2 H.out).mono ?_
      rintro x w3 ⟨v, rfl, hin, hgr⟩
      go_wp2_with fail
      go_returns
      have : N = (0, (l, e)) := by
        rw [← HN.out, numR, if_neg (by simp)]
        simp only [HR.out, if_pos HE.out]
      subst this
      exact ⟨rfl, hin, hgr⟩
  · have he1 : ((e0 : Int) != 0) = true := by simp; omega
    have HE := Lib.hid he0
    clear he0
    go_wp2_with fail
    go_returns
    have : N = (0, (l, e0)) := by rw [← HN.out, numR, if_pos HE.out]
    subst this
    exact ⟨rfl, H.out, grown_refl _ _⟩

end Go.Proofs.YtkgdcbpiicckkaaGreatDoor
