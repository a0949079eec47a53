/- The walks of layer 1 for ScriptorNumbers: floats as bits, and the sixteen digits of these. -/
import Derived.Test.YtkgdcbpiicckkaaGreatDoorNumW
import Derived.Test.YtkgdcbpiicckkaaGreatDoorKeeps
namespace Go.Proofs.YtkgdcbpiicckkaaGreatDoor
set_option linter.unusedSimpArgs false
set_option linter.unusedVariables false
open Go.RowKit

theorem frombits_run (x : Int) (w : World) : (callFunc 21 #[.int .u64 x]).run Tryz.prog w = .ok (.value (.float .f64 x.toNat)) w := by
  rw [run_callFunc_extern (e := Extern.MathFloatBits.float64frombits) Tryz.func21 (by kernel_rfl) (by kernel_rfl) (by kernel_rfl) (by kernel_rfl)]
  rfl
theorem tobits_run (x : Nat) (w : World) : (callFunc 20 #[.float .f64 x]).run Tryz.prog w = .ok (.value (.int .u64 x)) w := by
  rw [run_callFunc_extern (e := Extern.MathFloatBits.float64bits) Tryz.func20 (by kernel_rfl) (by kernel_rfl) (by kernel_rfl) (by kernel_rfl)]
  rfl
theorem go_any (x : Int) (w : World) : Calls Tryz.prog 7 #[.int .u64 x] w (fun e w' => e = .returned (.float .f64 x.toNat) ∧ w = w') := by
  have hfr := frombits_run
  go_enter Tryz.func7, Tryz.ntmps7
  go_wp2_with fail
  go_ret
  exact ⟨rfl, rfl⟩
def isNaNB (x : Nat) : Bool := FloatKind.f64.format.order x x != some Ordering.eq
theorem isnan_any (x : Nat) (w : World) : Calls Tryz.prog 19 #[.float .f64 x] w (fun e w' => e = .returned (.bool (isNaNB x)) ∧ w = w') := by
  have hbin : ∀ w, (binOp .neq 30 (.float .f64 x) (.float .f64 x)).run Tryz.prog w = .ok (.bool (isNaNB x)) w := fun _ => rfl
  go_enter Tryz.func19, Tryz.ntmps19
  go_wp2_with fail
  go_ret
  exact ⟨rfl, rfl⟩
/-- A float's bits, none of which is another name of no number. -/
def ofM (x : Nat) : Int := if isNaNB x then 9221120237041090560 else (x : Int)
theorem of_any (x : Nat) (w : World) : Calls Tryz.prog 6 #[.float .f64 x] w (fun e w' => e = .returned (.int .u64 (ofM x)) ∧ w = w') := by
  have htb := tobits_run
  cases hn : isNaNB x
  · have HN := Lib.hid (show ofM x = (x : Int) by unfold ofM; rw [hn]; rfl)
    go_enter Tryz.func6, Tryz.ntmps6
    go_wp2_with fail
    refine (isnan_any x w).mono ?_
    rintro e w1 ⟨rfl, rfl⟩
    rw [hn]
    go_wp2_with fail
    go_ret
    exact ⟨by rw [HN.out]; rfl, rfl⟩
  · have HN := Lib.hid (show ofM x = 9221120237041090560 by unfold ofM; rw [hn]; rfl)
    go_enter Tryz.func6, Tryz.ntmps6
    go_wp2_with fail
    refine (isnan_any x w).mono ?_
    rintro e w1 ⟨rfl, rfl⟩
    rw [hn]
    go_wp2_with fail
    go_ret
    exact ⟨by rw [HN.out]; rfl, rfl⟩
/-- What is asked of the table of places of bits: at 16. -/
def DTab (w : World) : Prop := w.cell? ⟨7, 15, none⟩ = some (.int .u8 4)
set_option maxRecDepth 100000 in
theorem pow2_any (w : World) : Calls Tryz.prog 77 #[.int .i64 16] w (fun e w' => e = .returned (.bool true) ∧ w = w') := by
  go_enter Tryz.func77, Tryz.ntmps77
  go_wp2
  go_ret
  exact ⟨rfl, rfl⟩
set_option maxRecDepth 100000 in
theorem tz64_any (w : World) (hd : DTab w) : Calls Tryz.prog 90 #[.int .u64 16] w (fun e w' => e = .returned (.int .i64 4) ∧ w = w') := by
  unfold DTab at hd
  have E1 : IntKind.u64.wrap (bits .and .u64 16 (IntKind.u64.wrap (-16)) * 285870213051353865) = 4573923408821661840 := by kernel_rfl
  go_enter Tryz.func90, Tryz.ntmps90
  go_wp2
  go_ret
  exact ⟨rfl, rfl⟩
theorem tz_any (w : World) (hd : DTab w) : Calls Tryz.prog 78 #[.int .u64 16] w (fun e w' => e = .returned (.int .i64 4) ∧ w = w') := by
  have HC := Lib.hid (tz64_any w hd)
  clear hd
  go_enter Tryz.func78, Tryz.ntmps78
  go_wp2_with fail
  refine HC.out.mono ?_
  rintro e w1 ⟨rfl, rfl⟩
  go_wp2_with fail
  go_ret
  exact ⟨rfl, rfl⟩
def hexC (d : Nat) : UInt8 := UInt8.ofNat (if d < 10 then 48 + d else 87 + d)
/-- A number's digits to the base sixteen. -/
def hexL (x : Nat) : List UInt8 := if h : x < 16 then [hexC x] else hexL (x / 16) ++ [hexC (x % 16)]
theorem hexL_len (k : Nat) : ∀ x : Nat, x < 16 ^ (k + 1) → (hexL x).length ≤ k + 1 := by
  induction k with
  | zero => intro x hx; rw [hexL, dif_pos (by simpa using hx)]; simp
  | succ k ih =>
    intro x hx
    by_cases h : x < 16
    · rw [hexL, dif_pos h]; simp
    · rw [hexL, dif_neg h]
      have := ih (x / 16) (by rw [Nat.pow_succ] at hx; omega)
      simp
      omega
def DIG : ByteArray := ⟨#[48, 49, 50, 51, 52, 53, 54, 55, 56, 57, 97, 98, 99, 100, 101, 102, 103, 104, 105, 106, 107, 108, 109, 110, 111, 112, 113, 114, 115, 116, 117, 118, 119, 120, 121, 122]⟩
theorem dig_get (d : Nat) (hd : d < 16) : ∀ h : d < DIG.size, (DIG[d]'h).toNat = (hexC d).toNat := by
  rcases (by omega : d = 0 ∨ d = 1 ∨ d = 2 ∨ d = 3 ∨ d = 4 ∨ d = 5 ∨ d = 6 ∨ d = 7 ∨ d = 8 ∨ d = 9 ∨ d = 10 ∨ d = 11 ∨ d = 12 ∨ d = 13 ∨ d = 14 ∨ d = 15) with rfl | rfl | rfl | rfl | rfl | rfl | rfl | rfl | rfl | rfl | rfl | rfl | rfl | rfl | rfl | rfl <;> intro h <;> rfl
theorem slice65 (g m : Nat) (hm : m < 65) (w : World) : (Instr.sliceAt 110 (.pointer (some ⟨g, 0, none⟩)) (some (.int .i64 (m : Int))) none none).run Tryz.prog w = .ok (.slice (some ⟨g, m, none⟩) (65 - m) (65 - m)) w := by
  have hal : Tryz.prog.arrayLen 110 = 65 := by kernel_rfl
  have he : Tryz.prog.elem 110 = 5 := by kernel_rfl
  have h := run_sliceAt_array_l (P := Tryz.prog) w 110 ⟨g, 0, none⟩ (by kernel_rfl) .i64 (m : Int) (by omega) (by rw [hal]; omega)
  rw [h, hal, he]
  have hs : (sizeOf 5).run Tryz.prog w = .ok 1 w := by simp [go_sem, Tryz.sizeOf5]
  rw [hs]
  simp [slicedAt, Addr.add, show ¬ (65 = m) by omega]
  omega
theorem slice65_arm {w : World} {ops : Array Oper} {rest : List Oper} {o : Oper} {a : Act} {Q : Exit → Act → World → Prop} (hgd : Region.wanted o (yielded ops a.tmps) = true) (x lo : Operand) (ho : o.op = .slice 110 x (some lo) none none)
    (g m : Nat) (hm : m < 65) (hx : a.eval x = .pointer (some ⟨g, 0, none⟩)) (hl : a.eval lo = .int .i64 (m : Int))
    (h : wpList Tryz.prog ops Q rest (a.put o.dst (.slice (some ⟨g, m, none⟩) (65 - m) (65 - m))) w) : wpList Tryz.prog ops Q (o :: rest) a w := by
  refine wpList_go hgd fun K hK => ?_
  have hr : (execOp a.eval o).run Tryz.prog w = .ok (.value (.slice (some ⟨g, m, none⟩) (65 - m) (65 - m))) w := by
    unfold execOp
    simp only [ho, hx, hl, Option.map_some, Option.map_none, slice65 g m hm w, Sem.run_bind, Sem.run_pure, Result.andThen_ok]
  unfold Oper.wp
  rw [hr]
  exact hK _ _ h
theorem and15n (c : Nat) (hc : c < 18446744073709551616) : bits .and .u64 (c : Int) 15 = ((c % 16 : Nat) : Int) := by
  have h : c &&& 15 = c % 16 := Nat.and_two_pow_sub_one_eq_mod c 4
  rw [show (15 : Int) = ((15 : Nat) : Int) from rfl, bits_and_u64_nat c 15 hc (by decide), h]
/-- The array of digits, filled from the place i on. -/
def HexI (W : World) (g i : Nat) (suf : List UInt8) (wr : World) : Prop :=
  ∃ arr : Array Value, wr.heap[g]? = some (.cells arr 110 (0, 0)) ∧ arr.size = 65 ∧ arr.toList.drop i = bytesV suf ∧ i + suf.length = 65 ∧ Keeps (fun b => b = g) W wr
theorem hexI_step {W wr : World} {g i : Nat} {suf : List UInt8} (h : HexI W g (i + 1) suf wr) (c : UInt8) : wr.frozen? ⟨g, i, none⟩ = false ∧ (∃ v, wr.cell? ⟨g, i, none⟩ = some v) ∧ HexI W g i (c :: suf) (wr.setCell ⟨g, i, none⟩ (.int .u8 (c.toNat : Int))) := by
  obtain ⟨arr, hr, hs, hd, hl, hk⟩ := h
  have hi : i < arr.size := by omega
  refine ⟨frozen_of_row wr g i _ _ hr, ⟨arr[i], ?_⟩, arr.setIfInBounds i (.int .u8 (c.toNat : Int)), ?_, by simpa using hs, ?_, by simp; omega, hk.trans' (Keeps.of_grown (setCell_grown0 _ _ _ _) rfl)⟩
  · rw [cell_of_row wr g i _ _ (0, 0) hr]
    simp [hi]
  · rw [setCell_row0 i _ hr]
  · rw [List.drop_eq_getElem_cons (by simpa using hi)]
    simp only [Array.toList_setIfInBounds, List.getElem_set_self]
    rw [List.drop_set_of_lt (by omega), hd]
    rfl
set_option maxRecDepth 100000 in
set_option maxHeartbeats 4000000 in
theorem fbits_any (x : Nat) (hx : x < 18446744073709551616) (w : World) (hd : DTab w) :
    Calls Tryz.prog 56 #[.slice none 0 0, .int .u64 (x : Int), .int .i64 16, .bool false, .bool false] w (fun e w' => e = .returned (.tuple #[.slice none 0 0, .string ⟨(hexL x).toArray⟩]) ∧ Below w.heap.size w w') := by
  obtain ⟨g, hg⟩ : ∃ g, w.heap.size = g := ⟨_, rfl⟩
  obtain ⟨W1, hW1⟩ : ∃ W1, w.alloc (.cells Tryz.zeroCells110 110) = W1 := ⟨_, rfl⟩
  have hb1 : Below g w W1 := by rw [← hW1, ← hg]; exact (Below.refl _ w).alloc (Nat.le_refl _) _
  have hr1 : W1.heap[g]? = some (.cells Tryz.zeroCells110 110 (0, 0)) := by rw [← hW1, ← hg]; exact heap_alloc_new w _
  have hd1 : DTab W1 := by
    unfold DTab at hd ⊢
    exact (World.cell?_of_block (a := ⟨7, 15, none⟩) (hb1.block 7 (by have := World.block_lt_of_cell? (a := ⟨7, 15, none⟩) w hd; rw [← hg]; exact this))).trans hd
  have H := Lib.hid (And.intro hb1 (And.intro hr1 (And.intro hd1 (And.intro hW1 hg))))
  have hi0 : HexI W1 g 65 [] W1 := ⟨_, hr1, by kernel_rfl, by kernel_rfl, rfl, Keeps.refl _ _⟩
  have HI := Lib.hid hi0
  have hx2 : x < 16 ^ 16 := hx
  have HX := Lib.hid hx2
  clear hb1 hr1 hd1 hW1 hg hi0 hd hx hx2
  go_enter Tryz.func56, Tryz.ntmps56
  go_wp2_with fail
  rw [H.out.2.2.2.1, H.out.2.2.2.2]
  refine (pow2_any _).mono ?_
  rintro e w1 ⟨rfl, rfl⟩
  go_wp2_with fail
  refine (tz_any _ H.out.2.2.1).mono ?_
  rintro e w1 ⟨rfl, rfl⟩
  go_wp2_with fail
  go_loopw [1, 13] (fun u i wr => ∃ (c n : Nat) (suf : List UInt8), u = .int .u64 (c : Int) ∧ i = .int .i64 (n : Int) ∧ HexI W1 g n suf wr ∧ hexL x = hexL c ++ suf ∧ suf.length ≤ 15 ∧ c < 16 ^ (16 - suf.length)) (fun _ i _ => (intOf i).toNat)
  case atStart => exact ⟨x, 65, [], rfl, rfl, HI.out, by simp, by decide, HX.out⟩
  case round =>
    obtain ⟨c, n, suf, rfl, rfl, hm, hxl, hsl, hc⟩ := hrel
    have hn : n + suf.length = 65 := by obtain ⟨_, _, _, _, h, _⟩ := hm; exact h
    have hcm : c < 18446744073709551616 := Nat.lt_of_lt_of_le hc (Nat.pow_le_pow_right (n := 16) (by decide) (show 16 - suf.length ≤ 16 by omega))
    obtain ⟨m, rfl⟩ : ∃ m, n = m + 1 := ⟨n - 1, by omega⟩
    have hsub : wrap64 (((m + 1 : Nat) : Int) - 1) = (m : Int) := by unfold wrap64; omega
    have hm64 : m < 65 := by omega
    by_cases hlt : 16 ≤ c
    · have hd1 : decide ((16 : Int) ≤ (c : Int)) = true := decide_eq_true (by omega)
      have hand := and15n c hcm
      have hdg := dig_get (c % 16) (Nat.mod_lt _ (by decide))
      unfold DIG at hdg
      obtain ⟨hfz, ⟨v, hcell⟩, hnext⟩ := hexI_step hm (hexC (c % 16))
      have HN := Lib.hid (And.intro hnext (And.intro hxl (And.intro hsl (And.intro hc (And.intro hn hdg)))))
      clear hnext hxl hsl hc hm hcm hdg
      go_wp2_with fail
      obtain ⟨hnext, hxl, hsl, hc, hn, hdg⟩ := HN.out
      have hpw : c < 16 * 16 ^ (16 - (suf.length + 1)) := by
        rcases Nat.lt_or_ge suf.length 16 with h | h
        · have h16 : 16 ^ (16 - suf.length) = 16 * 16 ^ (16 - (suf.length + 1)) := by
            rw [← Nat.pow_succ', show (16 - (suf.length + 1)).succ = 16 - suf.length by omega]
          omega
        · omega
      refine ⟨⟨c / 16, m, hexC (c % 16) :: suf, by rw [show (c : Int) / 16 = ((c / 16 : Nat) : Int) by omega], rfl, ?_, ?_, ?_, ?_⟩, by simp only [intOf]; omega⟩
      · rw [hdg]; exact hnext
      · rw [hxl, hexL, dif_neg (by omega)]; simp
      · rcases Nat.lt_or_ge suf.length 15 with h | h
        · simp; omega
        · exfalso
          have : suf.length = 15 := by omega
          rw [this] at hc
          omega
      · simp only [List.length_cons]; omega
    · have hd1 : decide ((16 : Int) ≤ (c : Int)) = false := decide_eq_false (by omega)
      have hdg := dig_get c (by omega)
      unfold DIG at hdg
      obtain ⟨hfz, ⟨v, hcell⟩, hnext⟩ := hexI_step hm (hexC c)
      have hc36 : c < 36 := by omega
      have hk := hnext
      obtain ⟨arr, hr, hsz, hdr, hln, hkp⟩ := hk
      have HK := Lib.hid hkp
      have HN := Lib.hid (And.intro hr (And.intro hdr (And.intro hsz (And.intro (show hexL x = hexC c :: suf by rw [hxl, hexL, dif_pos (by omega)]; rfl) (And.intro hn hdg)))))
      clear hnext hxl hsl hc hm hcm hdg hr hsz hdr hln hkp
      go_upto_region 30 with (fail)
      rw [HN.out.2.2.2.2.2]
      have HAT := Lib.hid (show At (wr.setCell ⟨g, m, none⟩ (.int .u8 ((hexC c).toNat : Int))) (some ⟨g, m, none⟩) (bytesV (hexC c :: suf)) from .inr ⟨g, m, rfl, fun j v hj => by
        rw [← HN.out.2.1, List.getElem?_drop] at hj
        rw [cell_of_row _ g (m + j) _ _ (0, 0) HN.out.1]
        simpa using hj⟩)
      have HL := Lib.hid HN.out.2.2.2.1
      have HLn := Lib.hid (show 65 - m = (hexC c :: suf).length by simp; have := HN.out.2.2.2.2.1; omega)
      go_wp2_with (first | (refine slice65_arm rfl _ _ rfl g m hm64 rfl rfl ?_) | (refine conv_str rfl _ rfl (some ⟨g, m, none⟩) (65 - m) (65 - m) rfl (hexC c :: suf) HAT.out HLn.out ?_))
      go_ret2
      refine ⟨by rw [HL.out]; rfl, ?_⟩
      rw [H.out.2.2.2.2]
      exact H.out.1.trans ((HK.out.below (fun i hi h => by omega) (by have := H.out.1.size; rw [H.out.2.2.2.2] at this; omega)))
theorem ifu_any (x : Nat) (hx : x < 18446744073709551616) (w : World) (hd : DTab w) :
    Calls Tryz.prog 38 #[.int .u64 (x : Int), .int .i64 16] w (fun e w' => e = .returned (.string ⟨(hexL x).toArray⟩) ∧ Below w.heap.size w w') := by
  have HC := Lib.hid (fbits_any x hx w hd)
  clear hx hd
  go_enter Tryz.func38, Tryz.ntmps38
  go_wp2_with fail
  refine HC.out.mono ?_
  rintro e w1 ⟨rfl, hb⟩
  have HB := Lib.hid hb
  clear hb
  go_wp2_with fail
  go_ret
  exact ⟨rfl, HB.out⟩
theorem fu_any (x : Nat) (hx : x < 18446744073709551616) (w : World) (hd : DTab w) :
    Calls Tryz.prog 22 #[.int .u64 (x : Int), .int .i64 16] w (fun e w' => e = .returned (.string ⟨(hexL x).toArray⟩) ∧ Below w.heap.size w w') := by
  have HC := Lib.hid (ifu_any x hx w hd)
  clear hx hd
  go_enter Tryz.func22, Tryz.ntmps22
  go_wp2_with fail
  refine HC.out.mono ?_
  rintro e w1 ⟨rfl, hb⟩
  have HB := Lib.hid hb
  clear hb
  go_wp2_with fail
  go_ret
  exact ⟨rfl, HB.out⟩
/-- Sixteen digits. -/
def bitsL (x : Nat) : List UInt8 := Lib.repeatL [48] (16 - (hexL x).length) ++ hexL x
theorem rep_call (c : Nat) (hc : c ≤ 16) (w : World) : Calls Tryz.prog 23 #[.string ⟨#[48]⟩, .int .i64 (c : Int)] w (fun e w' => e = .returned (.string ⟨(Lib.repeatL [48] c).toArray⟩) ∧ Below w.heap.size w w') :=
  Tryz.strings_Repeat ⟨#[48]⟩ c w (by omega) (by show 1 * c ≤ _; omega)
set_option maxRecDepth 100000 in
theorem bits_any (x : Nat) (hx : x < 18446744073709551616) (w : World) (hd : DTab w) :
    Calls Tryz.prog 8 #[.int .u64 (x : Int)] w (fun e w' => e = .returned (.string ⟨(bitsL x).toArray⟩) ∧ Below w.heap.size w w') := by
  have HC := Lib.hid (fu_any x hx w hd)
  have hl := hexL_len 15 x hx
  have HB := Lib.hid (show bitsL x = Lib.repeatL [48] (16 - (hexL x).length) ++ hexL x from rfl)
  have HR := Lib.hid (rep_call (16 - (hexL x).length) (by omega))
  have hsub : (16 : Int) - ((hexL x).length : Int) = ((16 - (hexL x).length : Nat) : Int) := by omega
  have hw : wrap64 ((16 : Int) - ((hexL x).length : Int)) = ((16 - (hexL x).length : Nat) : Int) := by unfold wrap64; omega
  clear hx hd
  go_enter Tryz.func8, Tryz.ntmps8
  go_wp2_with fail
  refine HC.out.mono ?_
  rintro e w1 ⟨rfl, hb⟩
  have HB1 := Lib.hid hb
  clear hb
  go_wp2_with fail
  refine (HR.out w1).mono ?_
  rintro e w2 ⟨rfl, hb⟩
  have HB2 := Lib.hid (HB1.out.trans (hb.mono HB1.out.size))
  clear hb
  go_wp2_with fail
  · exfalso
    rename_i h
    have hrl := Lib.repeatL_length [48] (16 - (hexL x).length)
    simp [ByteArray.size, hrl] at h
    omega
  go_ret
  refine ⟨?_, HB2.out⟩
  show Ending.returned (.string (⟨(Lib.repeatL [48] (16 - (hexL x).length)).toArray⟩ ++ ⟨(hexL x).toArray⟩)) = _
  rw [HB.out]
  congr 2
theorem bitsL_len (x : Nat) (hx : x < 18446744073709551616) : (bitsL x).length = 16 := by
  have hl := hexL_len 15 x hx
  have hrl := Lib.repeatL_length [48] (16 - (hexL x).length)
  rw [bitsL, List.length_append, hrl]
  simp
  omega
theorem ofM_in (x : Nat) (hx : x < 18446744073709551616) : ∃ n : Nat, ofM x = (n : Int) ∧ n < 18446744073709551616 := by
  unfold ofM
  split
  · exact ⟨9221120237041090560, rfl, by decide⟩
  · exact ⟨x, rfl, hx⟩
end Go.Proofs.YtkgdcbpiicckkaaGreatDoor
