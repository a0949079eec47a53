/- The walks of layer 1 for ScriptorNumbers: Wrap, Text, the reading of digits. -/
import Derived.Test.YtkgdcbpiicckkaaGreatDoorNumP
import Derived.Test.YtkgdcbpiicckkaaGreatDoorShelf
import Derived.Test.YtkgdcbpiicckkaaGreatDoorConvB
import Derived.Test.YtkgdcbpiicckkaaGreatDoorOps2
import Derived.Lib.AppendIntMem
namespace Go.Proofs.YtkgdcbpiicckkaaGreatDoor
set_option linter.unusedSimpArgs false
set_option linter.unusedVariables false
open Go.RowKit

/-- A whole number as an integer of 63 bits. -/
def wrapP (n : Int) : Int := wrap64 (n * 2) / 2
theorem wrapP_in (n : Int) : -4611686018427387904 ≤ wrapP n ∧ wrapP n ≤ 4611686018427387903 := by
  unfold wrapP wrap64
  omega
theorem wrap_any (n : Int) (w : World) : Calls Tryz.prog 15 #[.int .i64 n] w (fun e w' => e = .returned (.int .i64 (wrapP n)) ∧ w = w') := by
  go_enter Tryz.func15, Tryz.ntmps15
  go_wp2_with fail
  go_ret
  exact ⟨rfl, rfl⟩
theorem stands_any (w : World) : Calls Tryz.prog 10 #[] w (fun e w' => e = .returned (.bool true) ∧ w = w') := by
  go_enter Tryz.func10, Tryz.ntmps10
  go_wp2
  go_ret
  exact ⟨congrArg (fun b => Ending.returned (.bool b)) (by unfold wrap64; rfl : (wrap64 9223372036854775808 / 2 == -4611686018427387904) = true), rfl⟩
theorem parse_step {M acc u : Nat} {l : List UInt8} {k : Nat} (hk : k < l.length) (h : Lib.parseUintM M acc (l.drop k) = .ok u) :
    48 ≤ l[k].toNat ∧ l[k].toNat ≤ 57 ∧ acc < 1844674407370955162 ∧ acc * 10 + (l[k].toNat - 48) ≤ M ∧ Lib.parseUintM M (acc * 10 + (l[k].toNat - 48)) (l.drop (k + 1)) = .ok u := by
  rw [List.drop_eq_getElem_cons hk, Lib.parseUintM] at h
  split at h
  · rename_i h1
    split at h
    · cases h
    · split at h
      · cases h
      · exact ⟨h1.1, h1.2, by omega, by omega, h⟩
  · cases h
set_option maxRecDepth 100000 in
set_option maxHeartbeats 4000000 in
theorem puint_any (l : List UInt8) (u : Nat) (hne : l ≠ []) (h : Lib.parseUintM 9223372036854775807 0 l = .ok u) (hlen : l.length ≤ 1000) (w : World) :
    Calls Tryz.prog 69 #[.string ⟨l.toArray⟩, .int .i64 10, .int .i64 63] w (fun e w' => e = .returned (.tuple #[.int .u64 (u : Int), .nilIface]) ∧ Below w.heap.size w w') := by
  have HU := Lib.hid h
  have hie : l.isEmpty = false := by cases l with | nil => exact absurd rfl hne | cons _ _ => rfl
  clear h hne
  go_enter Tryz.func69, Tryz.ntmps69
  go_wp2_with (refine conv_bytes rfl _ rfl l _ rfl rfl ?_; rintro w1 cap hat hb hsz hcap)
  have HAT := Lib.hid (show ∀ k (hk : k < l.length), w1.cell? ⟨w.heap.size, k, none⟩ = some (.int .u8 ((l[k]).toNat : Int)) by
    intro k hk
    rcases hat with e | ⟨b, o, he, hc⟩
    · have := congrArg List.length e; rw [bytesV_length, List.length_nil] at this; omega
    · cases he
      have := hc k _ (bytesV_get l k hk)
      rwa [Nat.zero_add] at this)
  have HB := Lib.hid hb
  clear hat hb hsz hie
  go_loop [12, 13, 101] (fun z n i => ∃ k acc : Nat, k ≤ l.length ∧ z = .bool false ∧ i = .int .i64 (k : Int) ∧ n = .int .u64 (acc : Int) ∧ Lib.parseUintM 9223372036854775807 acc (l.drop k) = .ok u) (fun _ _ i => l.length - (intOf i).toNat)
  case atStart => exact ⟨0, 0, Nat.zero_le _, rfl, rfl, rfl, HU.out⟩
  case round =>
    obtain ⟨k, acc, hk, rfl, rfl, rfl, hp⟩ := hrel
    by_cases hlt : k < l.length
    · have hd1 : decide ((k : Int) < (l.length : Int)) = true := decide_eq_true (by omega)
      have hcell := HAT.out k hlt
      obtain ⟨p1, p2, p3, p4, p5⟩ := parse_step hlt hp
      obtain ⟨x, hx⟩ : ∃ x : Nat, (l[k]).toNat = x := ⟨_, rfl⟩
      rw [hx] at hcell p1 p2 p4 p5
      have HP := Lib.hid (And.intro p5 (show ((acc * 10 + (x - 48) : Nat) : Int) = (acc : Int) * 10 + ((x : Int) - 48) by omega))
      have e1 : ((x : Int) == 95) = false := by simp; omega
      have e2 : decide ((48 : Int) ≤ (x : Int)) = true := decide_eq_true (by omega)
      have e3 : decide ((x : Int) ≤ 57) = true := decide_eq_true (by omega)
      have e4 : IntKind.u8.wrap ((x : Int) - 48) = (x : Int) - 48 := by rw [IntKind.wrap_u8]; omega
      have e5 : decide ((10 : Int) ≤ (x : Int) - 48) = false := decide_eq_false (by omega)
      have e6 : decide ((1844674407370955162 : Int) ≤ (acc : Int)) = false := decide_eq_false (by omega)
      have e7 : IntKind.u64.wrap ((acc : Int) * 10) = (acc : Int) * 10 := by rw [IntKind.wrap_u64]; omega
      have e8 : IntKind.u64.wrap ((x : Int) - 48) = (x : Int) - 48 := by rw [IntKind.wrap_u64]; omega
      have e9 : IntKind.u64.wrap ((acc : Int) * 10 + ((x : Int) - 48)) = (acc : Int) * 10 + ((x : Int) - 48) := by rw [IntKind.wrap_u64]; omega
      have f1 : decide ((acc : Int) * 10 + ((x : Int) - 48) < (acc : Int) * 10) = false := decide_eq_false (by omega)
      have f2 : decide ((9223372036854775807 : Int) < (acc : Int) * 10 + ((x : Int) - 48)) = false := decide_eq_false (by omega)
      clear p1 p2 p3 p4 p5 hp hx
      go_wp2
      go_round
      case rel => exact ⟨k + 1, acc * 10 + (x - 48), by omega, rfl, by simp, by rw [HP.out.2], HP.out.1⟩
      case measure => simp [intOf]; omega
    · have hd1 : decide ((k : Int) < (l.length : Int)) = false := decide_eq_false (by omega)
      have he : acc = u := by
        rw [List.drop_eq_nil_of_le (by omega), Lib.parseUintM] at hp
        exact Lib.NumEnd.ok.inj hp
      subst he
      clear hp
      go_wp2
      go_ret2
      exact ⟨rfl, HB.out⟩
/-- The digits of a number of 63 bits, read. -/
theorem dec_max (u : Nat) (hu : u ≤ 4611686018427387904) : Lib.parseUintM 9223372036854775807 0 (Lib.decDigits u) = .ok u := parse_dec 9223372036854775807 (by decide) u (by omega)
theorem dec_len (u : Nat) (hu : u ≤ 4611686018427387904) : (Lib.decDigits u).length ≤ 19 := by
  rw [Lib.decDigits_length]
  have := nDigits_le 18 u (by omega)
  omega
theorem text_tail (c : UInt8) (d : List UInt8) : (ByteArray.mk (c :: d).toArray).extract 1 (d.length + 1) = ⟨d.toArray⟩ := by
  apply ByteArray.ext
  simp
theorem pint_any (z : Int) (h0 : -4611686018427387904 ≤ z) (h1 : z ≤ 4611686018427387903) (w : World) :
    Calls Tryz.prog 49 #[.string ⟨(Lib.itoa z).toArray⟩, .int .i64 10, .int .i64 63] w (fun e w' => e = .returned (.tuple #[.int .i64 z, .nilIface]) ∧ Below w.heap.size w w') := by
  by_cases hz : z < 0
  · obtain ⟨n, rfl⟩ : ∃ n : Nat, z = -(n : Int) := ⟨z.natAbs, by omega⟩
    obtain ⟨d, hd⟩ : ∃ d, Lib.decDigits n = d := ⟨_, rfl⟩
    have hit : Lib.itoa (-(n : Int)) = 45 :: d := by unfold Lib.itoa; rw [if_pos hz, ← hd, Int.natAbs_neg, Int.natAbs_natCast]
    have HC := Lib.hid (puint_any d n (by rw [← hd]; exact dec_ne _) (by rw [← hd]; exact dec_max _ (by omega)) (by rw [← hd]; have := dec_len n (by omega); omega) w)
    have hx := text_tail 45 d
    have g1 : decide ((4611686018427387904 : Int) < (n : Int)) = false := decide_eq_false (by omega)
    have g2 : wrap64 (n : Int) = (n : Int) := by unfold wrap64; omega
    have g3 : wrap64 (-(n : Int)) = -(n : Int) := by unfold wrap64; omega
    rw [hit]
    clear hit hd h0 h1 hz
    go_enter Tryz.func49, Tryz.ntmps49
    go_wp2_with fail
    try rw [hx]
    refine HC.out.mono ?_
    rintro e w1 ⟨rfl, hb⟩
    have HB := Lib.hid hb
    clear hb
    go_wp2_with fail
    go_ret2
    refine ⟨?_, HB.out⟩
    show Ending.returned (.tuple #[.int .i64 (wrap64 (-(n : Int))), .nilIface]) = _
    rw [g3]
  · obtain ⟨n, rfl⟩ : ∃ n : Nat, z = (n : Int) := ⟨z.toNat, by omega⟩
    obtain ⟨d, hd⟩ : ∃ d, Lib.decDigits n = d := ⟨_, rfl⟩
    have hit : Lib.itoa (n : Int) = d := by unfold Lib.itoa; rw [if_neg hz, ← hd, Int.toNat_natCast]
    have HC := Lib.hid (puint_any d n (by rw [← hd]; exact dec_ne _) (by rw [← hd]; exact dec_max _ (by omega)) (by rw [← hd]; have := dec_len n (by omega); omega) w)
    obtain ⟨c, r, hcr⟩ : ∃ c r, d = c :: r := by
      cases d with
      | nil => exact absurd hd (dec_ne _)
      | cons c r => exact ⟨c, r, rfl⟩
    have hcd := dec_digit n c (by rw [hd, hcr]; simp)
    have g1 : decide ((4611686018427387904 : Int) ≤ (n : Int)) = false := decide_eq_false (by omega)
    have g2 : wrap64 (n : Int) = (n : Int) := by unfold wrap64; omega
    rw [hit]
    subst hcr
    have hp : 0 < (ByteArray.mk (c :: r).toArray).size := by simp [ByteArray.size]
    have q1 : ((((ByteArray.mk (c :: r).toArray)[0]'hp).toNat : Int) == 43) = false := by
      have : ((ByteArray.mk (c :: r).toArray)[0]'hp) = c := rfl
      rw [this]; simp; omega
    have q2 : ((((ByteArray.mk (c :: r).toArray)[0]'hp).toNat : Int) == 45) = false := by
      have : ((ByteArray.mk (c :: r).toArray)[0]'hp) = c := rfl
      rw [this]; simp; omega
    clear hit hd h0 h1 hz hcd
    go_enter Tryz.func49, Tryz.ntmps49
    go_wp2_with fail
    refine HC.out.mono ?_
    rintro e w1 ⟨rfl, hb⟩
    have HB := Lib.hid hb
    clear hb
    go_wp2_with fail
    go_ret2
    refine ⟨?_, HB.out⟩
    show Ending.returned (.tuple #[.int .i64 (wrap64 (n : Int)), .nilIface]) = _
    rw [g2]
theorem spint_any (z : Int) (h0 : -4611686018427387904 ≤ z) (h1 : z ≤ 4611686018427387903) (w : World) :
    Calls Tryz.prog 33 #[.string ⟨(Lib.itoa z).toArray⟩, .int .i64 10, .int .i64 63] w (fun e w' => e = .returned (.tuple #[.int .i64 z, .nilIface]) ∧ Below w.heap.size w w') := by
  have HC := Lib.hid (pint_any z h0 h1 w)
  generalize Lib.itoa z = l at HC
  clear h0 h1
  go_enter Tryz.func33, Tryz.ntmps33
  go_wp2_with fail
  refine HC.out.mono ?_
  rintro e w1 ⟨rfl, hb⟩
  have HB := Lib.hid hb
  clear hb
  go_wp2_with fail
  go_ret2
  exact ⟨rfl, HB.out⟩
theorem trim_call (d : List UInt8) (hd : ∀ b ∈ d, 48 ≤ b.toNat ∧ b.toNat ≤ 57) (hl : d.length ≤ 1000) (w : World) :
    Calls Tryz.prog 47 #[.string ⟨d.toArray⟩, .string ⟨#[48, 49, 50, 51, 52, 53, 54, 55, 56, 57]⟩] w (fun e w' => e = .returned (.string ⟨#[]⟩) ∧ Below w.heap.size w w') := by
  have h := Go.Proofs.Any.strings_Trim_laid Tryz.lays160 (by kernel_rfl) ⟨d.toArray⟩ ⟨#[48, 49, 50, 51, 52, 53, 54, 55, 56, 57]⟩ w (by simp [ByteArray.size]; omega) (by decide) (Go.Proofs.ascii_of_all (by decide))
  refine Calls.mono h ?_
  rintro e w1 ⟨rfl, hb⟩
  refine ⟨?_, hb⟩
  rw [show Lib.trimS (⟨d.toArray⟩ : ByteArray).data.toList (⟨#[48, 49, 50, 51, 52, 53, 54, 55, 56, 57]⟩ : ByteArray).data.toList = [] from trim_dec d hd]
theorem digits_any (d : List UInt8) (hne : d ≠ []) (hd : ∀ b ∈ d, 48 ≤ b.toNat ∧ b.toNat ≤ 57) (hl : d.length ≤ 1000) (w : World) :
    Calls Tryz.prog 31 #[.string ⟨d.toArray⟩] w (fun e w' => e = .returned (.bool true) ∧ Below w.heap.size w w') := by
  have HC := Lib.hid (trim_call d hd hl w)
  have hie : d.isEmpty = false := by cases d with | nil => exact absurd rfl hne | cons _ _ => rfl
  clear hne hd hl
  go_enter Tryz.func31, Tryz.ntmps31
  go_wp2_with fail
  refine HC.out.mono ?_
  rintro e w1 ⟨rfl, hb⟩
  have HB := Lib.hid hb
  clear hb
  go_wp2_with fail
  go_ret
  exact ⟨rfl, HB.out⟩
theorem trim_sign (z : Int) : Lib.trimPrefix (Lib.itoa z) [45] = Lib.decDigits z.natAbs := by
  unfold Lib.itoa
  by_cases hz : z < 0
  · rw [if_pos hz]
    rfl
  · rw [if_neg hz]
    obtain ⟨c, r, hc⟩ : ∃ c r, Lib.decDigits z.toNat = c :: r := by
      cases h : Lib.decDigits z.toNat with
      | nil => exact absurd h (dec_ne _)
      | cons c r => exact ⟨c, r, rfl⟩
    have hcd := dec_digit z.toNat c (by rw [hc]; simp)
    have hc45 : (45 == c) = false := by
      rw [beq_eq_false_iff_ne]
      rintro rfl
      exact absurd hcd.1 (by decide)
    rw [show z.natAbs = z.toNat by omega, hc]
    unfold Lib.trimPrefix Lib.hasPrefix
    simp [List.isPrefixOf, hc45]
theorem tp_call (z : Int) (w : World) : Calls Tryz.prog 32 #[.string ⟨(Lib.itoa z).toArray⟩, .string ⟨#[45]⟩] w (fun e w' => e = .returned (.string ⟨(Lib.decDigits z.natAbs).toArray⟩) ∧ w' = w) := by
  refine Calls.mono (Tryz.strings_TrimPrefix ⟨(Lib.itoa z).toArray⟩ ⟨#[45]⟩ w) ?_
  rintro e w1 ⟨rfl, hw⟩
  exact ⟨by rw [show Lib.trimPrefix (⟨(Lib.itoa z).toArray⟩ : ByteArray).data.toList (⟨#[45]⟩ : ByteArray).data.toList = _ from trim_sign z], hw⟩
theorem read_any (z : Int) (h0 : -4611686018427387904 ≤ z) (h1 : z ≤ 4611686018427387903) (w : World) :
    Calls Tryz.prog 13 #[.string ⟨(Lib.itoa z).toArray⟩] w (fun e w' => e = .returned (.tuple #[.int .i64 z, .int .i64 0]) ∧ Below w.heap.size w w') := by
  have HT := Lib.hid (tp_call z w)
  have HD := Lib.hid (digits_any (Lib.decDigits z.natAbs) (dec_ne _) (dec_digit _) (by have := dec_len z.natAbs (by omega); omega) w)
  have HC := Lib.hid (spint_any z h0 h1)
  generalize Lib.itoa z = l at HC HT
  generalize Lib.decDigits z.natAbs = d at HT HD
  clear h0 h1
  go_enter Tryz.func13, Tryz.ntmps13
  go_wp2_with fail
  refine HT.out.mono ?_
  rintro e w1 ⟨rfl, rfl⟩
  go_wp2_with fail
  refine HD.out.mono ?_
  rintro e w2 ⟨rfl, hb2⟩
  have HB2 := Lib.hid hb2
  clear hb2
  go_wp2_with fail
  refine (HC.out w2).mono ?_
  rintro e w3 ⟨rfl, hb3⟩
  have HB3 := Lib.hid (HB2.out.trans (hb3.mono HB2.out.size))
  clear hb3
  go_wp2_with fail
  go_ret2
  exact ⟨rfl, HB3.out⟩
/-- The table of powers of ten. -/
def PTab (w : World) : Prop := Lib.TabIs Tryz.prog w "internal/strconv.uint64pow10" .u64 Lib.pow10Tab
theorem text_any (n : Int) (w : World) (hp : PTab w) : Calls Tryz.prog 5 #[.int .i64 n] w (fun e w' => e = .returned (.string ⟨(Lib.itoa (wrapP n)).toArray⟩) ∧ Below w.heap.size w w') := by
  have hwi := wrapP_in n
  have HC := Lib.hid (Tryz.strconv_Itoa (wrapP n) (by omega) (by omega) w hp)
  clear hwi hp
  go_enter Tryz.func5, Tryz.ntmps5
  go_wp2_with fail
  refine (wrap_any n w).mono ?_
  rintro e w1 ⟨rfl, rfl⟩
  go_wp2_with fail
  refine HC.out.mono ?_
  rintro e w2 ⟨rfl, k, os, rfl⟩
  have HB := Lib.hid (Lib.below_grow w.heap.size w (Nat.le_refl _) k os)
  go_wp2_with fail
  go_ret
  exact ⟨rfl, HB.out⟩
end Go.Proofs.YtkgdcbpiicckkaaGreatDoor
