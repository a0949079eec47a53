/- The walks of crc.Close and crc.Open, and the document's. -/
import Derived.Test.YtmnaomdnjaiggaaDoorSl
import Derived.Test.YtmnaomdnjaiggaaDoorCrcR
namespace Go.Proofs.YtmnaomdnjaiggaaDoor
open Go.RowKit

theorem u8i (k : Nat) (h : k < 256) : Value.int .u8 (k : Int) = u8v (UInt8.ofNat k) := by
  simp [u8v, UInt8.toNat_ofNat', Nat.mod_eq_of_lt h]

theorem four_cells (n : Nat) (hn : n < 4294967296) : (#[.int .u8 ((n : Int) % 256), .int .u8 ((n : Int) / 256 % 256), .int .u8 ((n : Int) / 65536 % 256), .int .u8 ((n : Int) / 16777216)] : Array Value).toList = bytesV (four n) := by
  rw [show (n : Int) % 256 = ((n % 256 : Nat) : Int) by omega, show (n : Int) / 256 % 256 = ((n / 256 % 256 : Nat) : Int) by omega,
    show (n : Int) / 65536 % 256 = ((n / 65536 % 256 : Nat) : Int) by omega, show (n : Int) / 16777216 = ((n / 16777216 % 256 : Nat) : Int) by omega,
    u8i _ (by omega), u8i _ (by omega), u8i _ (by omega), u8i _ (by omega)]
  rfl
theorem four_len (n : Nat) : (four n).length = 4 := rfl

set_option maxHeartbeats 400000 in
theorem tail_any (n : Nat) (hn : n < 4294967296) (w : World) :
    Calls Tryd.prog 18 #[.int .u32 (n : Int)] w (NewBytes w (four n)) := by
  go_enter Tryd.func18, Tryd.ntmps18
  go_wp2_with fail
  go_ret
  refine ⟨_, 4, rfl, ?_, (Below.refl _ w).alloc (Nat.le_refl _) _⟩
  rw [← four_cells n hn]
  exact World.ownsRow_lit w _ 4 (Nat.le_refl _) (by decide) rfl

set_option maxHeartbeats 400000 in
theorem four_any (n : Nat) (hn : n < 4294967296) (w : World) :
    Calls Tryd.prog 16 #[.int .u32 (n : Int)] w (Says w (.string ⟨(four n).toArray⟩)) := by
  go_enter Tryd.func16, Tryd.ntmps16
  go_wp2_with (refine conv_str rfl _ rfl _ _ 4 rfl (four n) ?_ rfl ?_)
  · rw [← four_cells n hn]
    exact At.new w _ _
  · go_wp2_with fail
    go_ret
    exact ⟨rfl, (Below.refl _ w).alloc (Nat.le_refl _) _⟩

set_option maxRecDepth 100000 in
set_option maxHeartbeats 400000 in
theorem close_any (ao : Option Addr) (l : List UInt8) (n cap : Nat) (hn : n = l.length) (hl : n ≤ 1000000000) (w : World) (hat : At w ao (bytesV l)) (ht : Tab w) :
    Calls Tryd.prog 13 #[.slice ao n cap] w (NewBytes w (l ++ four (crc l))) := by
  subst hn
  have HA := Lib.hid hat
  have HT := Lib.hid ht
  clear hat ht
  go_enter Tryd.func13, Tryd.ntmps13
  go_wp2_with fail
  refine (sum_one ao _ cap l rfl (by omega) w _ rfl HA.out HT.out).mono ?_
  rintro e w1 ⟨rfl, rfl⟩
  go_wp2_with fail
  refine (tail_any _ (crc_lt l) _).mono ?_
  rintro e w2 ⟨bo, capb, rfl, hown, hbel⟩
  have hb1 : Below w.heap.size w w2 := ((Below.refl _ w).alloc (Nat.le_refl _) _).trans (hbel.mono (by simp))
  have H2 := Lib.hid (And.intro (At.own hown) hb1)
  clear hown hbel hb1
  go_wp2_with fail
  refine (concat_any _ 2 2 [l, four (crc l)] rfl (by omega) (by simp [four_len]; omega) _ (parts_new rfl ?_)).mono ?_
  · exact ⟨⟨by omega, ao, _, cap, rfl, rfl, HA.out.below H2.out.2⟩, ⟨by rw [four_len]; decide, bo, 4, capb, rfl, rfl, H2.out.1⟩, trivial⟩
  · rintro e w3 ⟨co, capc, rfl, hown, hbel⟩
    go_wp2_with fail
    go_ret
    have hsz := H2.out.2.size
    rw [show [l, four (crc l)].flatten = l ++ four (crc l) by simp] at hown
    exact ⟨co, capc, by simp, owns_mono hown (by simp; omega), (H2.out.2.alloc hsz _).trans (hbel.mono (by simp; omega))⟩

/-- What opening answers. -/
def opens (l : List UInt8) : Option (List UInt8) := if 4 ≤ l.length ∧ four (crc (l.take (l.length - 4))) = l.drop (l.length - 4) then some (l.take (l.length - 4)) else none
/-- A call that answers so, and of all that was there nothing has turned. -/
def Opened (w : World) (o : Option (List UInt8)) (e : Ending) (w' : World) : Prop :=
  Below w.heap.size w w' ∧ match o with
    | none => e = .returned (.tuple #[.slice none 0 0, .bool false])
    | some x => ∃ ao cap, e = .returned (.tuple #[.slice ao x.length cap, .bool true]) ∧ w'.ownsRow w.heap.size 5 1 (.slice ao x.length cap) x.length (bytesV x)

set_option maxRecDepth 100000 in
set_option maxHeartbeats 1000000 in
theorem copen_any (ao : Option Addr) (l : List UInt8) (n cap : Nat) (hn : n = l.length) (hl : n ≤ 1000000000) (hc : n ≤ cap) (w : World) (hat : At w ao (bytesV l)) (ht : Tab w) :
    Calls Tryd.prog 14 #[.slice ao n cap] w (Opened w (opens l)) := by
  by_cases h4 : n < 4
  · have ho : opens l = none := by rw [opens, if_neg (by omega)]
    rw [ho]
    clear hn ho
    go_enter Tryd.func14, Tryd.ntmps14
    have h4' : decide ((n : Int) - 4 < 0) = true := by simp; omega
    go_wp2_with fail
    refine seq_start (by kernel_rfl) ?_
    refine seq_take 0 (v := ?v0_1) rfl (by kernel_rfl) (fun _ _ _ h => h) (by rfl) (fun w' hw' => ?hy0_1) ?_
    case hy0_1 => go_simp; try with_reducible rfl
    try simp only [List.getElem_toArray, List.getElem_cons_succ, List.getElem_cons_zero, Act.put, List.setIfInBounds_toArray, List.set_cons_zero, List.set_cons_succ]
    refine seq_take 1 (v := ?v1_2) rfl (by kernel_rfl) (fun _ _ _ h => h) (by rfl) (fun w' hw' => ?hy1_2) ?_
    case hy1_2 => go_simp; try with_reducible rfl
    try simp only [List.getElem_toArray, List.getElem_cons_succ, List.getElem_cons_zero, Act.put, List.setIfInBounds_toArray, List.set_cons_zero, List.set_cons_succ]
    refine seq_take 2 (v := ?v2_3) rfl (by kernel_rfl) (fun _ _ _ h => h) (by rfl) (fun w' hw' => ?hy2_3) ?_
    case hy2_3 => go_simp; try with_reducible rfl
    try simp only [List.getElem_toArray, List.getElem_cons_succ, List.getElem_cons_zero, Act.put, List.setIfInBounds_toArray, List.set_cons_zero, List.set_cons_succ]
    refine seq_skip 3 rfl (by kernel_rfl) (fun _ _ _ h => h) (by rfl) ?_
    try simp only [List.getElem_toArray, List.getElem_cons_succ, List.getElem_cons_zero, Act.put, List.setIfInBounds_toArray, List.set_cons_zero, List.set_cons_succ]
    refine seq_skip 4 rfl (by kernel_rfl) (fun _ _ _ h => h) (by rfl) ?_
    try simp only [List.getElem_toArray, List.getElem_cons_succ, List.getElem_cons_zero, Act.put, List.setIfInBounds_toArray, List.set_cons_zero, List.set_cons_succ]
    refine seq_skip 5 rfl (by kernel_rfl) (fun _ _ _ h => h) (by rfl) ?_
    try simp only [List.getElem_toArray, List.getElem_cons_succ, List.getElem_cons_zero, Act.put, List.setIfInBounds_toArray, List.set_cons_zero, List.set_cons_succ]
    refine seq_skip 6 rfl (by kernel_rfl) (fun _ _ _ h => h) (by rfl) ?_
    try simp only [List.getElem_toArray, List.getElem_cons_succ, List.getElem_cons_zero, Act.put, List.setIfInBounds_toArray, List.set_cons_zero, List.set_cons_succ]
    refine seq_skip 7 rfl (by kernel_rfl) (fun _ _ _ h => h) (by rfl) ?_
    try simp only [List.getElem_toArray, List.getElem_cons_succ, List.getElem_cons_zero, Act.put, List.setIfInBounds_toArray, List.set_cons_zero, List.set_cons_succ]
    refine seq_skip 8 rfl (by kernel_rfl) (fun _ _ _ h => h) (by rfl) ?_
    try simp only [List.getElem_toArray, List.getElem_cons_succ, List.getElem_cons_zero, Act.put, List.setIfInBounds_toArray, List.set_cons_zero, List.set_cons_succ]
    refine seq_skip 9 rfl (by kernel_rfl) (fun _ _ _ h => h) (by rfl) ?_
    try simp only [List.getElem_toArray, List.getElem_cons_succ, List.getElem_cons_zero, Act.put, List.setIfInBounds_toArray, List.set_cons_zero, List.set_cons_succ]
    refine seq_skip 10 rfl (by kernel_rfl) (fun _ _ _ h => h) (by rfl) ?_
    try simp only [List.getElem_toArray, List.getElem_cons_succ, List.getElem_cons_zero, Act.put, List.setIfInBounds_toArray, List.set_cons_zero, List.set_cons_succ]
    refine seq_skip 11 rfl (by kernel_rfl) (fun _ _ _ h => h) (by rfl) ?_
    try simp only [List.getElem_toArray, List.getElem_cons_succ, List.getElem_cons_zero, Act.put, List.setIfInBounds_toArray, List.set_cons_zero, List.set_cons_succ]
    refine seq_skip 12 rfl (by kernel_rfl) (fun _ _ _ h => h) (by rfl) ?_
    try simp only [List.getElem_toArray, List.getElem_cons_succ, List.getElem_cons_zero, Act.put, List.setIfInBounds_toArray, List.set_cons_zero, List.set_cons_succ]
    refine seq_skip 13 rfl (by kernel_rfl) (fun _ _ _ h => h) (by rfl) ?_
    try simp only [List.getElem_toArray, List.getElem_cons_succ, List.getElem_cons_zero, Act.put, List.setIfInBounds_toArray, List.set_cons_zero, List.set_cons_succ]
    refine seq_take 14 (v := ?v14_4) rfl (by kernel_rfl) (fun _ _ _ h => h) (by rfl) (fun w' hw' => ?hy14_4) ?_
    case hy14_4 => go_simp; try with_reducible rfl
    try simp only [List.getElem_toArray, List.getElem_cons_succ, List.getElem_cons_zero, Act.put, List.setIfInBounds_toArray, List.set_cons_zero, List.set_cons_succ]
    refine seq_done (by kernel_rfl) ?_
    go_wp2_with fail
    go_returns
    exact ⟨(Below.refl _ w).drew, rfl⟩
  · obtain ⟨k, rfl⟩ : ∃ k, n = k + 4 := ⟨n - 4, by omega⟩
    have HN := Lib.hid hn
    have HA := Lib.hid hat
    have HT := Lib.hid ht
    have hk : l.length - 4 = k := by omega
    have ho : opens l = if four (crc (l.take k)) = l.drop k then some (l.take k) else none := by
      rw [opens, hk]
      by_cases h : four (crc (l.take k)) = l.drop k
      · rw [if_pos h, if_pos ⟨by omega, h⟩]
      · rw [if_neg h, if_neg fun h2 => h h2.2]
    generalize opens l = O at *
    have htk : (l.take k).length = k := by rw [List.length_take]; omega
    have hdk : (l.drop k).length = 4 := by rw [List.length_drop]; omega
    have hkc : k ≤ cap := by omega
    have HL := Lib.hid (And.intro htk (And.intro hdk ho))
    clear hn hat ht hk ho htk hdk h4
    go_enter Tryd.func14, Tryd.ntmps14
    go_wp2_with fail
    refine seq_start (by kernel_rfl) ?_
    refine seq_take 0 (v := ?v0_5) rfl (by kernel_rfl) (fun _ _ _ h => h) (by rfl) (fun w' hw' => ?hy0_5) ?_
    case hy0_5 => go_simp; try with_reducible rfl
    try simp only [List.getElem_toArray, List.getElem_cons_succ, List.getElem_cons_zero, Act.put, List.setIfInBounds_toArray, List.set_cons_zero, List.set_cons_succ]
    refine seq_take 1 (v := ?v1_6) rfl (by kernel_rfl) (fun _ _ _ h => h) (by rfl) (fun w' hw' => ?hy1_6) ?_
    case hy1_6 => go_simp; try with_reducible rfl
    try simp only [List.getElem_toArray, List.getElem_cons_succ, List.getElem_cons_zero, Act.put, List.setIfInBounds_toArray, List.set_cons_zero, List.set_cons_succ]
    refine seq_take 2 (v := ?v2_7) rfl (by kernel_rfl) (fun _ _ _ h => h) (by rfl) (fun w' hw' => ?hy2_7) ?_
    case hy2_7 => go_simp; try with_reducible rfl
    try simp only [List.getElem_toArray, List.getElem_cons_succ, List.getElem_cons_zero, Act.put, List.setIfInBounds_toArray, List.set_cons_zero, List.set_cons_succ]
    refine seq_take 3 (v := ?v3_8) rfl (by kernel_rfl) (fun _ _ _ h => h) (by rfl) (fun w' hw' => ?hy3_8) ?_
    case hy3_8 => go_simp; try with_reducible rfl
    try simp only [List.getElem_toArray, List.getElem_cons_succ, List.getElem_cons_zero, Act.put, List.setIfInBounds_toArray, List.set_cons_zero, List.set_cons_succ]
    refine seq_take 4 (v := ?v4_9) rfl (by kernel_rfl) (fun _ _ _ h => h) (by rfl) (fun w' hw' => ?hy4_9) ?_
    case hy4_9 => go_simp; try with_reducible rfl
    try simp only [List.getElem_toArray, List.getElem_cons_succ, List.getElem_cons_zero, Act.put, List.setIfInBounds_toArray, List.set_cons_zero, List.set_cons_succ]
    refine seq_take 5 rfl (by kernel_rfl) (fun _ _ _ h => h) (by rfl) (seq_hi rfl rfl rfl (hkc)) ?_
    try simp only [List.getElem_toArray, List.getElem_cons_succ, List.getElem_cons_zero, Act.put, List.setIfInBounds_toArray, List.set_cons_zero, List.set_cons_succ]
    refine seq_take 9 (v := ?v9_10) rfl (by kernel_rfl) (fun _ _ _ h => h) (by rfl) (fun w' hw' => ?hy9_10) ?_
    case hy9_10 => go_simp; try with_reducible rfl
    try simp only [List.getElem_toArray, List.getElem_cons_succ, List.getElem_cons_zero, Act.put, List.setIfInBounds_toArray, List.set_cons_zero, List.set_cons_succ]
    refine seq_take 10 (v := ?v10_11) rfl (by kernel_rfl) (fun _ _ _ h => h) (by rfl) (fun w' hw' => ?hy10_11) ?_
    case hy10_11 => go_simp; try with_reducible rfl
    try simp only [List.getElem_toArray, List.getElem_cons_succ, List.getElem_cons_zero, Act.put, List.setIfInBounds_toArray, List.set_cons_zero, List.set_cons_succ]
    refine seq_take 11 rfl (by kernel_rfl) (fun _ _ _ h => h) (by rfl) (seq_lo rfl rfl rfl ((Nat.le_add_right k 4))) ?_
    try simp only [List.getElem_toArray, List.getElem_cons_succ, List.getElem_cons_zero, Act.put, List.setIfInBounds_toArray, List.set_cons_zero, List.set_cons_succ]
    refine seq_run 6 rfl (by kernel_rfl) (by rfl) (fun KK hKK => ?_)
    go_wp2_with fail
    refine ⟨(Below.refl _ _).alloc (Nat.le_refl _) _, ?_⟩
    refine seq_run 7 rfl (by kernel_rfl) (by rfl) (fun KK hKK => ?_)
    go_wp2_with fail
    refine (sum_one ao k cap (l.take k) HL.out.1.symm (by omega) w.drew _ (by simp) (HA.out.takeB k) HT.out).mono ?_
    rintro e w' ⟨rfl, rfl⟩
    go_wp2_with fail
    refine ⟨Below.refl _ _, ?_⟩
    refine seq_run 8 rfl (by kernel_rfl) (by rfl) (fun KK hKK => ?_)
    go_wp2_with fail
    refine (tail_any _ (crc_lt _) _).mono ?_
    rintro e w2 ⟨bo, capb, rfl, hown, hbel⟩
    have hb2 : Below w.heap.size w w2 := (((Below.refl _ w).drew).alloc (Nat.le_refl _) _).trans (hbel.mono (by simp))
    have H2 := Lib.hid (And.intro (At.own hown) hb2)
    have HB := Lib.hid hbel
    clear hown hbel hb2
    go_wp2_with fail
    refine ⟨HB.out, ?_⟩
    refine seq_run 12 rfl (by kernel_rfl) (by rfl) (fun KK hKK => ?_)
    go_wp2_with fail
    refine (equal_any bo _ (four (crc (l.take k))) (l.drop k) _ 4 capb _ rfl HL.out.2.1.symm (by rw [four_len]; decide) (by decide) w2 H2.out.1 ((HA.out.dropB cap k (by have := HN.out; omega)).below H2.out.2)).mono ?_
    rintro e w3 ⟨rfl, hb3⟩
    have hb := H2.out.2.trans (hb3.mono H2.out.2.size)
    have H3 := Lib.hid hb
    have HB3 := Lib.hid hb3
    clear hb hb3
    by_cases heq : four (crc (l.take k)) = l.drop k
    · have heq' : (four (crc (l.take k)) == l.drop k) = true := by simp [heq]
      rw [heq']
      have ho : O = some (l.take k) := by rw [HL.out.2.2, if_pos heq]
      have HO := Lib.hid ho
      clear heq heq' ho
      go_wp2_with fail
      refine ⟨HB3.out, ?_⟩
      refine seq_take 13 (v := ?v13_12) rfl (by kernel_rfl) (fun _ _ _ h => h) (by rfl) (fun w' hw' => ?hy13_12) ?_
      case hy13_12 => go_simp; try with_reducible rfl
      try simp only [List.getElem_toArray, List.getElem_cons_succ, List.getElem_cons_zero, Act.put, List.setIfInBounds_toArray, List.set_cons_zero, List.set_cons_succ]
      refine seq_take 14 (v := ?v14_13) rfl (by kernel_rfl) (fun _ _ _ h => h) (by rfl) (fun w' hw' => ?hy14_13) ?_
      case hy14_13 => go_simp; try with_reducible rfl
      try simp only [List.getElem_toArray, List.getElem_cons_succ, List.getElem_cons_zero, Act.put, List.setIfInBounds_toArray, List.set_cons_zero, List.set_cons_succ]
      refine seq_done (by kernel_rfl) ?_
      go_wp2_with fail
      refine (sclone_any ao (l.take k) k cap HL.out.1.symm (by omega) w3 ((HA.out.takeB k).below H3.out)).mono ?_
      rintro e w4 ⟨co, capc, rfl, hown, hbel⟩
      go_wp2_with fail
      go_returns
      rw [HO.out]
      exact ⟨H3.out.trans (hbel.mono H3.out.size), co, capc, by simp, owns_mono hown H3.out.size⟩
    · have heq' : (four (crc (l.take k)) == l.drop k) = false := by simp [heq]
      rw [heq']
      have ho : O = none := by rw [HL.out.2.2, if_neg heq]
      have HO := Lib.hid ho
      clear heq heq' ho
      go_wp2_with fail
      refine ⟨HB3.out, ?_⟩
      refine seq_take 13 (v := ?v13_14) rfl (by kernel_rfl) (fun _ _ _ h => h) (by rfl) (fun w' hw' => ?hy13_14) ?_
      case hy13_14 => go_simp; try with_reducible rfl
      try simp only [List.getElem_toArray, List.getElem_cons_succ, List.getElem_cons_zero, Act.put, List.setIfInBounds_toArray, List.set_cons_zero, List.set_cons_succ]
      refine seq_take 14 (v := ?v14_15) rfl (by kernel_rfl) (fun _ _ _ h => h) (by rfl) (fun w' hw' => ?hy14_15) ?_
      case hy14_15 => go_simp; try with_reducible rfl
      try simp only [List.getElem_toArray, List.getElem_cons_succ, List.getElem_cons_zero, Act.put, List.setIfInBounds_toArray, List.set_cons_zero, List.set_cons_succ]
      refine seq_done (by kernel_rfl) ?_
      go_wp2_with fail
      go_returns
      rw [HO.out]
      exact ⟨H3.out, rfl⟩

/-- The document's answer. -/
def opensS (l : List UInt8) : Value := match opens l with
  | none => .tuple #[.string ⟨#[]⟩, .bool false]
  | some x => .tuple #[.string ⟨x.toArray⟩, .bool true]

theorem ext_take (l : List UInt8) (k : Nat) : ByteArray.extract ⟨l.toArray⟩ 0 k = ⟨(l.take k).toArray⟩ := by
  apply ByteArray.ext
  rw [ByteArray.data_extract]
  simp
theorem ext_drop (l : List UInt8) (k : Nat) : ByteArray.extract ⟨l.toArray⟩ k l.length = ⟨(l.drop k).toArray⟩ := by
  apply ByteArray.ext
  rw [ByteArray.data_extract]
  simp
  exact List.take_of_length_le (by simp)

set_option maxRecDepth 100000 in
set_option maxHeartbeats 1000000 in
theorem ropen_any (l : List UInt8) (hl : l.length ≤ 1000000000) (w : World) :
    Calls Tryd.prog 15 #[.string ⟨l.toArray⟩] w (Says w (opensS l)) := by
  have hsz : (ByteArray.mk l.toArray).size = l.length := by rw [ByteArray.size]; simp
  by_cases h4 : l.length < 4
  · have ho : opensS l = .tuple #[.string ⟨#[]⟩, .bool false] := by rw [opensS, opens, if_neg (by omega)]
    rw [ho]
    clear ho
    go_enter Tryd.func15, Tryd.ntmps15
    go_wp2_with fail
    refine seq_start (by kernel_rfl) ?_
    have h4' : decide ((l.length : Int) < 4) = true := by simp; omega
    refine seq_take 0 (v := ?v0_16) rfl (by kernel_rfl) (fun _ _ _ h => h) (by rfl) (fun w' hw' => ?hy0_16) ?_
    case hy0_16 => go_simp; try with_reducible rfl
    try simp only [List.getElem_toArray, List.getElem_cons_succ, List.getElem_cons_zero, Act.put, List.setIfInBounds_toArray, List.set_cons_zero, List.set_cons_succ]
    refine seq_take 1 (v := ?v1_17) rfl (by kernel_rfl) (fun _ _ _ h => h) (by rfl) (fun w' hw' => ?hy1_17) ?_
    case hy1_17 => go_simp; try with_reducible rfl
    try simp only [List.getElem_toArray, List.getElem_cons_succ, List.getElem_cons_zero, Act.put, List.setIfInBounds_toArray, List.set_cons_zero, List.set_cons_succ]
    refine seq_take 2 (v := ?v2_18) rfl (by kernel_rfl) (fun _ _ _ h => h) (by rfl) (fun w' hw' => ?hy2_18) ?_
    case hy2_18 => go_simp; try with_reducible rfl
    try simp only [List.getElem_toArray, List.getElem_cons_succ, List.getElem_cons_zero, Act.put, List.setIfInBounds_toArray, List.set_cons_zero, List.set_cons_succ]
    refine seq_take 3 (v := ?v3_19) rfl (by kernel_rfl) (fun _ _ _ h => h) (by rfl) (fun w' hw' => ?hy3_19) ?_
    case hy3_19 => go_simp; try with_reducible rfl
    try simp only [List.getElem_toArray, List.getElem_cons_succ, List.getElem_cons_zero, Act.put, List.setIfInBounds_toArray, List.set_cons_zero, List.set_cons_succ]
    refine seq_skip 4 rfl (by kernel_rfl) (fun _ _ _ h => h) (by rfl) ?_
    try simp only [List.getElem_toArray, List.getElem_cons_succ, List.getElem_cons_zero, Act.put, List.setIfInBounds_toArray, List.set_cons_zero, List.set_cons_succ]
    refine seq_skip 5 rfl (by kernel_rfl) (fun _ _ _ h => h) (by rfl) ?_
    try simp only [List.getElem_toArray, List.getElem_cons_succ, List.getElem_cons_zero, Act.put, List.setIfInBounds_toArray, List.set_cons_zero, List.set_cons_succ]
    refine seq_skip 6 rfl (by kernel_rfl) (fun _ _ _ h => h) (by rfl) ?_
    try simp only [List.getElem_toArray, List.getElem_cons_succ, List.getElem_cons_zero, Act.put, List.setIfInBounds_toArray, List.set_cons_zero, List.set_cons_succ]
    refine seq_skip 7 rfl (by kernel_rfl) (fun _ _ _ h => h) (by rfl) ?_
    try simp only [List.getElem_toArray, List.getElem_cons_succ, List.getElem_cons_zero, Act.put, List.setIfInBounds_toArray, List.set_cons_zero, List.set_cons_succ]
    refine seq_skip 8 rfl (by kernel_rfl) (fun _ _ _ h => h) (by rfl) ?_
    try simp only [List.getElem_toArray, List.getElem_cons_succ, List.getElem_cons_zero, Act.put, List.setIfInBounds_toArray, List.set_cons_zero, List.set_cons_succ]
    refine seq_skip 9 rfl (by kernel_rfl) (fun _ _ _ h => h) (by rfl) ?_
    try simp only [List.getElem_toArray, List.getElem_cons_succ, List.getElem_cons_zero, Act.put, List.setIfInBounds_toArray, List.set_cons_zero, List.set_cons_succ]
    refine seq_skip 10 rfl (by kernel_rfl) (fun _ _ _ h => h) (by rfl) ?_
    try simp only [List.getElem_toArray, List.getElem_cons_succ, List.getElem_cons_zero, Act.put, List.setIfInBounds_toArray, List.set_cons_zero, List.set_cons_succ]
    refine seq_skip 11 rfl (by kernel_rfl) (fun _ _ _ h => h) (by rfl) ?_
    try simp only [List.getElem_toArray, List.getElem_cons_succ, List.getElem_cons_zero, Act.put, List.setIfInBounds_toArray, List.set_cons_zero, List.set_cons_succ]
    refine seq_skip 12 rfl (by kernel_rfl) (fun _ _ _ h => h) (by rfl) ?_
    try simp only [List.getElem_toArray, List.getElem_cons_succ, List.getElem_cons_zero, Act.put, List.setIfInBounds_toArray, List.set_cons_zero, List.set_cons_succ]
    refine seq_skip 13 rfl (by kernel_rfl) (fun _ _ _ h => h) (by rfl) ?_
    try simp only [List.getElem_toArray, List.getElem_cons_succ, List.getElem_cons_zero, Act.put, List.setIfInBounds_toArray, List.set_cons_zero, List.set_cons_succ]
    refine seq_skip 14 rfl (by kernel_rfl) (fun _ _ _ h => h) (by rfl) ?_
    try simp only [List.getElem_toArray, List.getElem_cons_succ, List.getElem_cons_zero, Act.put, List.setIfInBounds_toArray, List.set_cons_zero, List.set_cons_succ]
    refine seq_skip 15 rfl (by kernel_rfl) (fun _ _ _ h => h) (by rfl) ?_
    try simp only [List.getElem_toArray, List.getElem_cons_succ, List.getElem_cons_zero, Act.put, List.setIfInBounds_toArray, List.set_cons_zero, List.set_cons_succ]
    refine seq_skip 16 rfl (by kernel_rfl) (fun _ _ _ h => h) (by rfl) ?_
    try simp only [List.getElem_toArray, List.getElem_cons_succ, List.getElem_cons_zero, Act.put, List.setIfInBounds_toArray, List.set_cons_zero, List.set_cons_succ]
    refine seq_take 17 (v := ?v17_20) rfl (by kernel_rfl) (fun _ _ _ h => h) (by rfl) (fun w' hw' => ?hy17_20) ?_
    case hy17_20 => go_simp; try with_reducible rfl
    try simp only [List.getElem_toArray, List.getElem_cons_succ, List.getElem_cons_zero, Act.put, List.setIfInBounds_toArray, List.set_cons_zero, List.set_cons_succ]
    refine seq_done (by kernel_rfl) ?_
    go_wp2_with fail
    go_returns
    exact ⟨rfl, (Below.refl _ w).drew⟩
  · obtain ⟨k, hk⟩ : ∃ k, l.length = k + 4 := ⟨l.length - 4, by omega⟩
    have ho : opensS l = if four (crc (l.take k)) = l.drop k then .tuple #[.string ⟨(l.take k).toArray⟩, .bool true] else .tuple #[.string ⟨#[]⟩, .bool false] := by
      rw [opensS, opens, show l.length - 4 = k by omega]
      by_cases h : four (crc (l.take k)) = l.drop k
      · rw [if_pos h, if_pos ⟨by omega, h⟩]
      · rw [if_neg h, if_neg fun h2 => h h2.2]
    have e1 := ext_take l k
    have e2 := ext_drop l k
    rw [hk] at hsz e2 hl
    generalize opensS l = O at *
    have HO := Lib.hid (And.intro ho hk)
    clear ho h4 hk
    go_enter Tryd.func15, Tryd.ntmps15
    go_wp2_with fail
    refine seq_start (by kernel_rfl) ?_
    have hw : IntKind.i64.wrap (k : Int) = (k : Int) := by rw [IntKind.wrap_i64]; omega
    have hle : (k : Int) ≤ (k : Int) + 4 := by omega
    refine seq_take 0 (v := ?v0_21) rfl (by kernel_rfl) (fun _ _ _ h => h) (by rfl) (fun w' hw' => ?hy0_21) ?_
    case hy0_21 => go_simp; try with_reducible rfl
    try simp only [List.getElem_toArray, List.getElem_cons_succ, List.getElem_cons_zero, Act.put, List.setIfInBounds_toArray, List.set_cons_zero, List.set_cons_succ]
    refine seq_take 1 (v := ?v1_22) rfl (by kernel_rfl) (fun _ _ _ h => h) (by rfl) (fun w' hw' => ?hy1_22) ?_
    case hy1_22 => go_simp; try with_reducible rfl
    try simp only [List.getElem_toArray, List.getElem_cons_succ, List.getElem_cons_zero, Act.put, List.setIfInBounds_toArray, List.set_cons_zero, List.set_cons_succ]
    refine seq_take 2 (v := ?v2_23) rfl (by kernel_rfl) (fun _ _ _ h => h) (by rfl) (fun w' hw' => ?hy2_23) ?_
    case hy2_23 => go_simp; try with_reducible rfl
    try simp only [List.getElem_toArray, List.getElem_cons_succ, List.getElem_cons_zero, Act.put, List.setIfInBounds_toArray, List.set_cons_zero, List.set_cons_succ]
    refine seq_take 3 (v := ?v3_24) rfl (by kernel_rfl) (fun _ _ _ h => h) (by rfl) (fun w' hw' => ?hy3_24) ?_
    case hy3_24 => go_simp; try with_reducible rfl
    try simp only [List.getElem_toArray, List.getElem_cons_succ, List.getElem_cons_zero, Act.put, List.setIfInBounds_toArray, List.set_cons_zero, List.set_cons_succ]
    refine seq_take 4 (v := ?v4_25) rfl (by kernel_rfl) (fun _ _ _ h => h) (by rfl) (fun w' hw' => ?hy4_25) ?_
    case hy4_25 => go_simp; try with_reducible rfl
    try simp only [List.getElem_toArray, List.getElem_cons_succ, List.getElem_cons_zero, Act.put, List.setIfInBounds_toArray, List.set_cons_zero, List.set_cons_succ]
    refine seq_take 5 (v := ?v5_26) rfl (by kernel_rfl) (fun _ _ _ h => h) (by rfl) (fun w' hw' => ?hy5_26) ?_
    case hy5_26 => go_simp; try with_reducible rfl
    try simp only [List.getElem_toArray, List.getElem_cons_succ, List.getElem_cons_zero, Act.put, List.setIfInBounds_toArray, List.set_cons_zero, List.set_cons_succ]
    refine seq_take 6 (v := ?v6_27) rfl (by kernel_rfl) (fun _ _ _ h => h) (by rfl) (fun w' hw' => ?hy6_27) ?_
    case hy6_27 => go_simp; try with_reducible rfl
    try simp only [List.getElem_toArray, List.getElem_cons_succ, List.getElem_cons_zero, Act.put, List.setIfInBounds_toArray, List.set_cons_zero, List.set_cons_succ]
    refine seq_take 7 (v := ?v7_28) rfl (by kernel_rfl) (fun _ _ _ h => h) (by rfl) (fun w' hw' => ?hy7_28) ?_
    case hy7_28 => go_simp; try with_reducible rfl
    try simp only [List.getElem_toArray, List.getElem_cons_succ, List.getElem_cons_zero, Act.put, List.setIfInBounds_toArray, List.set_cons_zero, List.set_cons_succ]
    refine seq_take 8 (v := ?v8_29) rfl (by kernel_rfl) (fun _ _ _ h => h) (by rfl) (fun w' hw' => ?hy8_29) ?_
    case hy8_29 => go_simp; try with_reducible rfl
    try simp only [List.getElem_toArray, List.getElem_cons_succ, List.getElem_cons_zero, Act.put, List.setIfInBounds_toArray, List.set_cons_zero, List.set_cons_succ]
    refine seq_take 11 (v := ?v11_30) rfl (by kernel_rfl) (fun _ _ _ h => h) (by rfl) (fun w' hw' => ?hy11_30) ?_
    case hy11_30 => go_simp; try with_reducible rfl
    try simp only [List.getElem_toArray, List.getElem_cons_succ, List.getElem_cons_zero, Act.put, List.setIfInBounds_toArray, List.set_cons_zero, List.set_cons_succ]
    refine seq_take 12 (v := ?v12_31) rfl (by kernel_rfl) (fun _ _ _ h => h) (by rfl) (fun w' hw' => ?hy12_31) ?_
    case hy12_31 => go_simp; try with_reducible rfl
    try simp only [List.getElem_toArray, List.getElem_cons_succ, List.getElem_cons_zero, Act.put, List.setIfInBounds_toArray, List.set_cons_zero, List.set_cons_succ]
    refine seq_take 13 (v := ?v13_32) rfl (by kernel_rfl) (fun _ _ _ h => h) (by rfl) (fun w' hw' => ?hy13_32) ?_
    case hy13_32 => go_simp; try with_reducible rfl
    try simp only [List.getElem_toArray, List.getElem_cons_succ, List.getElem_cons_zero, Act.put, List.setIfInBounds_toArray, List.set_cons_zero, List.set_cons_succ]
    refine seq_take 14 (v := ?v14_33) rfl (by kernel_rfl) (fun _ _ _ h => h) (by rfl) (fun w' hw' => ?hy14_33) ?_
    case hy14_33 => go_simp; try with_reducible rfl
    try simp only [List.getElem_toArray, List.getElem_cons_succ, List.getElem_cons_zero, Act.put, List.setIfInBounds_toArray, List.set_cons_zero, List.set_cons_succ]
    refine seq_take 15 (v := ?v15_34) rfl (by kernel_rfl) (fun _ _ _ h => h) (by rfl) (fun w' hw' => ?hy15_34) ?_
    case hy15_34 => go_simp; try with_reducible rfl
    try simp only [List.getElem_toArray, List.getElem_cons_succ, List.getElem_cons_zero, Act.put, List.setIfInBounds_toArray, List.set_cons_zero, List.set_cons_succ]
    have HW := Lib.hid (And.intro hw hle)
    clear hw hle
    refine seq_run 9 rfl (by kernel_rfl) (by rfl) (fun KK hKK => ?_)
    go_wp2_with fail
    refine (refsum_any ⟨(l.take k).toArray⟩ (by rw [ByteArray.size]; simp; omega) _).mono ?_
    rintro e w1 ⟨rfl, rfl⟩
    go_wp2_with fail
    refine ⟨Below.refl _ _, ?_⟩
    refine seq_run 10 rfl (by kernel_rfl) (by rfl) (fun KK hKK => ?_)
    go_wp2_with fail
    refine (four_any _ (crc_lt _) _).mono ?_
    rintro e w2 ⟨rfl, hb⟩
    have HB := Lib.hid hb
    clear hb
    by_cases heq : four (crc (l.take k)) = l.drop k
    · have hO : O = .tuple #[.string ⟨(l.take k).toArray⟩, .bool true] := by rw [HO.out.1, if_pos heq]
      have HE := Lib.hid hO
      have hne : (four (crc (l.take k)) == l.drop k) = true := by simp [heq]
      clear heq hO
      go_wp2_with fail
      refine ⟨HB.out, ?_⟩
      refine seq_take 16 (v := ?v16_35) rfl (by kernel_rfl) (fun _ _ _ h => h) (by rfl) (fun w' hw' => ?hy16_35) ?_
      case hy16_35 => go_simp; try with_reducible rfl
      try simp only [List.getElem_toArray, List.getElem_cons_succ, List.getElem_cons_zero, Act.put, List.setIfInBounds_toArray, List.set_cons_zero, List.set_cons_succ]
      refine seq_take 17 (v := ?v17_36) rfl (by kernel_rfl) (fun _ _ _ h => h) (by rfl) (fun w' hw' => ?hy17_36) ?_
      case hy17_36 => go_simp; try with_reducible rfl
      try simp only [List.getElem_toArray, List.getElem_cons_succ, List.getElem_cons_zero, Act.put, List.setIfInBounds_toArray, List.set_cons_zero, List.set_cons_succ]
      refine seq_done (by kernel_rfl) ?_
      obtain ⟨hw, hle⟩ := HW.out
      go_wp2_with fail
      go_returns
      rw [HE.out]
      exact ⟨rfl, (Below.refl _ w).drew.trans (HB.out.mono (by simp))⟩
    · have hO : O = .tuple #[.string ⟨#[]⟩, .bool false] := by rw [HO.out.1, if_neg heq]
      have HE := Lib.hid hO
      have hne : (four (crc (l.take k)) == l.drop k) = false := by simp [heq]
      clear heq hO
      go_wp2_with fail
      refine ⟨HB.out, ?_⟩
      refine seq_take 16 (v := ?v16_37) rfl (by kernel_rfl) (fun _ _ _ h => h) (by rfl) (fun w' hw' => ?hy16_37) ?_
      case hy16_37 => go_simp; try with_reducible rfl
      try simp only [List.getElem_toArray, List.getElem_cons_succ, List.getElem_cons_zero, Act.put, List.setIfInBounds_toArray, List.set_cons_zero, List.set_cons_succ]
      refine seq_take 17 (v := ?v17_38) rfl (by kernel_rfl) (fun _ _ _ h => h) (by rfl) (fun w' hw' => ?hy17_38) ?_
      case hy17_38 => go_simp; try with_reducible rfl
      try simp only [List.getElem_toArray, List.getElem_cons_succ, List.getElem_cons_zero, Act.put, List.setIfInBounds_toArray, List.set_cons_zero, List.set_cons_succ]
      refine seq_done (by kernel_rfl) ?_
      go_wp2_with fail
      go_returns
      rw [HE.out]
      exact ⟨rfl, (Below.refl _ w).drew.trans (HB.out.mono (by simp))⟩

end Go.Proofs.YtmnaomdnjaiggaaDoor
