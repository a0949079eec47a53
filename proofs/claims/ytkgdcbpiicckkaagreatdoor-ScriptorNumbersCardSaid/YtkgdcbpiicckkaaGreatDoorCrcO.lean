/- The walks of crc.Close and crc.Open, and the document's. -/
import Derived.Test.YtkgdcbpiicckkaaGreatDoorSl
import Derived.Test.YtkgdcbpiicckkaaGreatDoorCrcR
namespace Go.Proofs.YtkgdcbpiicckkaaGreatDoor
set_option linter.unusedSimpArgs false
set_option linter.unusedVariables false
open Go.RowKit

theorem u8i (k : Nat) (h : k < 256) : Value.int .u8 (k : Int) = u8v (UInt8.ofNat k) := by
  simp [u8v, UInt8.toNat_ofNat', Nat.mod_eq_of_lt h]

theorem four_cells (n : Nat) (hn : n < 4294967296) : (#[.int .u8 ((n : Int) % 256), .int .u8 ((n : Int) / 256 % 256), .int .u8 ((n : Int) / 65536 % 256), .int .u8 ((n : Int) / 16777216)] : Array Value).toList = bytesV (four n) := by
  rw [show (n : Int) % 256 = ((n % 256 : Nat) : Int) by omega, show (n : Int) / 256 % 256 = ((n / 256 % 256 : Nat) : Int) by omega,
    show (n : Int) / 65536 % 256 = ((n / 65536 % 256 : Nat) : Int) by omega, show (n : Int) / 16777216 = ((n / 16777216 % 256 : Nat) : Int) by omega,
    u8i _ (by omega), u8i _ (by omega), u8i _ (by omega), u8i _ (by omega)]
  rfl
theorem four_len (n : Nat) : (four n).length = 4 := rfl

set_option maxHeartbeats 400000 in
theorem tail_any (n : Nat) (hn : n < 4294967296) (w : World) :
    Calls Tryz.prog 25 #[.int .u32 (n : Int)] w (NewBytes w (four n)) := by
  go_enter Tryz.func25, Tryz.ntmps25
  go_wp2_with fail
  go_ret
  refine ⟨_, 4, rfl, ?_, (Below.refl _ w).alloc (Nat.le_refl _) _⟩
  rw [← four_cells n hn]
  exact World.ownsRow_lit w _ 4 (Nat.le_refl _) (by decide) rfl

set_option maxRecDepth 100000 in
set_option maxHeartbeats 400000 in
theorem close_any (ao : Option Addr) (l : List UInt8) (n cap : Nat) (hn : n = l.length) (hl : n ≤ 1000000000) (w : World) (hat : At w ao (bytesV l)) (ht : Tab w) :
    Calls Tryz.prog 9 #[.slice ao n cap] w (NewBytes w (l ++ four (crc l))) := by
  subst hn
  have HA := Lib.hid hat
  have HT := Lib.hid ht
  clear hat ht
  go_enter Tryz.func9, Tryz.ntmps9
  go_wp2_with fail
  refine (sum_one ao _ cap l rfl (by omega) w _ rfl HA.out HT.out).mono ?_
  rintro e w1 ⟨rfl, rfl⟩
  go_wp2_with fail
  refine (tail_any _ (crc_lt l) _).mono ?_
  rintro e w2 ⟨bo, capb, rfl, hown, hbel⟩
  have hb1 : Below w.heap.size w w2 := ((Below.refl _ w).alloc (Nat.le_refl _) _).trans (hbel.mono (by simp))
  have H2 := Lib.hid (And.intro (At.own hown) hb1)
  clear hown hbel hb1
  go_wp2_with fail
  refine (concat_any _ 2 2 [l, four (crc l)] rfl (by omega) (by simp [four_len]; omega) _ (parts_new rfl ?_)).mono ?_
  · exact ⟨⟨by omega, ao, _, cap, rfl, rfl, HA.out.below H2.out.2⟩, ⟨by rw [four_len]; decide, bo, 4, capb, rfl, rfl, H2.out.1⟩, trivial⟩
  · rintro e w3 ⟨co, capc, rfl, hown, hbel⟩
    go_wp2_with fail
    go_ret
    have hsz := H2.out.2.size
    rw [show [l, four (crc l)].flatten = l ++ four (crc l) by simp] at hown
    exact ⟨co, capc, by simp, owns_mono hown (by simp; omega), (H2.out.2.alloc hsz _).trans (hbel.mono (by simp; omega))⟩

/-- What opening answers. -/
def opens (l : List UInt8) : Option (List UInt8) := if 4 ≤ l.length ∧ four (crc (l.take (l.length - 4))) = l.drop (l.length - 4) then some (l.take (l.length - 4)) else none
/-- A call that answers so, and of all that was there nothing has turned. -/
def Opened (w : World) (o : Option (List UInt8)) (e : Ending) (w' : World) : Prop :=
  Below w.heap.size w w' ∧ match o with
    | none => e = .returned (.tuple #[.slice none 0 0, .bool false])
    | some x => ∃ ao cap, e = .returned (.tuple #[.slice ao x.length cap, .bool true]) ∧ w'.ownsRow w.heap.size 5 1 (.slice ao x.length cap) x.length (bytesV x)

set_option maxRecDepth 100000 in
set_option maxHeartbeats 1000000 in
theorem copen_any (ao : Option Addr) (l : List UInt8) (n cap : Nat) (hn : n = l.length) (hl : n ≤ 1000000000) (hc : n ≤ cap) (w : World) (hat : At w ao (bytesV l)) (ht : Tab w) :
    Calls Tryz.prog 11 #[.slice ao n cap] w (Opened w (opens l)) := by
  by_cases h4 : n < 4
  · have ho : opens l = none := by rw [opens, if_neg (by omega)]
    rw [ho]
    clear hn ho
    go_enter Tryz.func11, Tryz.ntmps11
    have h4' : decide ((n : Int) - 4 < 0) = true := by simp; omega
    go_wp2_with fail
    refine seq_start (by kernel_rfl) ?_
    refine seq_take 0 (v := ?_) rfl (by kernel_rfl) (fun _ _ _ h => h) (by rfl) (fun w' hw' => ?_) ?_
    rotate_left
    · go_simp; try with_reducible rfl
    try simp only [List.getElem_toArray, List.getElem_cons_succ, List.getElem_cons_zero, Act.put, List.setIfInBounds_toArray, List.set_cons_zero, List.set_cons_succ]
    refine seq_take 1 (v := ?_) rfl (by kernel_rfl) (fun _ _ _ h => h) (by rfl) (fun w' hw' => ?_) ?_
    rotate_left
    · go_simp; try with_reducible rfl
    try simp only [List.getElem_toArray, List.getElem_cons_succ, List.getElem_cons_zero, Act.put, List.setIfInBounds_toArray, List.set_cons_zero, List.set_cons_succ]
    refine seq_take 2 (v := ?_) rfl (by kernel_rfl) (fun _ _ _ h => h) (by rfl) (fun w' hw' => ?_) ?_
    rotate_left
    · go_simp; try with_reducible rfl
    try simp only [List.getElem_toArray, List.getElem_cons_succ, List.getElem_cons_zero, Act.put, List.setIfInBounds_toArray, List.set_cons_zero, List.set_cons_succ]
    refine seq_skip 3 rfl (by kernel_rfl) (fun _ _ _ h => h) (by rfl) ?_
    try simp only [List.getElem_toArray, List.getElem_cons_succ, List.getElem_cons_zero, Act.put, List.setIfInBounds_toArray, List.set_cons_zero, List.set_cons_succ]
    refine seq_skip 4 rfl (by kernel_rfl) (fun _ _ _ h => h) (by rfl) ?_
    try simp only [List.getElem_toArray, List.getElem_cons_succ, List.getElem_cons_zero, Act.put, List.setIfInBounds_toArray, List.set_cons_zero, List.set_cons_succ]
    refine seq_skip 5 rfl (by kernel_rfl) (fun _ _ _ h => h) (by rfl) ?_
    try simp only [List.getElem_toArray, List.getElem_cons_succ, List.getElem_cons_zero, Act.put, List.setIfInBounds_toArray, List.set_cons_zero, List.set_cons_succ]
    refine seq_skip 6 rfl (by kernel_rfl) (fun _ _ _ h => h) (by rfl) ?_
    try simp only [List.getElem_toArray, List.getElem_cons_succ, List.getElem_cons_zero, Act.put, List.setIfInBounds_toArray, List.set_cons_zero, List.set_cons_succ]
    refine seq_skip 7 rfl (by kernel_rfl) (fun _ _ _ h => h) (by rfl) ?_
    try simp only [List.getElem_toArray, List.getElem_cons_succ, List.getElem_cons_zero, Act.put, List.setIfInBounds_toArray, List.set_cons_zero, List.set_cons_succ]
    refine seq_skip 8 rfl (by kernel_rfl) (fun _ _ _ h => h) (by rfl) ?_
    try simp only [List.getElem_toArray, List.getElem_cons_succ, List.getElem_cons_zero, Act.put, List.setIfInBounds_toArray, List.set_cons_zero, List.set_cons_succ]
    refine seq_skip 9 rfl (by kernel_rfl) (fun _ _ _ h => h) (by rfl) ?_
    try simp only [List.getElem_toArray, List.getElem_cons_succ, List.getElem_cons_zero, Act.put, List.setIfInBounds_toArray, List.set_cons_zero, List.set_cons_succ]
    refine seq_skip 10 rfl (by kernel_rfl) (fun _ _ _ h => h) (by rfl) ?_
    try simp only [List.getElem_toArray, List.getElem_cons_succ, List.getElem_cons_zero, Act.put, List.setIfInBounds_toArray, List.set_cons_zero, List.set_cons_succ]
    refine seq_skip 11 rfl (by kernel_rfl) (fun _ _ _ h => h) (by rfl) ?_
    try simp only [List.getElem_toArray, List.getElem_cons_succ, List.getElem_cons_zero, Act.put, List.setIfInBounds_toArray, List.set_cons_zero, List.set_cons_succ]
    refine seq_skip 12 rfl (by kernel_rfl) (fun _ _ _ h => h) (by rfl) ?_
    try simp only [List.getElem_toArray, List.getElem_cons_succ, List.getElem_cons_zero, Act.put, List.setIfInBounds_toArray, List.set_cons_zero, List.set_cons_succ]
    refine seq_skip 13 rfl (by kernel_rfl) (fun _ _ _ h => h) (by rfl) ?_
    try simp only [List.getElem_toArray, List.getElem_cons_succ, List.getElem_cons_zero, Act.put, List.setIfInBounds_toArray, List.set_cons_zero, List.set_cons_succ]
    refine seq_take 14 (v := ?_) rfl (by kernel_rfl) (fun _ _ _ h => h) (by rfl) (fun w' hw' => ?_) ?_
    rotate_left
    · go_simp; try with_reducible rfl
    try simp only [List.getElem_toArray, List.getElem_cons_succ, List.getElem_cons_zero, Act.put, List.setIfInBounds_toArray, List.set_cons_zero, List.set_cons_succ]
    refine seq_done (by kernel_rfl) ?_
    go_wp2_with fail
    go_returns
    exact ⟨(Below.refl _ w).drew, rfl⟩
  · obtain ⟨k, rfl⟩ : ∃ k, n = k + 4 := ⟨n - 4, by omega⟩
    have HN := Lib.hid hn
    have HA := Lib.hid hat
    have HT := Lib.hid ht
    have hk : l.length - 4 = k := by omega
    have ho : opens l = if four (crc (l.take k)) = l.drop k then some (l.take k) else none := by
      rw [opens, hk]
      by_cases h : four (crc (l.take k)) = l.drop k
      · rw [if_pos h, if_pos ⟨by omega, h⟩]
      · rw [if_neg h, if_neg fun h2 => h h2.2]
    generalize opens l = O at *
    have htk : (l.take k).length = k := by rw [List.length_take]; omega
    have hdk : (l.drop k).length = 4 := by rw [List.length_drop]; omega
    have hkc : k ≤ cap := by omega
    have HL := Lib.hid (And.intro htk (And.intro hdk ho))
    clear hn hat ht hk ho htk hdk h4
    go_enter Tryz.func11, Tryz.ntmps11
    go_wp2_with fail
    refine seq_start (by kernel_rfl) ?_
    refine seq_take 0 (v := ?_) rfl (by kernel_rfl) (fun _ _ _ h => h) (by rfl) (fun w' hw' => ?_) ?_
    rotate_left
    · go_simp; try with_reducible rfl
    try simp only [List.getElem_toArray, List.getElem_cons_succ, List.getElem_cons_zero, Act.put, List.setIfInBounds_toArray, List.set_cons_zero, List.set_cons_succ]
    refine seq_take 1 (v := ?_) rfl (by kernel_rfl) (fun _ _ _ h => h) (by rfl) (fun w' hw' => ?_) ?_
    rotate_left
    · go_simp; try with_reducible rfl
    try simp only [List.getElem_toArray, List.getElem_cons_succ, List.getElem_cons_zero, Act.put, List.setIfInBounds_toArray, List.set_cons_zero, List.set_cons_succ]
    refine seq_take 2 (v := ?_) rfl (by kernel_rfl) (fun _ _ _ h => h) (by rfl) (fun w' hw' => ?_) ?_
    rotate_left
    · go_simp; try with_reducible rfl
    try simp only [List.getElem_toArray, List.getElem_cons_succ, List.getElem_cons_zero, Act.put, List.setIfInBounds_toArray, List.set_cons_zero, List.set_cons_succ]
    refine seq_take 3 (v := ?_) rfl (by kernel_rfl) (fun _ _ _ h => h) (by rfl) (fun w' hw' => ?_) ?_
    rotate_left
    · go_simp; try with_reducible rfl
    try simp only [List.getElem_toArray, List.getElem_cons_succ, List.getElem_cons_zero, Act.put, List.setIfInBounds_toArray, List.set_cons_zero, List.set_cons_succ]
    refine seq_take 4 (v := ?_) rfl (by kernel_rfl) (fun _ _ _ h => h) (by rfl) (fun w' hw' => ?_) ?_
    rotate_left
    · go_simp; try with_reducible rfl
    try simp only [List.getElem_toArray, List.getElem_cons_succ, List.getElem_cons_zero, Act.put, List.setIfInBounds_toArray, List.set_cons_zero, List.set_cons_succ]
    refine seq_take 5 rfl (by kernel_rfl) (fun _ _ _ h => h) (by rfl) (seq_hi rfl rfl rfl (hkc)) ?_
    try simp only [List.getElem_toArray, List.getElem_cons_succ, List.getElem_cons_zero, Act.put, List.setIfInBounds_toArray, List.set_cons_zero, List.set_cons_succ]
    refine seq_take 9 (v := ?_) rfl (by kernel_rfl) (fun _ _ _ h => h) (by rfl) (fun w' hw' => ?_) ?_
    rotate_left
    · go_simp; try with_reducible rfl
    try simp only [List.getElem_toArray, List.getElem_cons_succ, List.getElem_cons_zero, Act.put, List.setIfInBounds_toArray, List.set_cons_zero, List.set_cons_succ]
    refine seq_take 10 (v := ?_) rfl (by kernel_rfl) (fun _ _ _ h => h) (by rfl) (fun w' hw' => ?_) ?_
    rotate_left
    · go_simp; try with_reducible rfl
    try simp only [List.getElem_toArray, List.getElem_cons_succ, List.getElem_cons_zero, Act.put, List.setIfInBounds_toArray, List.set_cons_zero, List.set_cons_succ]
    refine seq_take 11 rfl (by kernel_rfl) (fun _ _ _ h => h) (by rfl) (seq_lo rfl rfl rfl ((Nat.le_add_right k 4))) ?_
    try simp only [List.getElem_toArray, List.getElem_cons_succ, List.getElem_cons_zero, Act.put, List.setIfInBounds_toArray, List.set_cons_zero, List.set_cons_succ]
    refine seq_run 6 rfl (by kernel_rfl) (by rfl) (fun KK hKK => ?_)
    go_wp2_with fail
    refine ⟨(Below.refl _ _).alloc (Nat.le_refl _) _, ?_⟩
    refine seq_run 7 rfl (by kernel_rfl) (by rfl) (fun KK hKK => ?_)
    go_wp2_with fail
    refine (sum_one ao k cap (l.take k) HL.out.1.symm (by omega) w.drew _ (by simp) (HA.out.takeB k) HT.out).mono ?_
    rintro e w' ⟨rfl, rfl⟩
    go_wp2_with fail
    refine ⟨Below.refl _ _, ?_⟩
    refine seq_run 8 rfl (by kernel_rfl) (by rfl) (fun KK hKK => ?_)
    go_wp2_with fail
    refine (tail_any _ (crc_lt _) _).mono ?_
    rintro e w2 ⟨bo, capb, rfl, hown, hbel⟩
    have hb2 : Below w.heap.size w w2 := (((Below.refl _ w).drew).alloc (Nat.le_refl _) _).trans (hbel.mono (by simp))
    have H2 := Lib.hid (And.intro (At.own hown) hb2)
    have HB := Lib.hid hbel
    clear hown hbel hb2
    go_wp2_with fail
    refine ⟨HB.out, ?_⟩
    refine seq_run 12 rfl (by kernel_rfl) (by rfl) (fun KK hKK => ?_)
    go_wp2_with fail
    refine (equal_any bo _ (four (crc (l.take k))) (l.drop k) _ 4 capb _ rfl HL.out.2.1.symm (by rw [four_len]; decide) (by decide) w2 H2.out.1 ((HA.out.dropB cap k (by have := HN.out; omega)).below H2.out.2)).mono ?_
    rintro e w3 ⟨rfl, hb3⟩
    have hb := H2.out.2.trans (hb3.mono H2.out.2.size)
    have H3 := Lib.hid hb
    have HB3 := Lib.hid hb3
    clear hb hb3
    by_cases heq : four (crc (l.take k)) = l.drop k
    · have heq' : (four (crc (l.take k)) == l.drop k) = true := by simp [heq]
      rw [heq']
      have ho : O = some (l.take k) := by rw [HL.out.2.2, if_pos heq]
      have HO := Lib.hid ho
      clear heq heq' ho
      go_wp2_with fail
      refine ⟨HB3.out, ?_⟩
      refine seq_take 13 (v := ?_) rfl (by kernel_rfl) (fun _ _ _ h => h) (by rfl) (fun w' hw' => ?_) ?_
      rotate_left
      · go_simp; try with_reducible rfl
      try simp only [List.getElem_toArray, List.getElem_cons_succ, List.getElem_cons_zero, Act.put, List.setIfInBounds_toArray, List.set_cons_zero, List.set_cons_succ]
      refine seq_take 14 (v := ?_) rfl (by kernel_rfl) (fun _ _ _ h => h) (by rfl) (fun w' hw' => ?_) ?_
      rotate_left
      · go_simp; try with_reducible rfl
      try simp only [List.getElem_toArray, List.getElem_cons_succ, List.getElem_cons_zero, Act.put, List.setIfInBounds_toArray, List.set_cons_zero, List.set_cons_succ]
      refine seq_done (by kernel_rfl) ?_
      go_wp2_with fail
      refine (sclone_any ao (l.take k) k cap HL.out.1.symm (by omega) w3 ((HA.out.takeB k).below H3.out)).mono ?_
      rintro e w4 ⟨co, capc, rfl, hown, hbel⟩
      go_wp2_with fail
      go_returns
      rw [HO.out]
      exact ⟨H3.out.trans (hbel.mono H3.out.size), co, capc, by simp, owns_mono hown H3.out.size⟩
    · have heq' : (four (crc (l.take k)) == l.drop k) = false := by simp [heq]
      rw [heq']
      have ho : O = none := by rw [HL.out.2.2, if_neg heq]
      have HO := Lib.hid ho
      clear heq heq' ho
      go_wp2_with fail
      refine ⟨HB3.out, ?_⟩
      refine seq_take 13 (v := ?_) rfl (by kernel_rfl) (fun _ _ _ h => h) (by rfl) (fun w' hw' => ?_) ?_
      rotate_left
      · go_simp; try with_reducible rfl
      try simp only [List.getElem_toArray, List.getElem_cons_succ, List.getElem_cons_zero, Act.put, List.setIfInBounds_toArray, List.set_cons_zero, List.set_cons_succ]
      refine seq_take 14 (v := ?_) rfl (by kernel_rfl) (fun _ _ _ h => h) (by rfl) (fun w' hw' => ?_) ?_
      rotate_left
      · go_simp; try with_reducible rfl
      try simp only [List.getElem_toArray, List.getElem_cons_succ, List.getElem_cons_zero, Act.put, List.setIfInBounds_toArray, List.set_cons_zero, List.set_cons_succ]
      refine seq_done (by kernel_rfl) ?_
      go_wp2_with fail
      go_returns
      rw [HO.out]
      exact ⟨H3.out, rfl⟩

/-- The document's answer. -/
def opensS (l : List UInt8) : Value := match opens l with
  | none => .tuple #[.string ⟨#[]⟩, .bool false]
  | some x => .tuple #[.string ⟨x.toArray⟩, .bool true]

theorem ext_take (l : List UInt8) (k : Nat) : ByteArray.extract ⟨l.toArray⟩ 0 k = ⟨(l.take k).toArray⟩ := by
  apply ByteArray.ext
  rw [ByteArray.data_extract]
  simp
theorem ext_drop (l : List UInt8) (k : Nat) : ByteArray.extract ⟨l.toArray⟩ k l.length = ⟨(l.drop k).toArray⟩ := by
  apply ByteArray.ext
  rw [ByteArray.data_extract]
  simp
  exact List.take_of_length_le (by simp)

end Go.Proofs.YtkgdcbpiicckkaaGreatDoor
