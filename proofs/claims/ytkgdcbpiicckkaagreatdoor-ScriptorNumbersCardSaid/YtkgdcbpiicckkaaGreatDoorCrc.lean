/- The walks of crc.More and crc.Sum. -/
import Derived.Test.YtkgdcbpiicckkaaGreatDoorOps
import Derived.Test.YtkgdcbpiicckkaaGreatDoorCrcP
namespace Go.Proofs.YtkgdcbpiicckkaaGreatDoor
set_option linter.unusedSimpArgs false
set_option linter.unusedVariables false
open Go.RowKit

/-- The table's cells. -/
def Tab (w : World) : Prop := ∀ i, i < 16 → w.cell? ⟨1, i, none⟩ = some (.int .u32 (halfN i : Nat))

set_option maxRecDepth 100000 in
set_option maxHeartbeats 400000 in
theorem more_any (r0 : Nat) (hr0 : r0 < 4294967296) (ao : Option Addr) (n cap : Nat) (l : List UInt8) (hn : n = l.length) (hlen : n ≤ 9223372036854775807) (w : World) (hat : At w ao (bytesV l)) (ht : Tab w) :
    Calls Tryz.prog 46 #[.int .u32 (r0 : Int), .slice ao n cap] w fun e w' => e = .returned (.int .u32 ((ones ^^^ more (ones ^^^ r0) l : Nat) : Int)) ∧ w = w' := by
  subst hn
  have h0 := notxor r0 hr0
  have hl0 : ones ^^^ r0 < 4294967296 := Nat.xor_lt_two_pow (n := 32) (by decide) hr0
  generalize hi : ones ^^^ r0 = i0 at h0 hl0
  clear hi hr0
  have HL0 := Lib.hid hl0
  clear hl0
  have H : ∀ k, (hk : k < l.length) → ∃ b o, ao = some ⟨b, o, none⟩ ∧ w.cell? ⟨b, o + k, none⟩ = some (.int .u8 ((l[k]).toNat : Int)) := by
    intro k hk
    rcases hat with e | ⟨b, o, rfl, hc⟩
    · have := congrArg List.length e; rw [bytesV_length, List.length_nil] at this; omega
    · exact ⟨b, o, rfl, hc k _ (bytesV_get l k hk)⟩
  have HA := Lib.hid H
  clear H hat
  go_enter Tryz.func46, Tryz.ntmps46
  go_wp2
  go_loop [5, 12] (fun r i => ∃ k : Nat, k ≤ l.length ∧ i = .int .i64 (k : Int) ∧ r = .int .u32 (more i0 (l.take k) : Nat)) (fun _ i => l.length - (intOf i).toNat)
  case atStart => exact ⟨0, Nat.zero_le _, rfl, rfl⟩
  case round =>
    obtain ⟨k, hk, rfl, rfl⟩ := hrel
    have hrl := more_lt (l.take k) i0 HL0.out
    generalize hr : more i0 (l.take k) = r at hrl
    have HR := Lib.hid hr
    clear hr
    by_cases hlt : k < l.length
    · obtain ⟨b, o, rfl, hcell⟩ := HA.out k hlt
      have hx := (l[k]).toNat_lt
      have hstep : more i0 (l.take (k + 1)) = nib (nib (r ^^^ (l[k]).toNat)) := by rw [List.take_succ_eq_append_getElem hlt, more_append, HR.out]; rfl
      generalize (l[k]).toNat = x at hcell hx hstep
      have e1 := bits_xor_u32 r x hrl (by omega)
      rw [show ((x : Nat) : Int) = (x : Int) % 4294967296 by omega] at e1
      have hyl : r ^^^ x < 4294967296 := Nat.xor_lt_two_pow (n := 32) hrl (by omega)
      generalize r ^^^ x = y at e1 hyl hstep
      have e2 := and15 y hyl
      have e3 := nibxor y hyl
      have hzl := nib_lt y hyl
      have hq : y % 16 < 16 := Nat.mod_lt _ (by decide)
      generalize nib y = z at e3 hzl hstep
      generalize y % 16 = q at e2 e3 hq
      have c1 := ht q hq
      generalize halfN q = h at e3 c1
      have e4 := and15 z hzl
      have e5 := nibxor z hzl
      have hq2 : z % 16 < 16 := Nat.mod_lt _ (by decide)
      generalize nib z = z2 at e5 hstep
      generalize z % 16 = q2 at e4 e5 hq2
      have c2 := ht q2 hq2
      generalize halfN q2 = h2 at e5 c2
      have HS := Lib.hid hstep
      clear hstep hx hrl hyl hzl
      go_wp2
      go_round
      case rel => exact ⟨k + 1, by omega, by simp, by rw [HS.out]⟩
      case measure => simp [intOf]; omega
    · have e1 := notxor r hrl
      go_wp2
      go_ret
      obtain rfl : k = l.length := by omega
      refine ⟨?_, rfl⟩
      rw [← HR.out, List.take_of_length_le (Nat.le_refl _)]
      rfl

theorem Tab.below {w w' : World} (h : Tab w) (hb : Below w.heap.size w w') : Tab w' := fun i hi => by
  have h0 := h i hi
  exact (World.cell?_of_block (a := ⟨1, i, none⟩) (hb.block 1 (World.block_lt_of_cell? (a := ⟨1, i, none⟩) w h0))).trans h0

/-- A slice of slices of bytes. -/
def Parts (w : World) (po : Option Addr) (ls : List (List UInt8)) : Prop :=
  ∀ k, (hk : k < ls.length) → (ls[k]).length ≤ 9223372036854775807 ∧ ∃ b o ao cap, po = some ⟨b, o, none⟩ ∧ w.cell? ⟨b, o + k, none⟩ = some (.slice ao (ls[k]).length cap) ∧ At w ao (bytesV ls[k])

theorem Parts.below {w w' : World} {po : Option Addr} {ls : List (List UInt8)} (h : Parts w po ls) (hb : Below w.heap.size w w') : Parts w' po ls := by
  intro k hk
  obtain ⟨h1, b, o, ao, cap, h2, h3, h4⟩ := h k hk
  exact ⟨h1, b, o, ao, cap, h2, (World.cell?_of_block (a := ⟨b, o + k, none⟩) (hb.block b (World.block_lt_of_cell? (a := ⟨b, o + k, none⟩) w h3))).trans h3, h4.below hb⟩

/-- What the parts' values read as. -/
def PartVals (w : World) : List Value → List (List UInt8) → Prop
  | [], [] => True
  | v :: vs, l :: ls => (l.length ≤ 9223372036854775807 ∧ ∃ ao n cap, v = .slice ao n cap ∧ n = l.length ∧ At w ao (bytesV l)) ∧ PartVals w vs ls
  | _, _ => False
theorem PartVals.get {w : World} : ∀ {vs : List Value} {ls : List (List UInt8)}, PartVals w vs ls → ∀ k, (hk : k < ls.length) → (ls[k]).length ≤ 9223372036854775807 ∧ ∃ ao cap, vs[k]? = some (.slice ao (ls[k]).length cap) ∧ At w ao (bytesV ls[k])
  | [], [], _, _, hk => absurd hk (Nat.not_lt_zero _)
  | [], _ :: _, h, _, _ => h.elim
  | _ :: _, [], h, _, _ => h.elim
  | v :: vs, l :: ls, ⟨⟨h1, ao, n, cap, h2, hn, h3⟩, _⟩, 0, _ => ⟨h1, ao, cap, by rw [h2, hn]; rfl, h3⟩
  | v :: vs, l :: ls, ⟨_, h⟩, k + 1, hk => PartVals.get h k (by simpa using hk)
/-- Parts in a new block. -/
theorem parts_new {w : World} {cs : Array Value} {t : TypeId} {ls : List (List UInt8)} {g : Nat} (hg : g = w.heap.size) (h : PartVals w cs.toList ls) : Parts (w.alloc (.cells cs t)) (some ⟨g, 0, none⟩) ls := by
  subst hg
  intro k hk
  obtain ⟨h1, ao, cap, h2, h3⟩ := h.get k hk
  refine ⟨h1, w.heap.size, 0, ao, cap, rfl, ?_, h3.below ((Below.refl _ _).alloc (Nat.le_refl _) _)⟩
  rw [Nat.zero_add, cell_of_row _ w.heap.size k cs t (0, 0) (heap_alloc_new w _), ← h2, Array.getElem?_toList]
theorem Tab.alloc {w : World} (h : Tab w) (o : Obj) : Tab (w.alloc o) := h.below ((Below.refl _ _).alloc (Nat.le_refl _) _)
theorem Tab.drew {w : World} (h : Tab w) : Tab w.drew := h

set_option maxRecDepth 100000 in
set_option maxHeartbeats 400000 in
theorem sum_any (po : Option Addr) (n cap : Nat) (ls : List (List UInt8)) (hn : n = ls.length) (hlen : n ≤ 9223372036854775807) (w : World) (hp : Parts w po ls) (ht : Tab w) :
    Calls Tryz.prog 26 #[.slice po n cap] w fun e w' => e = .returned (.int .u32 ((crc ls.flatten : Nat) : Int)) ∧ w = w' := by
  subst hn
  have HP := Lib.hid hp
  have HT := Lib.hid ht
  clear hp ht
  go_enter Tryz.func26, Tryz.ntmps26
  go_wp2
  go_loop [3, 8] (fun r i => ∃ k : Nat, k ≤ ls.length ∧ i = .int .i64 (k : Int) ∧ r = .int .u32 (crc (ls.take k).flatten : Nat)) (fun _ i => ls.length - (intOf i).toNat)
  case atStart => exact ⟨0, Nat.zero_le _, rfl, by rw [List.take_zero, List.flatten_nil, crc_nil]; rfl⟩
  case round =>
    obtain ⟨k, hk, rfl, rfl⟩ := hrel
    have hrl := crc_lt (ls.take k).flatten
    generalize hr : crc (ls.take k).flatten = r at hrl
    have HR := Lib.hid hr
    have HRL := Lib.hid hrl
    clear hr hrl
    by_cases hlt : k < ls.length
    · obtain ⟨hkl, b, o, ao, cap', rfl, hcell, hat⟩ := HP.out k hlt
      have HK := Lib.hid (And.intro hkl hat)
      clear hkl hat
      go_wp2_with fail
      refine (more_any r HRL.out ao _ cap' ls[k] rfl HK.out.1 _ HK.out.2 HT.out).mono ?_
      rintro e w' ⟨rfl, rfl⟩
      go_wp2
      go_round
      case rel => exact ⟨k + 1, by omega, by simp, by rw [List.take_succ_eq_append_getElem hlt, List.flatten_append, ← crc_append, HR.out]; simp⟩
      case measure => simp [intOf]; omega
    · go_wp2
      go_ret
      obtain rfl : k = ls.length := by omega
      rw [List.take_of_length_le (Nat.le_refl _)] at HR
      exact ⟨by rw [HR.out]; rfl, rfl⟩

/-- Of one part, and of two: the call as it stands, the parts laid into a new block. -/
theorem sum_one (ao : Option Addr) (n cap : Nat) (l : List UInt8) (hn : n = l.length) (hl : n ≤ 9223372036854775807) (w : World) (g : Nat) (hg : g = w.heap.size) (hat : At w ao (bytesV l)) (ht : Tab w) :
    Calls Tryz.prog 26 #[.slice (some ⟨g, 0, none⟩) 1 1] (w.alloc (.cells #[.slice ao n cap] 24)) fun e w' => e = .returned (.int .u32 ((crc l : Nat) : Int)) ∧ w.alloc (.cells #[.slice ao n cap] 24) = w' := by
  refine (sum_any _ 1 1 [l] rfl (by omega) _ (parts_new (cs := #[.slice ao n cap]) hg ⟨⟨by omega, ao, n, cap, rfl, hn, hat⟩, trivial⟩) (ht.alloc _)).mono ?_
  rintro e w' ⟨rfl, rfl⟩
  exact ⟨by simp, rfl⟩
theorem sum_two (ao : Option Addr) (n cap : Nat) (l : List UInt8) (hn : n = l.length) (hl : n ≤ 9223372036854775807) (ao2 : Option Addr) (n2 cap2 : Nat) (l2 : List UInt8) (hn2 : n2 = l2.length) (hl2 : n2 ≤ 9223372036854775807) (w : World) (g : Nat) (hg : g = w.heap.size) (hat : At w ao (bytesV l)) (hat2 : At w ao2 (bytesV l2)) (ht : Tab w) :
    Calls Tryz.prog 26 #[.slice (some ⟨g, 0, none⟩) 2 2] (w.alloc (.cells #[.slice ao n cap, .slice ao2 n2 cap2] 24)) fun e w' => e = .returned (.int .u32 ((crc (l ++ l2) : Nat) : Int)) ∧ w.alloc (.cells #[.slice ao n cap, .slice ao2 n2 cap2] 24) = w' := by
  refine (sum_any _ 2 2 [l, l2] rfl (by omega) _ (parts_new (cs := #[.slice ao n cap, .slice ao2 n2 cap2]) hg ⟨⟨by omega, ao, n, cap, rfl, hn, hat⟩, ⟨by omega, ao2, n2, cap2, rfl, hn2, hat2⟩, trivial⟩) (ht.alloc _)).mono ?_
  rintro e w' ⟨rfl, rfl⟩
  exact ⟨by simp, rfl⟩

end Go.Proofs.YtkgdcbpiicckkaaGreatDoor
