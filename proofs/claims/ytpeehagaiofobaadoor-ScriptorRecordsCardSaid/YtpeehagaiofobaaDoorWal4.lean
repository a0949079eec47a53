/- The walk of record. -/
import Derived.Test.YtpeehagaiofobaaDoorWal3
namespace Go.Proofs.YtpeehagaiofobaaDoor
open Go.RowKit

theorem secF_drop (a n : Nat) (b : List UInt8) : ∃ rest, (secF a n b).drop 1 = enc a ++ (enc n ++ (enc b.length ++ (enc (crc b : Nat) ++ rest))) := by
  refine ⟨four (crc (firstC a n b)) ++ List.replicate (512 - (firstL a n b).length) 0, ?_⟩
  simp [secF, padZ, firstL, closedL, firstC]
theorem secF_head (a n : Nat) (b : List UInt8) : (secF a n b).head? = some 72 := rfl

set_option maxRecDepth 100000 in
set_option maxHeartbeats 1000000 in
theorem recordOld_any {B : Nat} {M I : Nat → Prop} {d g : Nat} {s : DS} {l : LS} (w : World) (h : DiskAt B w M I d s) (hoff : s.off = false) (hW : s.W = []) (hl : LogAt w g d l) (hin : l.f + l.at_ < s.L.length) (hL : s.L.length ≤ 1000000) (hage : l.age ≤ 1000000000) (hold : OldS l.age (secOf s.L l.f l.at_)) :
    Calls Tryd.prog 22 #[.pointer (some ⟨g, 0, none⟩)] w (fun e w' => e = .returned (.tuple #[.slice none 0 0, .int .i64 0, .bool false, .int .i64 0]) ∧ Below w.heap.size w w') := by
  have H := Lib.hid (And.intro h hl)
  have HR := Lib.hid (readE_on s hoff hW l.f l.at_ hin)
  have HL := Lib.hid (secOf_length h.sok l.f l.at_)
  generalize secOf s.L l.f l.at_ = c at *
  have HO := Lib.hid hold
  obtain ⟨_, _, _, c3, _, c5⟩ := hl.cells
  have HC := Lib.hid (And.intro c3 c5)
  clear h hoff hW hl hold c3 c5
  go_enter Tryd.func22, Tryd.ntmps22
  go_wp2_with fail
  refine seq_start (by kernel_rfl) ?_
  refine seq_take 0 (v := ?_) rfl (by kernel_rfl) (fun _ _ _ h => h) (by rfl) (fun w' hw' => ?_) ?_
  rotate_left
  · go_simp; try with_reducible rfl
  try simp only [List.getElem_toArray, List.getElem_cons_succ, List.getElem_cons_zero, Act.put, List.setIfInBounds_toArray, List.set_cons_zero, List.set_cons_succ]
  refine seq_take 1 (v := ?_) rfl (by kernel_rfl) (fun _ _ _ h => h) (by rfl) (fun w' hw' => ?_) ?_
  rotate_left
  · go_simp; try with_reducible rfl
  try simp only [List.getElem_toArray, List.getElem_cons_succ, List.getElem_cons_zero, Act.put, List.setIfInBounds_toArray, List.set_cons_zero, List.set_cons_succ]
  refine seq_take 2 (v := ?_) rfl (by kernel_rfl) (fun _ _ _ h => h) (by rfl) (fun w' hw' => ?_) ?_
  rotate_left
  · go_simp; try with_reducible rfl
  try simp only [List.getElem_toArray, List.getElem_cons_succ, List.getElem_cons_zero, Act.put, List.setIfInBounds_toArray, List.set_cons_zero, List.set_cons_succ]
  refine seq_take 3 rfl (by kernel_rfl) (fun _ _ _ h => h) (by rfl) (seq_ldp rfl rfl (H.out.2.drew)) ?_
  try simp only [List.getElem_toArray, List.getElem_cons_succ, List.getElem_cons_zero, Act.put, List.setIfInBounds_toArray, List.set_cons_zero, List.set_cons_succ]
  refine seq_take 4 (v := ?_) rfl (by kernel_rfl) (fun _ _ _ h => h) (by rfl) (fun w' hw' => ?_) ?_
  rotate_left
  · go_simp; try with_reducible rfl
  try simp only [List.getElem_toArray, List.getElem_cons_succ, List.getElem_cons_zero, Act.put, List.setIfInBounds_toArray, List.set_cons_zero, List.set_cons_succ]
  refine seq_take 5 (v := ?_) rfl (by kernel_rfl) (fun _ _ _ h => h) (by rfl) (fun w' hw' => ?_) ?_
  rotate_left
  · go_simp; try with_reducible rfl
  try simp only [List.getElem_toArray, List.getElem_cons_succ, List.getElem_cons_zero, Act.put, List.setIfInBounds_toArray, List.set_cons_zero, List.set_cons_succ]
  refine seq_take 6 (v := ?_) rfl (by kernel_rfl) (fun _ _ _ h => h) (by rfl) (fun w' hw' => ?_) ?_
  rotate_left
  · go_simp; try with_reducible rfl
  try simp only [List.getElem_toArray, List.getElem_cons_succ, List.getElem_cons_zero, Act.put, List.setIfInBounds_toArray, List.set_cons_zero, List.set_cons_succ]
  refine seq_take 7 rfl (by kernel_rfl) (fun _ _ _ h => h) (by rfl) (seq_ldi rfl rfl ((show w.drew.cell? ⟨g, 5, none⟩ = _ from HC.out.2))) ?_
  try simp only [List.getElem_toArray, List.getElem_cons_succ, List.getElem_cons_zero, Act.put, List.setIfInBounds_toArray, List.set_cons_zero, List.set_cons_succ]
  refine seq_run 8 rfl (by kernel_rfl) (by rfl) (fun KK hKK => ?_)
  go_wp2_with fail
  refine (wread_any w.drew (H.out.1.below (Below.refl _ w).drew) l.f l.cnt l.at_ (by omega) (by omega)).mono ?_
  rintro e w1 ⟨ao, cap, rfl, hown, hb1⟩
  rw [HR.out] at hown ⊢
  simp only [HL.out] at hown ⊢
  have hcap : 512 ≤ cap := by
    obtain ⟨_, _, e, h⟩ := owns_form hown
    cases e; exact h
  have H1 := Lib.hid (And.intro (At.own hown) hb1)
  have hsz1 := hb1.size
  clear hown hb1
  go_wp2_with fail
  refine ⟨H1.out.2, ?_⟩
  refine seq_take 9 (v := ?_) rfl (by kernel_rfl) (fun _ _ _ h => h) (by rfl) (fun w' hw' => ?_) ?_
  rotate_left
  · go_simp; try with_reducible rfl
  try simp only [List.getElem_toArray, List.getElem_cons_succ, List.getElem_cons_zero, Act.put, List.setIfInBounds_toArray, List.set_cons_zero, List.set_cons_succ]
  refine seq_take 10 (v := ?_) rfl (by kernel_rfl) (fun _ _ _ h => h) (by rfl) (fun w' hw' => ?_) ?_
  rotate_left
  · go_simp; try with_reducible rfl
  try simp only [List.getElem_toArray, List.getElem_cons_succ, List.getElem_cons_zero, Act.put, List.setIfInBounds_toArray, List.set_cons_zero, List.set_cons_succ]
  refine seq_take 11 (v := ?_) rfl (by kernel_rfl) (fun _ _ _ h => h) (by rfl) (fun w' hw' => ?_) ?_
  rotate_left
  · go_simp; try with_reducible rfl
  try simp only [List.getElem_toArray, List.getElem_cons_succ, List.getElem_cons_zero, Act.put, List.setIfInBounds_toArray, List.set_cons_zero, List.set_cons_succ]
  refine seq_take 12 (v := ?_) rfl (by kernel_rfl) (fun _ _ _ h => h) (by rfl) (fun w' hw' => ?_) ?_
  rotate_left
  · go_simp; try with_reducible rfl
  try simp only [List.getElem_toArray, List.getElem_cons_succ, List.getElem_cons_zero, Act.put, List.setIfInBounds_toArray, List.set_cons_zero, List.set_cons_succ]
  refine seq_take 13 (v := ?_) rfl (by kernel_rfl) (fun _ _ _ h => h) (by rfl) (fun w' hw' => ?_) ?_
  rotate_left
  · go_simp; try with_reducible rfl
  try simp only [List.getElem_toArray, List.getElem_cons_succ, List.getElem_cons_zero, Act.put, List.setIfInBounds_toArray, List.set_cons_zero, List.set_cons_succ]
  refine seq_done (by kernel_rfl) ?_
  obtain ⟨x, hx⟩ : ∃ x, c.head? = some x := by
    cases hc : c with
    | nil => rw [hc] at HL; have := HL.out; simp at this
    | cons x _ => exact ⟨x, rfl⟩
  obtain ⟨bb, oo, rfl, hcell⟩ : ∃ b o, ao = some ⟨b, o, none⟩ ∧ w1.cell? ⟨b, o, none⟩ = some (u8v x) := by
    obtain ⟨b, o, e, hcl⟩ := H1.out.1.exv 0 (by rw [bytesV_length, HL.out]; decide)
    refine ⟨b, o, e, ?_⟩
    have h0 := bytesV_head c x hx
    rw [List.getElem?_eq_getElem (by rw [bytesV_length, HL.out]; decide)] at h0
    rw [← Option.some.inj h0]
    exact hcl
  have HX := Lib.hid hx
  clear hx
  by_cases hx72 : x = 72
  · subst hx72
    obtain ⟨a, n, b, ha1, ha2, hn, hb, rfl⟩ : ∃ a n b, 1 ≤ a ∧ a < l.age ∧ n ≤ 1000000 ∧ b.length ≤ 1000000 ∧ c = secF a n b := by
      rcases HO.out with h | h
      · exact absurd HX.out h
      · exact h
    have hcell' : w1.cell? ⟨bb, oo, none⟩ = some (.int .u8 72) := hcell
    have hat1 := H1.out.1.dropB cap 1 (by rw [HL.out]; exact hcap)
    obtain ⟨rest, hrest⟩ := secF_drop a n b
    have h511 : ((secF a n b).drop 1).length = 511 := by rw [List.length_drop, HL.out]
    have HAT := Lib.hid (And.intro hat1 (And.intro h511 hrest))
    have HCR := Lib.hid (crc_lt b)
    clear hcell hat1 h511 hrest
    go_wp2_with (refine slice_lo rfl _ _ rfl (some ⟨bb, oo, none⟩) 512 cap 1 rfl rfl (by omega) ?_)
    have hop := open_any (tailOf (some ⟨bb, oo, none⟩) cap 1) ((secF a n b).drop 1) (cap - 1) (by rw [HAT.out.2.1]; omega) w1 HAT.out.1
    rw [HAT.out.2.1] at hop
    refine hop.mono ?_
    clear hop
    rintro e w2 ⟨gi, rfl, hgi, hin2, hb2⟩
    rw [HAT.out.2.2] at hin2
    have H2 := Lib.hid (And.intro hgi (And.intro hin2 hb2))
    have hsz2 := hb2.size
    clear hgi hin2 hb2
    go_wp2_with fail
    refine (inum_any gi _ 1 4611686018427387904 w2 H2.out.2.1).mono ?_
    rintro e w3 ⟨rfl, hin3, hg3⟩
    rw [numR_enc 1 4611686018427387904 a _ (by omega) (by omega) (by omega)] at hin3 ⊢
    have H3 := Lib.hid (And.intro hin3 (Keeps.of_grown (X := fun i => i = gi) hg3 rfl))
    have hsz3 := hg3.size
    clear hin3 hg3
    go_wp2_with fail
    refine (inum_any gi _ 0 4611686018427387904 w3 H3.out.1).mono ?_
    rintro e w4 ⟨rfl, hin4, hg4⟩
    rw [numR_enc 0 4611686018427387904 n _ (by omega) (by omega) (by omega)] at hin4 ⊢
    have H4 := Lib.hid (And.intro hin4 (H3.out.2.trans' (Keeps.of_grown (X := fun i => i = gi) hg4 rfl)))
    have hsz4 := hg4.size
    clear hin4 hg4
    go_wp2_with fail
    refine (inum_any gi _ 0 16777216 w4 H4.out.1).mono ?_
    rintro e w5 ⟨rfl, hin5, hg5⟩
    rw [numR_enc 0 16777216 b.length _ (by omega) (by omega) (by omega)] at hin5 ⊢
    have H5 := Lib.hid (And.intro hin5 (H4.out.2.trans' (Keeps.of_grown (X := fun i => i = gi) hg5 rfl)))
    have hsz5 := hg5.size
    clear hin5 hg5
    go_wp2_with fail
    refine (inum_any gi _ 0 4294967296 w5 H5.out.1).mono ?_
    rintro e w6 ⟨rfl, hin6, hg6⟩
    rw [numR_enc 0 4294967296 (crc b) _ (by omega) (by have := HCR.out; omega) (by have := HCR.out; omega)] at hin6 ⊢
    have hk6 := H5.out.2.trans' (Keeps.of_grown (X := fun i => i = gi) hg6 rfl)
    have hb6 : Below w.heap.size w w6 := ((Below.refl _ w).drew.trans (H1.out.2.mono (by simp))).trans ((H2.out.2.2.mono (by simp only [World.size_drew] at hsz1; omega)).trans (hk6.below (fun i hi e => by have := H2.out.1; simp only [World.size_drew] at hsz1; omega) (by simp only [World.size_drew] at hsz1; omega)))
    have hlog6 : LogAt w6 g d l := H.out.2.below hb6
    have H6 := Lib.hid (And.intro hin6 (And.intro hb6 hlog6))
    have c36 := hlog6.cells.2.2.2.1
    have HC6 := Lib.hid c36
    clear hin6 hg6 hk6 hb6 hlog6 c36
    have hne : ((a : Int) != (l.age : Int)) = true := by simp; omega
    go_wp2_with fail
    refine seq_start (by kernel_rfl) ?_
    refine seq_take 0 (v := ?_) rfl (by kernel_rfl) (fun _ _ _ h => h) (by rfl) (fun w' hw' => ?_) ?_
    rotate_left
    · go_simp; try with_reducible rfl
    try simp only [List.getElem_toArray, List.getElem_cons_succ, List.getElem_cons_zero, Act.put, List.setIfInBounds_toArray, List.set_cons_zero, List.set_cons_succ]
    refine seq_run 1 rfl (by kernel_rfl) (by rfl) (fun KK hKK => ?_)
    go_wp2_with fail
    refine (err_any gi _ w6.drew (H6.out.1.below (Below.refl _ w6).drew)).mono ?_
    rintro e w7 ⟨rfl, rfl⟩
    go_wp2_with fail
    refine ⟨Below.refl _ _, ?_⟩
    refine seq_take 2 (v := ?_) rfl (by kernel_rfl) (fun _ _ _ h => h) (by rfl) (fun w' hw' => ?_) ?_
    rotate_left
    · go_simp; try with_reducible rfl
    try simp only [List.getElem_toArray, List.getElem_cons_succ, List.getElem_cons_zero, Act.put, List.setIfInBounds_toArray, List.set_cons_zero, List.set_cons_succ]
    refine seq_take 3 (v := ?_) rfl (by kernel_rfl) (fun _ _ _ h => h) (by rfl) (fun w' hw' => ?_) ?_
    rotate_left
    · go_simp; try with_reducible rfl
    try simp only [List.getElem_toArray, List.getElem_cons_succ, List.getElem_cons_zero, Act.put, List.setIfInBounds_toArray, List.set_cons_zero, List.set_cons_succ]
    refine seq_take 4 (v := ?_) rfl (by kernel_rfl) (fun _ _ _ h => h) (by rfl) (fun w' hw' => ?_) ?_
    rotate_left
    · go_simp; try with_reducible rfl
    try simp only [List.getElem_toArray, List.getElem_cons_succ, List.getElem_cons_zero, Act.put, List.setIfInBounds_toArray, List.set_cons_zero, List.set_cons_succ]
    refine seq_take 5 (v := ?_) rfl (by kernel_rfl) (fun _ _ _ h => h) (by rfl) (fun w' hw' => ?_) ?_
    rotate_left
    · go_simp; try with_reducible rfl
    try simp only [List.getElem_toArray, List.getElem_cons_succ, List.getElem_cons_zero, Act.put, List.setIfInBounds_toArray, List.set_cons_zero, List.set_cons_succ]
    refine seq_take 6 (v := ?_) rfl (by kernel_rfl) (fun _ _ _ h => h) (by rfl) (fun w' hw' => ?_) ?_
    rotate_left
    · go_simp; try with_reducible rfl
    try simp only [List.getElem_toArray, List.getElem_cons_succ, List.getElem_cons_zero, Act.put, List.setIfInBounds_toArray, List.set_cons_zero, List.set_cons_succ]
    refine seq_take 7 (v := ?_) rfl (by kernel_rfl) (fun _ _ _ h => h) (by rfl) (fun w' hw' => ?_) ?_
    rotate_left
    · go_simp; try with_reducible rfl
    try simp only [List.getElem_toArray, List.getElem_cons_succ, List.getElem_cons_zero, Act.put, List.setIfInBounds_toArray, List.set_cons_zero, List.set_cons_succ]
    refine seq_take 8 rfl (by kernel_rfl) (fun _ _ _ h => h) (by rfl) (seq_ldi rfl rfl ((show w6.drew.cell? ⟨g, 3, none⟩ = _ from HC6.out))) ?_
    try simp only [List.getElem_toArray, List.getElem_cons_succ, List.getElem_cons_zero, Act.put, List.setIfInBounds_toArray, List.set_cons_zero, List.set_cons_succ]
    refine seq_take 9 (v := ?_) rfl (by kernel_rfl) (fun _ _ _ h => h) (by rfl) (fun w' hw' => ?_) ?_
    rotate_left
    · go_simp; try with_reducible rfl
    try simp only [List.getElem_toArray, List.getElem_cons_succ, List.getElem_cons_zero, Act.put, List.setIfInBounds_toArray, List.set_cons_zero, List.set_cons_succ]
    refine seq_take 10 (v := ?_) rfl (by kernel_rfl) (fun _ _ _ h => h) (by rfl) (fun w' hw' => ?_) ?_
    rotate_left
    · go_simp; try with_reducible rfl
    try simp only [List.getElem_toArray, List.getElem_cons_succ, List.getElem_cons_zero, Act.put, List.setIfInBounds_toArray, List.set_cons_zero, List.set_cons_succ]
    refine seq_take 11 (v := ?_) rfl (by kernel_rfl) (fun _ _ _ h => h) (by rfl) (fun w' hw' => ?_) ?_
    rotate_left
    · go_simp; try with_reducible rfl
    try simp only [List.getElem_toArray, List.getElem_cons_succ, List.getElem_cons_zero, Act.put, List.setIfInBounds_toArray, List.set_cons_zero, List.set_cons_succ]
    refine seq_skip 12 rfl (by kernel_rfl) (fun _ _ _ h => h) (by rfl) ?_
    try simp only [List.getElem_toArray, List.getElem_cons_succ, List.getElem_cons_zero, Act.put, List.setIfInBounds_toArray, List.set_cons_zero, List.set_cons_succ]
    refine seq_skip 13 rfl (by kernel_rfl) (fun _ _ _ h => h) (by rfl) ?_
    try simp only [List.getElem_toArray, List.getElem_cons_succ, List.getElem_cons_zero, Act.put, List.setIfInBounds_toArray, List.set_cons_zero, List.set_cons_succ]
    refine seq_skip 14 rfl (by kernel_rfl) (fun _ _ _ h => h) (by rfl) ?_
    try simp only [List.getElem_toArray, List.getElem_cons_succ, List.getElem_cons_zero, Act.put, List.setIfInBounds_toArray, List.set_cons_zero, List.set_cons_succ]
    refine seq_skip 15 rfl (by kernel_rfl) (fun _ _ _ h => h) (by rfl) ?_
    try simp only [List.getElem_toArray, List.getElem_cons_succ, List.getElem_cons_zero, Act.put, List.setIfInBounds_toArray, List.set_cons_zero, List.set_cons_succ]
    refine seq_skip 16 rfl (by kernel_rfl) (fun _ _ _ h => h) (by rfl) ?_
    try simp only [List.getElem_toArray, List.getElem_cons_succ, List.getElem_cons_zero, Act.put, List.setIfInBounds_toArray, List.set_cons_zero, List.set_cons_succ]
    refine seq_skip 17 rfl (by kernel_rfl) (fun _ _ _ h => h) (by rfl) ?_
    try simp only [List.getElem_toArray, List.getElem_cons_succ, List.getElem_cons_zero, Act.put, List.setIfInBounds_toArray, List.set_cons_zero, List.set_cons_succ]
    refine seq_take 18 (v := ?_) rfl (by kernel_rfl) (fun _ _ _ h => h) (by rfl) (fun w' hw' => ?_) ?_
    rotate_left
    · go_simp; try with_reducible rfl
    try simp only [List.getElem_toArray, List.getElem_cons_succ, List.getElem_cons_zero, Act.put, List.setIfInBounds_toArray, List.set_cons_zero, List.set_cons_succ]
    refine seq_take 19 (v := ?_) rfl (by kernel_rfl) (fun _ _ _ h => h) (by rfl) (fun w' hw' => ?_) ?_
    rotate_left
    · go_simp; try with_reducible rfl
    try simp only [List.getElem_toArray, List.getElem_cons_succ, List.getElem_cons_zero, Act.put, List.setIfInBounds_toArray, List.set_cons_zero, List.set_cons_succ]
    refine seq_skip 20 rfl (by kernel_rfl) (fun _ _ _ h => h) (by rfl) ?_
    try simp only [List.getElem_toArray, List.getElem_cons_succ, List.getElem_cons_zero, Act.put, List.setIfInBounds_toArray, List.set_cons_zero, List.set_cons_succ]
    refine seq_skip 21 rfl (by kernel_rfl) (fun _ _ _ h => h) (by rfl) ?_
    try simp only [List.getElem_toArray, List.getElem_cons_succ, List.getElem_cons_zero, Act.put, List.setIfInBounds_toArray, List.set_cons_zero, List.set_cons_succ]
    refine seq_skip 22 rfl (by kernel_rfl) (fun _ _ _ h => h) (by rfl) ?_
    try simp only [List.getElem_toArray, List.getElem_cons_succ, List.getElem_cons_zero, Act.put, List.setIfInBounds_toArray, List.set_cons_zero, List.set_cons_succ]
    refine seq_skip 23 rfl (by kernel_rfl) (fun _ _ _ h => h) (by rfl) ?_
    try simp only [List.getElem_toArray, List.getElem_cons_succ, List.getElem_cons_zero, Act.put, List.setIfInBounds_toArray, List.set_cons_zero, List.set_cons_succ]
    refine seq_skip 24 rfl (by kernel_rfl) (fun _ _ _ h => h) (by rfl) ?_
    try simp only [List.getElem_toArray, List.getElem_cons_succ, List.getElem_cons_zero, Act.put, List.setIfInBounds_toArray, List.set_cons_zero, List.set_cons_succ]
    refine seq_skip 25 rfl (by kernel_rfl) (fun _ _ _ h => h) (by rfl) ?_
    try simp only [List.getElem_toArray, List.getElem_cons_succ, List.getElem_cons_zero, Act.put, List.setIfInBounds_toArray, List.set_cons_zero, List.set_cons_succ]
    refine seq_skip 26 rfl (by kernel_rfl) (fun _ _ _ h => h) (by rfl) ?_
    try simp only [List.getElem_toArray, List.getElem_cons_succ, List.getElem_cons_zero, Act.put, List.setIfInBounds_toArray, List.set_cons_zero, List.set_cons_succ]
    refine seq_skip 27 rfl (by kernel_rfl) (fun _ _ _ h => h) (by rfl) ?_
    try simp only [List.getElem_toArray, List.getElem_cons_succ, List.getElem_cons_zero, Act.put, List.setIfInBounds_toArray, List.set_cons_zero, List.set_cons_succ]
    refine seq_skip 28 rfl (by kernel_rfl) (fun _ _ _ h => h) (by rfl) ?_
    try simp only [List.getElem_toArray, List.getElem_cons_succ, List.getElem_cons_zero, Act.put, List.setIfInBounds_toArray, List.set_cons_zero, List.set_cons_succ]
    refine seq_skip 29 rfl (by kernel_rfl) (fun _ _ _ h => h) (by rfl) ?_
    try simp only [List.getElem_toArray, List.getElem_cons_succ, List.getElem_cons_zero, Act.put, List.setIfInBounds_toArray, List.set_cons_zero, List.set_cons_succ]
    refine seq_skip 30 rfl (by kernel_rfl) (fun _ _ _ h => h) (by rfl) ?_
    try simp only [List.getElem_toArray, List.getElem_cons_succ, List.getElem_cons_zero, Act.put, List.setIfInBounds_toArray, List.set_cons_zero, List.set_cons_succ]
    refine seq_skip 31 rfl (by kernel_rfl) (fun _ _ _ h => h) (by rfl) ?_
    try simp only [List.getElem_toArray, List.getElem_cons_succ, List.getElem_cons_zero, Act.put, List.setIfInBounds_toArray, List.set_cons_zero, List.set_cons_succ]
    refine seq_skip 32 rfl (by kernel_rfl) (fun _ _ _ h => h) (by rfl) ?_
    try simp only [List.getElem_toArray, List.getElem_cons_succ, List.getElem_cons_zero, Act.put, List.setIfInBounds_toArray, List.set_cons_zero, List.set_cons_succ]
    refine seq_take 33 (v := ?_) rfl (by kernel_rfl) (fun _ _ _ h => h) (by rfl) (fun w' hw' => ?_) ?_
    rotate_left
    · go_simp; try with_reducible rfl
    try simp only [List.getElem_toArray, List.getElem_cons_succ, List.getElem_cons_zero, Act.put, List.setIfInBounds_toArray, List.set_cons_zero, List.set_cons_succ]
    refine seq_done (by kernel_rfl) ?_
    go_wp2_with fail
    go_returns
    exact ⟨rfl, H6.out.2.1.drew⟩
  · have hx72' : ((x.toNat : Int) != 72) = true := by
      simp only [bne_iff_ne, ne_eq]
      intro h
      exact hx72 (UInt8.toNat_inj.1 (by rw [show (72 : UInt8).toNat = 72 from rfl]; omega))
    have hcell' : w1.cell? ⟨bb, oo, none⟩ = some (.int .u8 (x.toNat : Int)) := hcell
    clear hcell
    go_wp2_with fail
    go_returns
    exact ⟨rfl, (Below.refl _ w).drew.trans (H1.out.2.mono (by simp))⟩

end Go.Proofs.YtpeehagaiofobaaDoor
