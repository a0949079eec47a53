/- The walk of record where there is one. -/
import Derived.Test.YtpeehagaiofobaaDoorWal4
namespace Go.Proofs.YtpeehagaiofobaaDoor
open Go.RowKit

theorem slice_lhZ {w : World} {ops : Array Oper} {rest : List Oper} {o : Oper} {a : Act} {Q : Exit → Act → World → Prop} (hgd : Region.wanted o (yielded ops a.tmps) = true) (x lo hi : Operand) (ho : o.op = .slice 40 x (some lo) (some hi) none)
    (ao : Option Addr) (n cap i j : Nat) (zi zj : Int) (hi0 : zi = i) (hj0 : zj = j) (hx : a.eval x = .slice ao n cap) (hl : a.eval lo = .int .i64 zi) (hh : a.eval hi = .int .i64 zj) (h1 : i ≤ j) (h2 : j ≤ cap)
    (h : wpList Tryd.prog ops Q rest (a.put o.dst (.slice (tailOf ao cap i) (j - i) (cap - i))) w) : wpList Tryd.prog ops Q (o :: rest) a w := by
  subst hi0
  subst hj0
  exact slice_lh hgd x lo hi ho ao n cap i j hx hl hh h1 h2 h
theorem slice_hiZ {w : World} {ops : Array Oper} {rest : List Oper} {o : Oper} {a : Act} {Q : Exit → Act → World → Prop} (hgd : Region.wanted o (yielded ops a.tmps) = true) (x hi : Operand) (ho : o.op = .slice 40 x none (some hi) none)
    (ao : Option Addr) (n cap j : Nat) (zj : Int) (hj0 : zj = j) (hx : a.eval x = .slice ao n cap) (hh : a.eval hi = .int .i64 zj) (h2 : j ≤ cap)
    (h : wpList Tryd.prog ops Q rest (a.put o.dst (.slice ao j cap)) w) : wpList Tryd.prog ops Q (o :: rest) a w := by
  subst hj0
  refine wpList_go hgd fun K hK => ?_
  have hr := seq_hi (w := w) ho hx hh h2 w (Below.refl _ _)
  unfold Oper.wp
  rw [hr]
  exact hK _ _ h
theorem wreadZ_any {B : Nat} {M I : Nat → Prop} {d : Nat} {s : DS} (w : World) (h : DiskAt B w M I d s) (f cnt n : Nat) (z : Int) (hz : z = n) (hf : f ≤ 1000000000) (hn : n ≤ 1000000000) :
    Calls Tryd.prog 20 #[placeV d f cnt, .int .i64 z] w (Read w (s.readE ((f + n : Nat) : Int))) := by
  subst hz
  exact wread_any w h f cnt n hf hn

theorem take_chunk (b : List UInt8) (k : Nat) : b.take (511 * (k + 1)) = b.take (511 * k) ++ chunk b k := by
  unfold chunk
  rw [Nat.mul_succ, List.take_add]
theorem secP_take (b : List UInt8) (k : Nat) : (secP b k).take ((chunk b k).length + 1) = 68 :: chunk b k := by
  unfold secP padZ
  exact List.take_left' (by simp)
theorem nparts_lt {k n : Nat} (h : k < nparts n) : 511 * k < n := by unfold nparts at h; omega
theorem nparts_take (b : List UInt8) : b.take (511 * nparts b.length) = b := List.take_of_length_le (by unfold nparts; omega)

/-- What a call of record leaves where there is one. -/
def RecOk (w : World) (b : List UInt8) (e : Ending) (w' : World) : Prop :=
  ∃ ao cap, e = .returned (.tuple #[.slice ao b.length cap, .int .i64 (needN b.length : Int), .bool true, .int .i64 0]) ∧ w'.ownsRow w.heap.size 5 1 (.slice ao b.length cap) b.length (bytesV b) ∧ Below w.heap.size w w'

set_option maxRecDepth 100000 in
set_option maxHeartbeats 4000000 in
theorem recordHit_any {B : Nat} {M I : Nat → Prop} {d g : Nat} {s : DS} {l : LS} (w : World) (h : DiskAt B w M I d s) (hoff : s.off = false) (hW : s.W = []) (hl : LogAt w g d l) (hin : l.f + l.cnt ≤ s.L.length) (hL : s.L.length ≤ 1000000) (hage : l.age ≤ 1000000000) (hage1 : 1 ≤ l.age) (hnext : l.next ≤ 1000000) (b : List UInt8) (hb : b.length ≤ 1000000) (hrec : RecAt (secOf s.L l.f) l.age l.at_ l.next b) (hneed : needN b.length ≤ l.cnt - l.at_) (ht : Tab w) :
    Calls Tryd.prog 22 #[.pointer (some ⟨g, 0, none⟩)] w (RecOk w b) := by
  have H := Lib.hid (And.intro h hl)
  have hnp := needN_pos b.length
  have HRD := Lib.hid (fun k (hk : l.f + k < s.L.length) => readE_on s hoff hW l.f k hk)
  have HR := Lib.hid (readE_on s hoff hW l.f l.at_ (by omega))
  have HREC := Lib.hid hrec
  have HNP := Lib.hid (show needN b.length = 1 + nparts b.length from rfl)
  have HLC := Lib.hid (secF_length l.age l.next b (by omega) (by omega) (by omega))
  have HT := Lib.hid ht
  rw [hrec.1] at HR
  obtain ⟨_, _, c2, c3, c4, c5⟩ := hl.cells
  have HC := Lib.hid (And.intro c2 (And.intro c3 (And.intro c4 c5)))
  clear h hoff hW hl c2 c3 c4 c5 hrec ht
  go_enter Tryd.func22, Tryd.ntmps22
  go_wp2_with fail
  refine seq_start (by kernel_rfl) ?_
  refine seq_take 0 (v := ?_) rfl (by kernel_rfl) (fun _ _ _ h => h) (by rfl) (fun w' hw' => ?_) ?_
  rotate_left
  · go_simp; try with_reducible rfl
  try simp only [List.getElem_toArray, List.getElem_cons_succ, List.getElem_cons_zero, Act.put, List.setIfInBounds_toArray, List.set_cons_zero, List.set_cons_succ]
  refine seq_take 1 (v := ?_) rfl (by kernel_rfl) (fun _ _ _ h => h) (by rfl) (fun w' hw' => ?_) ?_
  rotate_left
  · go_simp; try with_reducible rfl
  try simp only [List.getElem_toArray, List.getElem_cons_succ, List.getElem_cons_zero, Act.put, List.setIfInBounds_toArray, List.set_cons_zero, List.set_cons_succ]
  refine seq_take 2 (v := ?_) rfl (by kernel_rfl) (fun _ _ _ h => h) (by rfl) (fun w' hw' => ?_) ?_
  rotate_left
  · go_simp; try with_reducible rfl
  try simp only [List.getElem_toArray, List.getElem_cons_succ, List.getElem_cons_zero, Act.put, List.setIfInBounds_toArray, List.set_cons_zero, List.set_cons_succ]
  refine seq_take 3 rfl (by kernel_rfl) (fun _ _ _ h => h) (by rfl) (seq_ldp rfl rfl (H.out.2.drew)) ?_
  try simp only [List.getElem_toArray, List.getElem_cons_succ, List.getElem_cons_zero, Act.put, List.setIfInBounds_toArray, List.set_cons_zero, List.set_cons_succ]
  refine seq_take 4 (v := ?_) rfl (by kernel_rfl) (fun _ _ _ h => h) (by rfl) (fun w' hw' => ?_) ?_
  rotate_left
  · go_simp; try with_reducible rfl
  try simp only [List.getElem_toArray, List.getElem_cons_succ, List.getElem_cons_zero, Act.put, List.setIfInBounds_toArray, List.set_cons_zero, List.set_cons_succ]
  refine seq_take 5 (v := ?_) rfl (by kernel_rfl) (fun _ _ _ h => h) (by rfl) (fun w' hw' => ?_) ?_
  rotate_left
  · go_simp; try with_reducible rfl
  try simp only [List.getElem_toArray, List.getElem_cons_succ, List.getElem_cons_zero, Act.put, List.setIfInBounds_toArray, List.set_cons_zero, List.set_cons_succ]
  refine seq_take 6 (v := ?_) rfl (by kernel_rfl) (fun _ _ _ h => h) (by rfl) (fun w' hw' => ?_) ?_
  rotate_left
  · go_simp; try with_reducible rfl
  try simp only [List.getElem_toArray, List.getElem_cons_succ, List.getElem_cons_zero, Act.put, List.setIfInBounds_toArray, List.set_cons_zero, List.set_cons_succ]
  refine seq_take 7 rfl (by kernel_rfl) (fun _ _ _ h => h) (by rfl) (seq_ldi rfl rfl ((show w.drew.cell? ⟨g, 5, none⟩ = _ from HC.out.2.2.2))) ?_
  try simp only [List.getElem_toArray, List.getElem_cons_succ, List.getElem_cons_zero, Act.put, List.setIfInBounds_toArray, List.set_cons_zero, List.set_cons_succ]
  refine seq_run 8 rfl (by kernel_rfl) (by rfl) (fun KK hKK => ?_)
  go_wp2_with fail
  refine (wread_any w.drew (H.out.1.below (Below.refl _ w).drew) l.f l.cnt l.at_ (by omega) (by omega)).mono ?_
  rintro e w1 ⟨ao, cap, rfl, hown, hb1⟩
  rw [HR.out] at hown ⊢
  simp only [HLC.out] at hown ⊢
  have hcap : 512 ≤ cap := by
    obtain ⟨_, _, e, h⟩ := owns_form hown
    cases e; exact h
  have H1 := Lib.hid (And.intro (At.own hown) hb1)
  have hsz1 := hb1.size
  simp only [World.size_drew] at hsz1
  clear hown hb1
  go_wp2_with fail
  refine ⟨H1.out.2, ?_⟩
  refine seq_take 9 (v := ?_) rfl (by kernel_rfl) (fun _ _ _ h => h) (by rfl) (fun w' hw' => ?_) ?_
  rotate_left
  · go_simp; try with_reducible rfl
  try simp only [List.getElem_toArray, List.getElem_cons_succ, List.getElem_cons_zero, Act.put, List.setIfInBounds_toArray, List.set_cons_zero, List.set_cons_succ]
  refine seq_take 10 (v := ?_) rfl (by kernel_rfl) (fun _ _ _ h => h) (by rfl) (fun w' hw' => ?_) ?_
  rotate_left
  · go_simp; try with_reducible rfl
  try simp only [List.getElem_toArray, List.getElem_cons_succ, List.getElem_cons_zero, Act.put, List.setIfInBounds_toArray, List.set_cons_zero, List.set_cons_succ]
  refine seq_take 11 (v := ?_) rfl (by kernel_rfl) (fun _ _ _ h => h) (by rfl) (fun w' hw' => ?_) ?_
  rotate_left
  · go_simp; try with_reducible rfl
  try simp only [List.getElem_toArray, List.getElem_cons_succ, List.getElem_cons_zero, Act.put, List.setIfInBounds_toArray, List.set_cons_zero, List.set_cons_succ]
  refine seq_take 12 (v := ?_) rfl (by kernel_rfl) (fun _ _ _ h => h) (by rfl) (fun w' hw' => ?_) ?_
  rotate_left
  · go_simp; try with_reducible rfl
  try simp only [List.getElem_toArray, List.getElem_cons_succ, List.getElem_cons_zero, Act.put, List.setIfInBounds_toArray, List.set_cons_zero, List.set_cons_succ]
  refine seq_take 13 (v := ?_) rfl (by kernel_rfl) (fun _ _ _ h => h) (by rfl) (fun w' hw' => ?_) ?_
  rotate_left
  · go_simp; try with_reducible rfl
  try simp only [List.getElem_toArray, List.getElem_cons_succ, List.getElem_cons_zero, Act.put, List.setIfInBounds_toArray, List.set_cons_zero, List.set_cons_succ]
  refine seq_done (by kernel_rfl) ?_
  obtain ⟨bb, oo, rfl, hcell⟩ : ∃ b o, ao = some ⟨b, o, none⟩ ∧ w1.cell? ⟨b, o, none⟩ = some (.int .u8 72) := by
    obtain ⟨b', o, e, hcl⟩ := H1.out.1.exv 0 (by rw [bytesV_length, HLC.out]; decide)
    refine ⟨b', o, e, ?_⟩
    have h0 := bytesV_head (secF l.age l.next b) 72 (secF_head _ _ _)
    rw [List.getElem?_eq_getElem (by rw [bytesV_length, HLC.out]; decide)] at h0
    rw [show Value.int .u8 72 = u8v 72 from rfl, ← Option.some.inj h0]
    exact hcl
  have hat1 := H1.out.1.dropB cap 1 (by rw [HLC.out]; exact hcap)
  obtain ⟨rest, hrest⟩ := secF_drop l.age l.next b
  have h511 : ((secF l.age l.next b).drop 1).length = 511 := by rw [List.length_drop, HLC.out]
  have HAT := Lib.hid (And.intro hat1 (And.intro h511 hrest))
  have HCR := Lib.hid (crc_lt b)
  clear hat1 h511 hrest
  go_wp2_with (refine slice_lo rfl _ _ rfl (some ⟨bb, oo, none⟩) 512 cap 1 rfl rfl (by omega) ?_)
  have hop := open_any (tailOf (some ⟨bb, oo, none⟩) cap 1) ((secF l.age l.next b).drop 1) (cap - 1) (by rw [HAT.out.2.1]; omega) w1 HAT.out.1
  rw [HAT.out.2.1] at hop
  refine hop.mono ?_
  clear hop hcell
  rintro e w2 ⟨gi, rfl, hgi, hin2, hb2⟩
  rw [HAT.out.2.2] at hin2
  have H2 := Lib.hid (And.intro hgi (And.intro hin2 hb2))
  have hsz2 := hb2.size
  clear hgi hin2 hb2
  go_wp2_with fail
  refine (inum_any gi _ 1 4611686018427387904 w2 H2.out.2.1).mono ?_
  rintro e w3 ⟨rfl, hin3, hg3⟩
  rw [numR_enc 1 4611686018427387904 l.age _ (by omega) (by omega) (by omega)] at hin3 ⊢
  have H3 := Lib.hid (And.intro hin3 (Keeps.of_grown (X := fun i => i = gi) hg3 rfl))
  have hsz3 := hg3.size
  clear hin3 hg3
  go_wp2_with fail
  refine (inum_any gi _ 0 4611686018427387904 w3 H3.out.1).mono ?_
  rintro e w4 ⟨rfl, hin4, hg4⟩
  rw [numR_enc 0 4611686018427387904 l.next _ (by omega) (by omega) (by omega)] at hin4 ⊢
  have H4 := Lib.hid (And.intro hin4 (H3.out.2.trans' (Keeps.of_grown (X := fun i => i = gi) hg4 rfl)))
  have hsz4 := hg4.size
  clear hin4 hg4
  go_wp2_with fail
  refine (inum_any gi _ 0 16777216 w4 H4.out.1).mono ?_
  rintro e w5 ⟨rfl, hin5, hg5⟩
  rw [numR_enc 0 16777216 b.length _ (by omega) (by omega) (by omega)] at hin5 ⊢
  have H5 := Lib.hid (And.intro hin5 (H4.out.2.trans' (Keeps.of_grown (X := fun i => i = gi) hg5 rfl)))
  have hsz5 := hg5.size
  clear hin5 hg5
  go_wp2_with fail
  refine (inum_any gi _ 0 4294967296 w5 H5.out.1).mono ?_
  rintro e w6 ⟨rfl, hin6, hg6⟩
  rw [numR_enc 0 4294967296 (crc b) _ (by omega) (by have := HCR.out; omega) (by have := HCR.out; omega)] at hin6 ⊢
  have hk6 := H5.out.2.trans' (Keeps.of_grown (X := fun i => i = gi) hg6 rfl)
  have hb6 : Below w.heap.size w w6 := ((Below.refl _ w).drew.trans (H1.out.2.mono (by simp))).trans ((H2.out.2.2.mono hsz1).trans (hk6.below (fun i hi e => by have := H2.out.1; omega) (by omega)))
  have hb16 : Below w1.heap.size w1 w6 := H2.out.2.2.trans (hk6.below (fun i hi e => by have := H2.out.1; omega) (by omega))
  have hlog6 : LogAt w6 g d l := H.out.2.below hb6
  have H6 := Lib.hid (And.intro hin6 (And.intro hb6 (And.intro hlog6 (And.intro (H.out.1.below hb6) (H1.out.1.below hb16)))))
  have HC6 := Lib.hid hlog6.cells
  have hsz6 := hb6.size
  clear hin6 hg6 hk6 hb6 hb16 hlog6
  have hwr1 : IntKind.i64.wrap ((l.cnt : Int) - (l.at_ : Int)) = (l.cnt : Int) - l.at_ := by rw [IntKind.wrap_i64]; omega
  have hnd : decide ((l.cnt : Int) - (l.at_ : Int) < (needN b.length : Int)) = false := decide_eq_false (by omega)
  go_wp2_with fail
  refine seq_start (by kernel_rfl) ?_
  refine seq_take 0 (v := ?_) rfl (by kernel_rfl) (fun _ _ _ h => h) (by rfl) (fun w' hw' => ?_) ?_
  rotate_left
  · go_simp; try with_reducible rfl
  try simp only [List.getElem_toArray, List.getElem_cons_succ, List.getElem_cons_zero, Act.put, List.setIfInBounds_toArray, List.set_cons_zero, List.set_cons_succ]
  refine seq_run 1 rfl (by kernel_rfl) (by rfl) (fun KK hKK => ?_)
  go_wp2_with fail
  refine (err_any gi _ w6.drew (H6.out.1.below (Below.refl _ w6).drew)).mono ?_
  rintro e w7 ⟨rfl, rfl⟩
  go_wp2_with fail
  refine ⟨Below.refl _ _, ?_⟩
  refine seq_take 2 (v := ?_) rfl (by kernel_rfl) (fun _ _ _ h => h) (by rfl) (fun w' hw' => ?_) ?_
  rotate_left
  · go_simp; try with_reducible rfl
  try simp only [List.getElem_toArray, List.getElem_cons_succ, List.getElem_cons_zero, Act.put, List.setIfInBounds_toArray, List.set_cons_zero, List.set_cons_succ]
  refine seq_take 3 (v := ?_) rfl (by kernel_rfl) (fun _ _ _ h => h) (by rfl) (fun w' hw' => ?_) ?_
  rotate_left
  · go_simp; try with_reducible rfl
  try simp only [List.getElem_toArray, List.getElem_cons_succ, List.getElem_cons_zero, Act.put, List.setIfInBounds_toArray, List.set_cons_zero, List.set_cons_succ]
  refine seq_take 4 (v := ?_) rfl (by kernel_rfl) (fun _ _ _ h => h) (by rfl) (fun w' hw' => ?_) ?_
  rotate_left
  · go_simp; try with_reducible rfl
  try simp only [List.getElem_toArray, List.getElem_cons_succ, List.getElem_cons_zero, Act.put, List.setIfInBounds_toArray, List.set_cons_zero, List.set_cons_succ]
  refine seq_take 5 (v := ?_) rfl (by kernel_rfl) (fun _ _ _ h => h) (by rfl) (fun w' hw' => ?_) ?_
  rotate_left
  · go_simp; try with_reducible rfl
  try simp only [List.getElem_toArray, List.getElem_cons_succ, List.getElem_cons_zero, Act.put, List.setIfInBounds_toArray, List.set_cons_zero, List.set_cons_succ]
  refine seq_take 6 (v := ?_) rfl (by kernel_rfl) (fun _ _ _ h => h) (by rfl) (fun w' hw' => ?_) ?_
  rotate_left
  · go_simp; try with_reducible rfl
  try simp only [List.getElem_toArray, List.getElem_cons_succ, List.getElem_cons_zero, Act.put, List.setIfInBounds_toArray, List.set_cons_zero, List.set_cons_succ]
  refine seq_take 7 (v := ?_) rfl (by kernel_rfl) (fun _ _ _ h => h) (by rfl) (fun w' hw' => ?_) ?_
  rotate_left
  · go_simp; try with_reducible rfl
  try simp only [List.getElem_toArray, List.getElem_cons_succ, List.getElem_cons_zero, Act.put, List.setIfInBounds_toArray, List.set_cons_zero, List.set_cons_succ]
  refine seq_take 8 rfl (by kernel_rfl) (fun _ _ _ h => h) (by rfl) (seq_ldi rfl rfl ((show w6.drew.cell? ⟨g, 3, none⟩ = _ from HC6.out.2.2.2.1))) ?_
  try simp only [List.getElem_toArray, List.getElem_cons_succ, List.getElem_cons_zero, Act.put, List.setIfInBounds_toArray, List.set_cons_zero, List.set_cons_succ]
  refine seq_take 9 (v := ?_) rfl (by kernel_rfl) (fun _ _ _ h => h) (by rfl) (fun w' hw' => ?_) ?_
  rotate_left
  · go_simp; try with_reducible rfl
  try simp only [List.getElem_toArray, List.getElem_cons_succ, List.getElem_cons_zero, Act.put, List.setIfInBounds_toArray, List.set_cons_zero, List.set_cons_succ]
  refine seq_take 10 (v := ?_) rfl (by kernel_rfl) (fun _ _ _ h => h) (by rfl) (fun w' hw' => ?_) ?_
  rotate_left
  · go_simp; try with_reducible rfl
  try simp only [List.getElem_toArray, List.getElem_cons_succ, List.getElem_cons_zero, Act.put, List.setIfInBounds_toArray, List.set_cons_zero, List.set_cons_succ]
  refine seq_take 11 (v := ?_) rfl (by kernel_rfl) (fun _ _ _ h => h) (by rfl) (fun w' hw' => ?_) ?_
  rotate_left
  · go_simp; try with_reducible rfl
  try simp only [List.getElem_toArray, List.getElem_cons_succ, List.getElem_cons_zero, Act.put, List.setIfInBounds_toArray, List.set_cons_zero, List.set_cons_succ]
  refine seq_take 12 (v := ?_) rfl (by kernel_rfl) (fun _ _ _ h => h) (by rfl) (fun w' hw' => ?_) ?_
  rotate_left
  · go_simp; try with_reducible rfl
  try simp only [List.getElem_toArray, List.getElem_cons_succ, List.getElem_cons_zero, Act.put, List.setIfInBounds_toArray, List.set_cons_zero, List.set_cons_succ]
  refine seq_take 13 (v := ?_) rfl (by kernel_rfl) (fun _ _ _ h => h) (by rfl) (fun w' hw' => ?_) ?_
  rotate_left
  · go_simp; try with_reducible rfl
  try simp only [List.getElem_toArray, List.getElem_cons_succ, List.getElem_cons_zero, Act.put, List.setIfInBounds_toArray, List.set_cons_zero, List.set_cons_succ]
  refine seq_take 14 (v := ?_) rfl (by kernel_rfl) (fun _ _ _ h => h) (by rfl) (fun w' hw' => ?_) ?_
  rotate_left
  · go_simp; try with_reducible rfl
  try simp only [List.getElem_toArray, List.getElem_cons_succ, List.getElem_cons_zero, Act.put, List.setIfInBounds_toArray, List.set_cons_zero, List.set_cons_succ]
  refine seq_take 15 (v := ?_) rfl (by kernel_rfl) (fun _ _ _ h => h) (by rfl) (fun w' hw' => ?_) ?_
  rotate_left
  · go_simp; try with_reducible rfl
  try simp only [List.getElem_toArray, List.getElem_cons_succ, List.getElem_cons_zero, Act.put, List.setIfInBounds_toArray, List.set_cons_zero, List.set_cons_succ]
  refine seq_take 16 rfl (by kernel_rfl) (fun _ _ _ h => h) (by rfl) (seq_ldi rfl rfl ((show w6.drew.cell? ⟨g, 4, none⟩ = _ from HC6.out.2.2.2.2.1))) ?_
  try simp only [List.getElem_toArray, List.getElem_cons_succ, List.getElem_cons_zero, Act.put, List.setIfInBounds_toArray, List.set_cons_zero, List.set_cons_succ]
  refine seq_take 17 (v := ?_) rfl (by kernel_rfl) (fun _ _ _ h => h) (by rfl) (fun w' hw' => ?_) ?_
  rotate_left
  · go_simp; try with_reducible rfl
  try simp only [List.getElem_toArray, List.getElem_cons_succ, List.getElem_cons_zero, Act.put, List.setIfInBounds_toArray, List.set_cons_zero, List.set_cons_succ]
  refine seq_take 18 (v := ?_) rfl (by kernel_rfl) (fun _ _ _ h => h) (by rfl) (fun w' hw' => ?_) ?_
  rotate_left
  · go_simp; try with_reducible rfl
  try simp only [List.getElem_toArray, List.getElem_cons_succ, List.getElem_cons_zero, Act.put, List.setIfInBounds_toArray, List.set_cons_zero, List.set_cons_succ]
  refine seq_take 19 (v := ?_) rfl (by kernel_rfl) (fun _ _ _ h => h) (by rfl) (fun w' hw' => ?_) ?_
  rotate_left
  · go_simp; try with_reducible rfl
  try simp only [List.getElem_toArray, List.getElem_cons_succ, List.getElem_cons_zero, Act.put, List.setIfInBounds_toArray, List.set_cons_zero, List.set_cons_succ]
  refine seq_take 20 (v := ?_) rfl (by kernel_rfl) (fun _ _ _ h => h) (by rfl) (fun w' hw' => ?_) ?_
  rotate_left
  · go_simp; try with_reducible rfl
  try simp only [List.getElem_toArray, List.getElem_cons_succ, List.getElem_cons_zero, Act.put, List.setIfInBounds_toArray, List.set_cons_zero, List.set_cons_succ]
  refine seq_take 22 (v := ?_) rfl (by kernel_rfl) (fun _ _ _ h => h) (by rfl) (fun w' hw' => ?_) ?_
  rotate_left
  · go_simp; try with_reducible rfl
  try simp only [List.getElem_toArray, List.getElem_cons_succ, List.getElem_cons_zero, Act.put, List.setIfInBounds_toArray, List.set_cons_zero, List.set_cons_succ]
  refine seq_take 23 (v := ?_) rfl (by kernel_rfl) (fun _ _ _ h => h) (by rfl) (fun w' hw' => ?_) ?_
  rotate_left
  · go_simp; try with_reducible rfl
  try simp only [List.getElem_toArray, List.getElem_cons_succ, List.getElem_cons_zero, Act.put, List.setIfInBounds_toArray, List.set_cons_zero, List.set_cons_succ]
  refine seq_take 24 (v := ?_) rfl (by kernel_rfl) (fun _ _ _ h => h) (by rfl) (fun w' hw' => ?_) ?_
  rotate_left
  · go_simp; try with_reducible rfl
  try simp only [List.getElem_toArray, List.getElem_cons_succ, List.getElem_cons_zero, Act.put, List.setIfInBounds_toArray, List.set_cons_zero, List.set_cons_succ]
  refine seq_take 25 (v := ?_) rfl (by kernel_rfl) (fun _ _ _ h => h) (by rfl) (fun w' hw' => ?_) ?_
  rotate_left
  · go_simp; try with_reducible rfl
  try simp only [List.getElem_toArray, List.getElem_cons_succ, List.getElem_cons_zero, Act.put, List.setIfInBounds_toArray, List.set_cons_zero, List.set_cons_succ]
  refine seq_take 26 rfl (by kernel_rfl) (fun _ _ _ h => h) (by rfl) (seq_ldi rfl rfl ((show w6.drew.cell? ⟨g, 2, none⟩ = _ from HC6.out.2.2.1))) ?_
  try simp only [List.getElem_toArray, List.getElem_cons_succ, List.getElem_cons_zero, Act.put, List.setIfInBounds_toArray, List.set_cons_zero, List.set_cons_succ]
  refine seq_take 27 (v := ?_) rfl (by kernel_rfl) (fun _ _ _ h => h) (by rfl) (fun w' hw' => ?_) ?_
  rotate_left
  · go_simp; try with_reducible rfl
  try simp only [List.getElem_toArray, List.getElem_cons_succ, List.getElem_cons_zero, Act.put, List.setIfInBounds_toArray, List.set_cons_zero, List.set_cons_succ]
  refine seq_take 28 (v := ?_) rfl (by kernel_rfl) (fun _ _ _ h => h) (by rfl) (fun w' hw' => ?_) ?_
  rotate_left
  · go_simp; try with_reducible rfl
  try simp only [List.getElem_toArray, List.getElem_cons_succ, List.getElem_cons_zero, Act.put, List.setIfInBounds_toArray, List.set_cons_zero, List.set_cons_succ]
  refine seq_take 29 (v := ?_) rfl (by kernel_rfl) (fun _ _ _ h => h) (by rfl) (fun w' hw' => ?_) ?_
  rotate_left
  · go_simp; try with_reducible rfl
  try simp only [List.getElem_toArray, List.getElem_cons_succ, List.getElem_cons_zero, Act.put, List.setIfInBounds_toArray, List.set_cons_zero, List.set_cons_succ]
  refine seq_take 30 rfl (by kernel_rfl) (fun _ _ _ h => h) (by rfl) (seq_ldi rfl rfl ((show w6.drew.cell? ⟨g, 5, none⟩ = _ from HC6.out.2.2.2.2.2))) ?_
  try simp only [List.getElem_toArray, List.getElem_cons_succ, List.getElem_cons_zero, Act.put, List.setIfInBounds_toArray, List.set_cons_zero, List.set_cons_succ]
  refine seq_take 31 (v := ?_) rfl (by kernel_rfl) (fun _ _ _ h => h) (by rfl) (fun w' hw' => ?_) ?_
  rotate_left
  · go_simp; try with_reducible rfl
  try simp only [List.getElem_toArray, List.getElem_cons_succ, List.getElem_cons_zero, Act.put, List.setIfInBounds_toArray, List.set_cons_zero, List.set_cons_succ]
  refine seq_run 21 rfl (by kernel_rfl) (by rfl) (fun KK hKK => ?_)
  go_wp2_with fail
  refine (need_any b.length (by omega) w6.drew).mono ?_
  rintro e w7 ⟨rfl, rfl⟩
  go_wp2_with fail
  refine ⟨Below.refl _ _, ?_⟩
  refine seq_take 32 (v := ?_) rfl (by kernel_rfl) (fun _ _ _ h => h) (by rfl) (fun w' hw' => ?_) ?_
  rotate_left
  · go_simp; try with_reducible rfl
  try simp only [List.getElem_toArray, List.getElem_cons_succ, List.getElem_cons_zero, Act.put, List.setIfInBounds_toArray, List.set_cons_zero, List.set_cons_succ]
  refine seq_take 33 (v := ?_) rfl (by kernel_rfl) (fun _ _ _ h => h) (by rfl) (fun w' hw' => ?_) ?_
  rotate_left
  · go_simp; try with_reducible rfl
  try simp only [List.getElem_toArray, List.getElem_cons_succ, List.getElem_cons_zero, Act.put, List.setIfInBounds_toArray, List.set_cons_zero, List.set_cons_succ]
  refine seq_done (by kernel_rfl) ?_
  go_wp2_with fail
  clear hwr1 hnd
  have H7 := Lib.hid (And.intro (H6.out.2.1.drew) (And.intro H6.out.2.2.1.drew (And.intro (H6.out.2.2.2.1.below (Below.refl _ w6).drew) (H6.out.2.2.2.2.below (Below.refl _ w6).drew))))
  generalize w6.drew = w7 at *
  have hsz7 := H7.out.1.size
  go_loopw [12, 13] (fun v12 v13 wr => ∃ (k q : Nat) (ao : Option Addr) (cap : Nat), k ≤ nparts b.length ∧ Hid (q = (b.take (511 * k)).length) ∧ v13 = .int .i64 (((k + 1 : Nat)) : Int) ∧ v12 = .slice ao q cap ∧ wr.ownsRow w7.heap.size 5 1 (.slice ao q cap) q (bytesV (b.take (511 * k))) ∧ Below w7.heap.size w7 wr) (fun _ v13 _ => needN b.length + 1 - (intOf v13).toNat)
  case atStart => exact ⟨0, 0, none, 0, Nat.zero_le _, Lib.hid (by simp), rfl, rfl, World.ownsRow_nil _ _ _ _, Below.refl _ _⟩
  case round =>
    obtain ⟨k, q, ao, capq, hk, HQ, rfl, rfl, hown, hbr⟩ := hrel
    have HO := Lib.hid (And.intro hown hbr)
    have hszr := hbr.size
    clear hown hbr
    go_wp2_with fail
    refine (need_any b.length (by omega) wr).mono ?_
    rintro e w8 ⟨rfl, rfl⟩
    by_cases hlt : k < nparts b.length
    · have hcond : decide ((k : Int) + 1 < (needN b.length : Int)) = true := decide_eq_true (by have := HNP.out; omega)
      have HDr := Lib.hid (And.intro (H7.out.2.2.1.below (HO.out.2)) (H7.out.2.1.below HO.out.2))
      have hsum : IntKind.i64.wrap ((l.at_ : Int) + ((k : Int) + 1)) = (l.at_ : Int) + ((k : Int) + 1) := by rw [IntKind.wrap_i64]; have := HNP.out; omega
      have HNX := Lib.hid HNP.out
      have hkb : k ≤ 1000000 := by have := HNP.out; omega
      go_wp2_with fail
      refine seq_start (by kernel_rfl) ?_
      refine seq_take 0 (v := ?_) rfl (by kernel_rfl) (fun _ _ _ h => h) (by rfl) (fun w' hw' => ?_) ?_
      rotate_left
      · go_simp; try with_reducible rfl
      try simp only [List.getElem_toArray, List.getElem_cons_succ, List.getElem_cons_zero, Act.put, List.setIfInBounds_toArray, List.set_cons_zero, List.set_cons_succ]
      refine seq_take 1 (v := ?_) rfl (by kernel_rfl) (fun _ _ _ h => h) (by rfl) (fun w' hw' => ?_) ?_
      rotate_left
      · go_simp; try with_reducible rfl
      try simp only [List.getElem_toArray, List.getElem_cons_succ, List.getElem_cons_zero, Act.put, List.setIfInBounds_toArray, List.set_cons_zero, List.set_cons_succ]
      refine seq_take 2 (v := ?_) rfl (by kernel_rfl) (fun _ _ _ h => h) (by rfl) (fun w' hw' => ?_) ?_
      rotate_left
      · go_simp; try with_reducible rfl
      try simp only [List.getElem_toArray, List.getElem_cons_succ, List.getElem_cons_zero, Act.put, List.setIfInBounds_toArray, List.set_cons_zero, List.set_cons_succ]
      refine seq_take 3 rfl (by kernel_rfl) (fun _ _ _ h => h) (by rfl) (seq_ldp rfl rfl (HDr.out.2.drew)) ?_
      try simp only [List.getElem_toArray, List.getElem_cons_succ, List.getElem_cons_zero, Act.put, List.setIfInBounds_toArray, List.set_cons_zero, List.set_cons_succ]
      refine seq_take 4 (v := ?_) rfl (by kernel_rfl) (fun _ _ _ h => h) (by rfl) (fun w' hw' => ?_) ?_
      rotate_left
      · go_simp; try with_reducible rfl
      try simp only [List.getElem_toArray, List.getElem_cons_succ, List.getElem_cons_zero, Act.put, List.setIfInBounds_toArray, List.set_cons_zero, List.set_cons_succ]
      refine seq_take 5 (v := ?_) rfl (by kernel_rfl) (fun _ _ _ h => h) (by rfl) (fun w' hw' => ?_) ?_
      rotate_left
      · go_simp; try with_reducible rfl
      try simp only [List.getElem_toArray, List.getElem_cons_succ, List.getElem_cons_zero, Act.put, List.setIfInBounds_toArray, List.set_cons_zero, List.set_cons_succ]
      refine seq_take 6 (v := ?_) rfl (by kernel_rfl) (fun _ _ _ h => h) (by rfl) (fun w' hw' => ?_) ?_
      rotate_left
      · go_simp; try with_reducible rfl
      try simp only [List.getElem_toArray, List.getElem_cons_succ, List.getElem_cons_zero, Act.put, List.setIfInBounds_toArray, List.set_cons_zero, List.set_cons_succ]
      refine seq_take 7 rfl (by kernel_rfl) (fun _ _ _ h => h) (by rfl) (seq_ldi rfl rfl ((show wr.drew.cell? ⟨g, 5, none⟩ = _ from HDr.out.2.cells.2.2.2.2.2))) ?_
      try simp only [List.getElem_toArray, List.getElem_cons_succ, List.getElem_cons_zero, Act.put, List.setIfInBounds_toArray, List.set_cons_zero, List.set_cons_succ]
      refine seq_take 8 (v := ?_) rfl (by kernel_rfl) (fun _ _ _ h => h) (by rfl) (fun w' hw' => ?_) ?_
      rotate_left
      · go_simp; try with_reducible rfl
      try simp only [List.getElem_toArray, List.getElem_cons_succ, List.getElem_cons_zero, Act.put, List.setIfInBounds_toArray, List.set_cons_zero, List.set_cons_succ]
      refine seq_take 9 (v := ?_) rfl (by kernel_rfl) (fun _ _ _ h => h) (by rfl) (fun w' hw' => ?_) ?_
      rotate_left
      · go_simp; try with_reducible rfl
      try simp only [List.getElem_toArray, List.getElem_cons_succ, List.getElem_cons_zero, Act.put, List.setIfInBounds_toArray, List.set_cons_zero, List.set_cons_succ]
      refine seq_run 10 rfl (by kernel_rfl) (by rfl) (fun KK hKK => ?_)
      go_wp2_with fail
      refine (wreadZ_any wr.drew (HDr.out.1.below (Below.refl _ wr).drew) l.f l.cnt (l.at_ + 1 + k) _ (by omega) (by omega) (by have := HNX.out; omega)).mono ?_
      rintro e w9 ⟨po, pcap, rfl, hownp, hb9⟩
      have hrd := HRD.out (l.at_ + 1 + k) (by have := HNX.out; omega)
      rw [HREC.out.2 k hlt] at hrd
      rw [hrd] at hownp ⊢
      simp only [secP_length] at hownp ⊢
      have hpcap : 512 ≤ pcap := by
        obtain ⟨_, _, e, h⟩ := owns_form hownp
        cases e; exact h
      have hatp := At.own hownp
      obtain ⟨pb, po', rfl, hcellp⟩ : ∃ b o, po = some ⟨b, o, none⟩ ∧ w9.cell? ⟨b, o, none⟩ = some (.int .u8 68) := by
        obtain ⟨b', o, e, hcl⟩ := hatp.exv 0 (by rw [bytesV_length, secP_length]; decide)
        refine ⟨b', o, e, ?_⟩
        have h0 := bytesV_head (secP b k) 68 (secP_head _ _)
        rw [List.getElem?_eq_getElem (by rw [bytesV_length, secP_length]; decide)] at h0
        rw [show Value.int .u8 68 = u8v 68 from rfl, ← Option.some.inj h0]
        exact hcl
      have hb9' : Below wr.heap.size wr w9 := below_drew hb9
      have H9 := Lib.hid (And.intro hatp (And.intro hb9' hb9))
      have hsz9 := hb9'.size
      have HOK := Lib.hid (owns_below HO.out.1 hb9')
      clear hrd hownp hatp hb9 hb9' hsum
      go_wp2_with fail
      refine ⟨H9.out.2.2, ?_⟩
      refine seq_take 11 (v := ?_) rfl (by kernel_rfl) (fun _ _ _ h => h) (by rfl) (fun w' hw' => ?_) ?_
      rotate_left
      · go_simp; try with_reducible rfl
      try simp only [List.getElem_toArray, List.getElem_cons_succ, List.getElem_cons_zero, Act.put, List.setIfInBounds_toArray, List.set_cons_zero, List.set_cons_succ]
      refine seq_take 12 (v := ?_) rfl (by kernel_rfl) (fun _ _ _ h => h) (by rfl) (fun w' hw' => ?_) ?_
      rotate_left
      · go_simp; try with_reducible rfl
      try simp only [List.getElem_toArray, List.getElem_cons_succ, List.getElem_cons_zero, Act.put, List.setIfInBounds_toArray, List.set_cons_zero, List.set_cons_succ]
      refine seq_take 13 (v := ?_) rfl (by kernel_rfl) (fun _ _ _ h => h) (by rfl) (fun w' hw' => ?_) ?_
      rotate_left
      · go_simp; try with_reducible rfl
      try simp only [List.getElem_toArray, List.getElem_cons_succ, List.getElem_cons_zero, Act.put, List.setIfInBounds_toArray, List.set_cons_zero, List.set_cons_succ]
      refine seq_take 14 (v := ?_) rfl (by kernel_rfl) (fun _ _ _ h => h) (by rfl) (fun w' hw' => ?_) ?_
      rotate_left
      · go_simp; try with_reducible rfl
      try simp only [List.getElem_toArray, List.getElem_cons_succ, List.getElem_cons_zero, Act.put, List.setIfInBounds_toArray, List.set_cons_zero, List.set_cons_succ]
      refine seq_take 15 (v := ?_) rfl (by kernel_rfl) (fun _ _ _ h => h) (by rfl) (fun w' hw' => ?_) ?_
      rotate_left
      · go_simp; try with_reducible rfl
      try simp only [List.getElem_toArray, List.getElem_cons_succ, List.getElem_cons_zero, Act.put, List.setIfInBounds_toArray, List.set_cons_zero, List.set_cons_succ]
      refine seq_done (by kernel_rfl) ?_
      have hql := HQ.out
      rw [List.length_take] at hql
      have hklt := nparts_lt hlt
      have hq : q = 511 * k := by omega
      have HCH := Lib.hid (chunk_length b k)
      obtain ⟨r, hr⟩ : ∃ r, (chunk b k).length = r := ⟨_, rfl⟩
      have hmin : min (511 : Int) ((b.length : Int) - (q : Int)) = (r : Int) := by have := HCH.out; omega
      have hr511 : r ≤ 511 := by have := HCH.out; omega
      have HQ2 := Lib.hid (And.intro hq hr)
      have hqb : q ≤ b.length := by omega
      clear hql hq hr hklt
      have HM := Lib.hid hmin
      clear hmin
      go_wp2_with (first | (refine op_min2 rfl _ _ _ rfl .i64 _ _ (r : Int) rfl rfl HM.out ?_) | (refine slice_hiZ rfl _ _ rfl (some ⟨pb, po', none⟩) 512 pcap (r + 1) _ (by omega) rfl rfl (by omega) ?_))
      have hatm : At w9 (some ⟨pb, po', none⟩) (bytesV (68 :: chunk b k)) := by
        have := H9.out.1.takeB ((chunk b k).length + 1)
        rwa [secP_take] at this
      have HATM := Lib.hid hatm
      clear hatm
      refine (is_any (some ⟨pb, po', none⟩) (some ⟨pb, po', none⟩) pcap pcap _ (secP b k) (68 :: chunk b k) (secP_length b k) hpcap (by simp [HQ2.out.2]) (by simp [HQ2.out.2]; omega) w9 H9.out.1 HATM.out).mono ?_
      rintro e w10 ⟨rfl, hb10⟩
      rw [decide_eq_true (show secP b k = padZ (68 :: chunk b k) from rfl)]
      have hatc : At w10 (tailOf (some ⟨pb, po', none⟩) pcap 1) (bytesV (chunk b k)) := by
        have := (HATM.out.below hb10).dropB pcap 1 (by simp [HQ2.out.2]; omega)
        exact this
      have H10 := Lib.hid (And.intro hatc hb10)
      have hsz10 := hb10.size
      have HOK2 := Lib.hid (owns_below HOK.out hb10)
      clear hatc hb10
      go_wp2_with (first | (refine slice_lhZ rfl _ _ _ rfl (some ⟨pb, po', none⟩) 512 pcap 1 (r + 1) _ _ (by omega) (by omega) rfl rfl rfl (by omega) (by omega) ?_) | (at_builtin; refine app_bytes rfl _ _ rfl w7.heap.size ao capq (b.take (511 * k)) q rfl HOK2.out _ _ _ (chunk b k) rfl H10.out.1 (by rw [HQ2.out.2]; omega) (by omega) (by omega) ?_; rintro ao' cap' w11 ⟨q1, q2, q3⟩))
      go_roundw
      case rel =>
        have hlen : q + r = (b.take (511 * (k + 1))).length := by rw [take_chunk, List.length_append, HQ2.out.2, HQ.out]
        rw [← take_chunk] at q1
        rw [← hlen] at q1
        have hb711 : Below w7.heap.size w7 w11 := (HO.out.2.trans ((H9.out.2.1.trans (H10.out.2.mono hsz9)).mono hszr)).trans (below_grown HOK2.out (by omega) q2)
        exact ⟨k + 1, q + r, ao', cap', by omega, Lib.hid hlen, by simp, by simp, q1, hb711⟩
      case measure => simp [intOf]; have := HNX.out; omega
    · have hkk : k = nparts b.length := by omega
      subst hkk
      have hcond : decide (((nparts b.length : Nat) : Int) + 1 < (needN b.length : Int)) = false := decide_eq_false (by have := HNP.out; omega)
      have hqb : q = b.length := by rw [HQ.out, nparts_take]
      subst hqb
      have hown := HO.out.1
      rw [nparts_take] at hown
      have HB := Lib.hid (And.intro hown (At.own hown))
      clear hown
      go_wp2_with fail
      refine (need_any b.length (by omega) wr).mono ?_
      rintro e w8 ⟨rfl, rfl⟩
      go_wp2_with fail
      refine (first_any l.age l.next (by omega) (by omega) ao _ capq b rfl hb wr HB.out.2 (HT.out.below (H7.out.1.trans (HO.out.2.mono hsz7)))).mono ?_
      rintro e w9 ⟨fo, fcap, rfl, hownf, hb9⟩
      have HF := Lib.hid (And.intro (At.own hownf) hb9)
      have hsz9 := hb9.size
      have hfl := firstL_length l.age l.next b (by omega) (by omega) (by omega)
      clear hownf hb9
      go_wp2_with fail
      refine (is_any (some ⟨bb, oo, none⟩) fo cap fcap _ (secF l.age l.next b) (firstL l.age l.next b) HLC.out hcap rfl (by omega) w9 ((H7.out.2.2.2.below HO.out.2).below HF.out.2) HF.out.1).mono ?_
      rintro e w10 ⟨rfl, hb10⟩
      rw [decide_eq_true (show secF l.age l.next b = padZ (firstL l.age l.next b) from rfl)]
      have H10 := Lib.hid (HF.out.2.trans (hb10.mono hsz9))
      clear hb10
      go_wp2_with fail
      go_returns
      exact ⟨ao, capq, rfl, owns_mono (owns_below HB.out.1 H10.out) hsz7, H7.out.1.trans ((HO.out.2.trans (H10.out.mono hszr)).mono hsz7)⟩

end Go.Proofs.YtpeehagaiofobaaDoor
