/- The calls on no log; the law's helpers sectors and bytes. -/
import Derived.Test.YtnonhmjfhcmpgaaDoorWalU
import Derived.Test.YtnonhmjfhcmpgaaDoorWalImg
import Derived.Test.YtnonhmjfhcmpgaaDoorConvB
namespace Go.Proofs.YtnonhmjfhcmpgaaDoor
open Go.RowKit

theorem nolog_any (w : World) : Calls Tryd.prog 25 #[] w fun e w' => e = .returned (.pointer none) ∧ w = w' := by
  go_enter Tryd.func25, Tryd.ntmps25
  go_wp2_with fail
  go_ret
  exact ⟨rfl, rfl⟩
theorem truncNil_any (w : World) : Calls Tryd.prog 15 #[.pointer none] w fun e w' => e = .returned (.int .i64 1) ∧ Below w.heap.size w w' := by
  go_enter Tryd.func15, Tryd.ntmps15
  go_wp2_with fail
  go_returns
  exact ⟨rfl, by first | exact Below.refl _ _ | exact (Below.refl _ w).alloc (Nat.le_refl _) _⟩
theorem ageNil_any (w : World) : Calls Tryd.prog 18 #[.pointer none] w fun e w' => e = .returned (.int .i64 0) ∧ Below w.heap.size w w' := by
  go_enter Tryd.func18, Tryd.ntmps18
  go_wp2_with fail
  go_returns
  exact ⟨rfl, by first | exact Below.refl _ _ | exact (Below.refl _ w).alloc (Nat.le_refl _) _⟩
theorem roomNil_any (w : World) : Calls Tryd.prog 22 #[.pointer none] w fun e w' => e = .returned (.int .i64 (-1)) ∧ Below w.heap.size w w' := by
  go_enter Tryd.func22, Tryd.ntmps22
  go_wp2_with fail
  refine seq_start (by kernel_rfl) ?_
  refine seq_take 0 (v := ?_) rfl (by kernel_rfl) (fun _ _ _ h => h) (by rfl) (fun w' hw' => ?_) ?_
  rotate_left
  · go_simp; try with_reducible rfl
  try simp only [List.getElem_toArray, List.getElem_cons_succ, List.getElem_cons_zero, Act.put, List.setIfInBounds_toArray, List.set_cons_zero, List.set_cons_succ]
  refine seq_take 1 (v := ?_) rfl (by kernel_rfl) (fun _ _ _ h => h) (by rfl) (fun w' hw' => ?_) ?_
  rotate_left
  · go_simp; try with_reducible rfl
  try simp only [List.getElem_toArray, List.getElem_cons_succ, List.getElem_cons_zero, Act.put, List.setIfInBounds_toArray, List.set_cons_zero, List.set_cons_succ]
  refine seq_take 2 (v := ?_) rfl (by kernel_rfl) (fun _ _ _ h => h) (by rfl) (fun w' hw' => ?_) ?_
  rotate_left
  · go_simp; try with_reducible rfl
  try simp only [List.getElem_toArray, List.getElem_cons_succ, List.getElem_cons_zero, Act.put, List.setIfInBounds_toArray, List.set_cons_zero, List.set_cons_succ]
  refine seq_skip 3 rfl (by kernel_rfl) (fun _ _ _ h => h) (by rfl) ?_
  try simp only [List.getElem_toArray, List.getElem_cons_succ, List.getElem_cons_zero, Act.put, List.setIfInBounds_toArray, List.set_cons_zero, List.set_cons_succ]
  refine seq_skip 4 rfl (by kernel_rfl) (fun _ _ _ h => h) (by rfl) ?_
  try simp only [List.getElem_toArray, List.getElem_cons_succ, List.getElem_cons_zero, Act.put, List.setIfInBounds_toArray, List.set_cons_zero, List.set_cons_succ]
  refine seq_skip 5 rfl (by kernel_rfl) (fun _ _ _ h => h) (by rfl) ?_
  try simp only [List.getElem_toArray, List.getElem_cons_succ, List.getElem_cons_zero, Act.put, List.setIfInBounds_toArray, List.set_cons_zero, List.set_cons_succ]
  refine seq_skip 6 rfl (by kernel_rfl) (fun _ _ _ h => h) (by rfl) ?_
  try simp only [List.getElem_toArray, List.getElem_cons_succ, List.getElem_cons_zero, Act.put, List.setIfInBounds_toArray, List.set_cons_zero, List.set_cons_succ]
  refine seq_skip 7 rfl (by kernel_rfl) (fun _ _ _ h => h) (by rfl) ?_
  try simp only [List.getElem_toArray, List.getElem_cons_succ, List.getElem_cons_zero, Act.put, List.setIfInBounds_toArray, List.set_cons_zero, List.set_cons_succ]
  refine seq_skip 8 rfl (by kernel_rfl) (fun _ _ _ h => h) (by rfl) ?_
  try simp only [List.getElem_toArray, List.getElem_cons_succ, List.getElem_cons_zero, Act.put, List.setIfInBounds_toArray, List.set_cons_zero, List.set_cons_succ]
  refine seq_skip 9 rfl (by kernel_rfl) (fun _ _ _ h => h) (by rfl) ?_
  try simp only [List.getElem_toArray, List.getElem_cons_succ, List.getElem_cons_zero, Act.put, List.setIfInBounds_toArray, List.set_cons_zero, List.set_cons_succ]
  refine seq_skip 10 rfl (by kernel_rfl) (fun _ _ _ h => h) (by rfl) ?_
  try simp only [List.getElem_toArray, List.getElem_cons_succ, List.getElem_cons_zero, Act.put, List.setIfInBounds_toArray, List.set_cons_zero, List.set_cons_succ]
  refine seq_skip 11 rfl (by kernel_rfl) (fun _ _ _ h => h) (by rfl) ?_
  try simp only [List.getElem_toArray, List.getElem_cons_succ, List.getElem_cons_zero, Act.put, List.setIfInBounds_toArray, List.set_cons_zero, List.set_cons_succ]
  refine seq_skip 12 rfl (by kernel_rfl) (fun _ _ _ h => h) (by rfl) ?_
  try simp only [List.getElem_toArray, List.getElem_cons_succ, List.getElem_cons_zero, Act.put, List.setIfInBounds_toArray, List.set_cons_zero, List.set_cons_succ]
  refine seq_take 13 (v := ?_) rfl (by kernel_rfl) (fun _ _ _ h => h) (by rfl) (fun w' hw' => ?_) ?_
  rotate_left
  · go_simp; try with_reducible rfl
  try simp only [List.getElem_toArray, List.getElem_cons_succ, List.getElem_cons_zero, Act.put, List.setIfInBounds_toArray, List.set_cons_zero, List.set_cons_succ]
  refine seq_done (by kernel_rfl) ?_
  go_wp2_with fail
  go_returns
  exact ⟨rfl, (Below.refl _ _).drew⟩

theorem img_cut : ∀ (L : List (Option (List UInt8))), (∀ b, some b ∈ L → b.length = 512) → ∀ k, k < L.length → ((imgL L).drop (k * 512)).take 512 = (L.getD k none).getD zeros
  | [], _, k, hk => absurd hk (Nat.not_lt_zero _)
  | x :: L, h, k, hk => by
    have hx : (x.getD zeros).length = 512 := by
      cases x with
      | none => exact zeros_length
      | some b => exact h b (by simp)
    have e : imgL (x :: L) = x.getD zeros ++ imgL L := by simp [imgL]
    rw [e]
    cases k with
    | zero =>
      rw [Nat.zero_mul, List.drop_zero, List.take_left' hx]
      simp
    | succ k =>
      rw [show (k + 1) * 512 = 512 + k * 512 by omega, List.drop_append, List.drop_eq_nil_of_le (by omega), List.nil_append, hx, show 512 + k * 512 - 512 = k * 512 by omega]
      rw [img_cut L (fun b hb => h b (by simp [hb])) k (by simpa using hk)]
      simp
theorem strsV_range (g : Nat → List UInt8) (k : Nat) : strsV ((List.range (k + 1)).map g) = strsV ((List.range k).map g ++ [g k]) := by rw [List.range_succ, List.map_append]; rfl

set_option maxRecDepth 100000 in
set_option maxHeartbeats 4000000 in
theorem sectors_any {B : Nat} {M I : Nat → Prop} {d : Nat} {s : DS} (w : World) (h : DiskAt B w M I d s) (hW : s.W = []) (hL : s.L.length = 18) :
    Calls Tryd.prog 28 #[.pointer (some ⟨d, 0, none⟩)] w (fun x w' => ∃ so scap, x = .returned (.slice so 14 scap) ∧ SecsAt w' so (secOf s.L 2) ∧ Below w.heap.size w w') := by
  have HD := Lib.hid h
  have hok : ∀ b, some b ∈ s.L → b.length = 512 := h.sok.2.1
  have hil := imgL_length s.L hok
  rw [hL] at hil
  have HC := Lib.hid (fun k (hk : k < 18) => img_cut s.L hok k (by omega))
  go_enter Tryd.func28, Tryd.ntmps28
  go_wp2_with fail
  refine (image_any w h (by omega)).mono ?_
  rintro x w1 ⟨io, icap, rfl, hown, hb1⟩
  have hicap : 9216 ≤ icap := by
    rw [hil] at hown
    obtain ⟨_, _, e, h⟩ := owns_form hown
    cases e; exact h
  have H1 := Lib.hid (And.intro (At.own hown) hb1)
  rw [hil]
  have hs1 := hb1.size
  clear hown hb1 h
  go_wp2_with fail
  go_loopw [4, 5] (fun v4 v5 wr => ∃ (k : Nat) (so : Option Addr) (scap : Nat), k ≤ 14 ∧ v5 = .int .i64 (k : Int) ∧ v4 = .slice so k scap ∧ wr.ownsRow w1.heap.size 9 1 (.slice so k scap) k (strsV ((List.range k).map (secOf s.L 2))) ∧ Below w1.heap.size w1 wr) (fun _ v5 _ => 14 - (intOf v5).toNat)
  case atStart => exact ⟨0, none, 0, by omega, rfl, rfl, World.ownsRow_nil _ _ _ _, Below.refl _ _⟩
  case round =>
    obtain ⟨k, so, scap, hk, rfl, rfl, hown, hbr⟩ := hrel
    have HO := Lib.hid (And.intro hown hbr)
    have hszr := hbr.size
    clear hown hbr
    by_cases hlt : k < 14
    · have hd1 : decide ((k : Int) < 14) = true := decide_eq_true (by omega)
      have HSEC := Lib.hid (show At wr (tailOf io icap ((2 + k) * 512)) (bytesV (secOf s.L 2 k)) from by
        have h1 := (H1.out.1.below HO.out.2).dropB icap ((2 + k) * 512) (by rw [hil]; exact hicap)
        have h2 := h1.takeB 512
        rw [HC.out (2 + k) (by omega)] at h2
        exact h2)
      have HSL := Lib.hid (secOf_length HD.out.sok 2 k)
      go_wp2_with (first | (refine slice_lhZ rfl _ _ _ rfl io 9216 icap ((2 + k) * 512) ((2 + k + 1) * 512) _ _ (by omega) (by omega) rfl rfl rfl (by omega) (by omega) ?_) | (refine conv_str rfl _ rfl (tailOf io icap ((2 + k) * 512)) _ _ rfl (secOf s.L 2 k) HSEC.out (by rw [HSL.out]; omega) ?_) | (at_builtin; refine app_strs rfl _ _ rfl w1.heap.size so scap k ((List.range k).map (secOf s.L 2)) rfl (HO.out.1.alloc _) (some ⟨wr.heap.size, 0, none⟩) 1 1 [secOf s.L 2 k] rfl (At.new wr #[strV (secOf s.L 2 k)] 9) rfl (by omega) (by simp; omega) ?_; rintro so' scap' w11 q1 q2 q3))
      go_roundw
      case rel =>
        rw [← strsV_range] at q1
        exact ⟨k + 1, so', scap', by omega, by simp, rfl, q1, (HO.out.2.alloc (by omega) _).trans (below_grown (HO.out.1.alloc _) (by simp; omega) q2)⟩
      case measure => simp [intOf]; omega
    · obtain rfl : k = 14 := by omega
      go_wp2_with fail
      go_ret
      have hat := At.own HO.out.1
      refine ⟨so, scap, rfl, ?_, H1.out.2.trans (HO.out.2.mono hs1)⟩
      have hex : ∀ k, k < 14 → ∃ b o, so = some ⟨b, o, none⟩ ∧ wr.cell? ⟨b, o + k, none⟩ = some (.string ⟨(secOf s.L 2 k).toArray⟩) := by
        intro k hk
        obtain ⟨b, o, e, hc⟩ := hat.exv k (by simp [strsV]; exact hk)
        refine ⟨b, o, e, ?_⟩
        rw [hc]
        simp [strsV, strV]
      obtain ⟨b, o, rfl, hc0⟩ := hex 0 (by omega)
      refine ⟨b, o, rfl, World.block_lt_of_cell? (a := ⟨b, o + 0, none⟩) wr hc0, fun k hk => ?_⟩
      obtain ⟨b', o', e, hc⟩ := hex k hk
      cases e
      exact hc

-- rows of bytes out of a row of texts
set_option maxRecDepth 100000 in
set_option maxHeartbeats 4000000 in
theorem tobytes_any (so : Option Addr) (n scap : Nat) (recs : List (List UInt8)) (hn : n = recs.length) (hnl : n ≤ 1000000) (hbl : ∀ r ∈ recs, r.length ≤ 1000000) (w : World) (hat : At w so (strsV recs)) :
    Calls Tryd.prog 29 #[.slice so n scap] w (fun x w' => ∃ ro rcap, x = .returned (.slice ro recs.length rcap) ∧ RecsAt w' w.heap.size ro recs ∧ Below w.heap.size w w') := by
  have HA := Lib.hid hat
  have HN := Lib.hid hn
  clear hat hn
  go_enter Tryd.func29, Tryd.ntmps29
  go_wp2_with fail
  go_loopw [3, 4] (fun v3 v4 wr => ∃ (k : Nat) (ro : Option Addr) (rcap : Nat) (vs : List Value), k ≤ n ∧ v4 = .int .i64 (k : Int) ∧ v3 = .slice ro k rcap ∧ Hid (wr.ownsRow w.heap.size 22 1 (.slice ro k rcap) k vs ∧ All2 (RecV wr w.heap.size ro) vs (recs.take k)) ∧ Below w.heap.size w wr) (fun _ v4 _ => n - (intOf v4).toNat)
  case atStart => exact ⟨0, none, 0, [], Nat.zero_le _, rfl, rfl, Lib.hid ⟨World.ownsRow_nil _ _ _ _, by simpa using All2.nil⟩, Below.refl _ _⟩
  case round =>
    obtain ⟨k, ro, rcap, vs, hk, rfl, rfl, HRow, hbr⟩ := hrel
    have HBr := Lib.hid hbr
    have hszr := hbr.size
    clear hbr
    by_cases hlt : k < n
    · have hd1 : decide ((k : Int) < (n : Int)) = true := decide_eq_true (by omega)
      have hr : k < recs.length := by rw [← HN.out]; exact hlt
      obtain ⟨sb, sof, rfl, hc1⟩ := (HA.out.below HBr.out).exv k (by simp [strsV, hr])
      have hvs : (strsV recs)[k]'(by simp [strsV, hr]) = .string ⟨recs[k].toArray⟩ := by simp [strsV, strV]
      rw [hvs] at hc1
      obtain ⟨b, hb⟩ : ∃ b, recs[k] = b := ⟨_, rfl⟩
      have hbb := hbl recs[k] (List.getElem_mem hr)
      rw [hb] at hc1 hbb
      have HB := Lib.hid (show recs[k] = b from hb)
      clear hvs hb
      go_wp2_with (first | (refine conv_bytes rfl _ rfl b b.length rfl rfl ?_; rintro w3 bcap q1 q2 q3 q4; have Q := Lib.hid (And.intro q1 (And.intro q2 q3)); have hs3 := q2.size; clear q1 q2 q3) | (at_builtin; refine app_oneR rfl _ _ rfl w.heap.size ro rcap k vs rfl (owns_below HRow.out.1 Q.out.2.1) _ rfl rfl (by omega) (by omega) ?_; rintro ro' rcap' w7 q1 q2 q3))
      go_roundw
      case rel =>
        have hro' : ∀ b', b' < w3.heap.size → blk ro ≠ some b' → blk ro' ≠ some b' := by
          intro b' hlt' hne h
          rcases q3 with h2 | h2
          · exact hne (by rw [← h2]; exact h)
          · have := h2 b' h; omega
        have hnew : RecV w7 w.heap.size ro' (.slice (some ⟨wr.heap.size, 0, none⟩) b.length bcap) b := by
          refine ⟨_, bcap, rfl, Q.out.1.keeps q2 (fun b' hb' _ h => ?_), fun b' hb' => ?_⟩
          · obtain rfl : wr.heap.size = b' := Option.some.inj hb'
            have h2 := (HRow.out.1.lt _ (by rw [own_slice]; exact h)).2
            omega
          · obtain rfl : wr.heap.size = b' := Option.some.inj hb'
            have hs7 := q2.size
            have hq3 := Q.out.2.2
            exact ⟨hszr, by omega, hro' _ hq3 fun h => by
              have h2 := (HRow.out.1.lt _ (by rw [own_slice]; exact h)).2
              omega⟩
        have hall : All2 (RecV w7 w.heap.size ro') (vs ++ [.slice (some ⟨wr.heap.size, 0, none⟩) b.length bcap]) (recs.take (k + 1)) := by
          have e1 : recs.take (k + 1) = recs.take k ++ [b] := by rw [List.take_succ_eq_append_getElem hr, HB.out]
          rw [e1]
          refine (HRow.out.2.mono fun v r _ hv => ?_).snoc hnew
          have h1 : RecV w3 w.heap.size ro v r := hv.keeps (X := fun _ => False) (Keeps.of_below Q.out.2.1) (fun _ _ _ _ h => h) (fun _ _ h => h)
          exact h1.keeps q2 (fun b' _ _ hne h => hne h) hro'
        have hK : Below w.heap.size w w7 := HBr.out.trans ((Q.out.2.1.mono hszr).trans (q2.below (fun i hi h => by have h2 := (HRow.out.1.lt _ (by rw [own_slice]; exact h)).1; omega) (by omega)))
        exact ⟨k + 1, ro', rcap', _, by omega, by simp, rfl, Lib.hid ⟨q1, hall⟩, hK⟩
      case measure => simp [intOf]; omega
    · obtain rfl : k = n := by omega
      go_wp2_with fail
      go_ret
      have h := HRow.out
      rw [List.take_of_length_le (Nat.le_of_eq HN.out.symm)] at h
      exact ⟨ro, rcap, by rw [← HN.out]; rfl, recsAt_of (Nat.le_refl _) h.1 h.2, HBr.out⟩
end Go.Proofs.YtnonhmjfhcmpgaaDoor
