/- THE LAW CrcApart: two rows of bytes that differ within four bytes, one behind the other, have unlike sums. -/
import Derived.Test.YtmnaomdnjaiggaaDoorTab
namespace Go.Proofs.YtmnaomdnjaiggaaDoor.crcApart
open Go.ChangeShapes Go.WideShapes Go.ChangeAt Go.RowKit Go.ChangeMaps

theorem int_ne (z : Nat) : ((z : Int) != 0) = !decide (z = 0) := by
  by_cases h : z = 0 <;> simp [h]

set_option maxRecDepth 100000 in
set_option maxHeartbeats 1000000 in
theorem walk (ao : Option Addr) (l : List UInt8) (cap : Nat) (hc : l.length ≤ cap) (hm : cap ≤ 9223372036854775807) (c : Int) (y : Nat) (hy : y < 4294967296) (w : World) (hat : At w ao (bytesV l)) (ht : Tab w) :
    Calls Tryd.prog 5 #[.slice ao l.length cap, .int .i64 c, .int .u32 (y : Int)] w (Says w (.bool true)) := by
  have HT := Lib.hid ht
  have hL : (l.take 3000).length ≤ 3000 := by simp; omega
  have hatL : At w ao (bytesV (l.take 3000)) := hat.takeB 3000
  have HY := Lib.hid hy
  clear ht hat hy
  go_enter Tryd.func5, Tryd.ntmps5
  go_wp2_with fail
  refine (bytes_take ao l cap hc hm _).mono ?_
  rintro e w1 ⟨rfl, rfl⟩
  generalize l.take 3000 = L at *
  have HA := Lib.hid hatL
  clear hatL
  go_wp2_with (at_builtin; refine app_bytes rfl _ _ rfl w.heap.size (some ⟨w.heap.size, 0, none⟩) 0 [] 0 rfl (by exact World.ownsRow_lit w #[] 0 (Nat.le_refl _) (by decide) rfl) ao _ cap L rfl (HA.out.below ((Below.refl _ _).alloc (Nat.le_refl _) _)) rfl (by omega) (by simp) ?_; rintro co capc w1 ⟨q1, q2, q3⟩)
  have hb1 : Below w.heap.size w w1 := ((Below.refl _ w).alloc (Nat.le_refl _) _).trans (below_grown (B := w.heap.size) (w := w.alloc (.cells #[] 5)) (ao := some ⟨w.heap.size, 0, none⟩) (m := 0) (cap := 0) (e := 5) (size := 1) (n := 0) (xs := []) (World.ownsRow_lit w #[] 0 (Nat.le_refl _) (by decide) rfl) (by simp) q2)
  simp only [List.nil_append] at q1
  have H1 := Lib.hid (And.intro q1 hb1)
  clear q1 q2 q3 hb1
  refine (sums_any w1 (HT.out.below H1.out.2)).mono ?_
  rintro e w2 ⟨rfl, hb2⟩
  have H2 := Lib.hid (show w2.ownsRow w.heap.size 5 1 (.slice co L.length capc) L.length (bytesV L) ∧ Below w.heap.size w w2 from ⟨owns_below H1.out.1 hb2, H1.out.2.trans (hb2.mono H1.out.2.size)⟩)
  clear hb2
  have hT2 := Lib.hid (HT.out.below H2.out.2)
  have hsz2 := H2.out.2.size
  by_cases hl0 : L.length = 0
  · have hl0' : ((L.length : Int) == 0) = true := by simp [hl0]
    have HL0 := Lib.hid hl0
    clear hl0
    go_wp2_with fail
    refine (sums_any w2 hT2.out).mono ?_
    rintro e w3 ⟨rfl, hb3⟩
    go_wp2
    go_ret
    exact ⟨rfl, H2.out.2.trans (hb3.mono hsz2)⟩
  have hl0' : ((L.length : Int) == 0) = false := by simp; intro h; exact hl0 (by simp [h])
  by_cases hy0 : y = 0
  · have hy0' : ((y : Int) == 0) = true := by simp [hy0]
    have HL0 := Lib.hid hy0
    clear hy0
    go_wp2_with fail
    refine (sums_any w2 hT2.out).mono ?_
    rintro e w3 ⟨rfl, hb3⟩
    go_wp2
    go_ret
    exact ⟨rfl, H2.out.2.trans (hb3.mono hsz2)⟩
  have hy0' : ((y : Int) == 0) = false := by simp; omega
  obtain ⟨k, hk, hke⟩ := cut_mod0 c L.length (by omega) (by omega)
  go_wp2_with fail
  have hA2 := Lib.hid (At.own H2.out.1)
  refine (sum_one co _ capc L rfl (by omega) w2 _ rfl hA2.out hT2.out).mono ?_
  rintro e w3 ⟨rfl, rfl⟩
  go_wp2_with fail
  rw [hke]
  clear hke
  obtain ⟨g, rfl⟩ : ∃ g, co = some ⟨g, 0, none⟩ := by
    rcases H2.out.1.2 with ⟨_, h⟩ | ⟨g, cap', cur, hv, _⟩
    · exact absurd h hl0
    · cases hv; exact ⟨g, rfl⟩
  go_loopw [9, 10] (fun ch j wr => ∃ i : Nat, i ≤ 4 ∧ k + i ≤ L.length ∧ j = .int .i64 (i : Int) ∧ ch = .bool (decide (y % 256 ^ i ≠ 0)) ∧ wr.ownsRow w.heap.size 5 1 (.slice (some ⟨g, 0, none⟩) L.length capc) L.length (bytesV (patchAt L k i y)) ∧ Below w.heap.size w wr) (fun _ j _ => 4 - (intOf j).toNat)
  case atStart => exact ⟨0, by omega, by omega, rfl, by simp [Nat.mod_one], by rw [patch_zero]; exact H2.out.1.alloc _, H2.out.2.alloc hsz2 _⟩
  case round =>
    obtain ⟨i, hi, hki, rfl, rfl, hown, hbel⟩ := hrel
    have H := Lib.hid (And.intro hown hbel)
    have hsz := hbel.size
    clear hown hbel
    have hfin : (i = 4 ∨ k + i = L.length) ∨ (i < 4 ∧ k + i < L.length) := by omega
    rcases hfin with hfin | ⟨hi4, hlt⟩
    · have HP := Lib.hid (crc_patch L k i y hki hi)
      have hT := Lib.hid (HT.out.below H.out.2)
      have hA := Lib.hid (At.own H.out.1)
      have HPL := Lib.hid (patch_len L k i y)
      have hne : (((crc (patchAt L k i y) : Nat) : Int) != ((crc L : Nat) : Int)) = decide (y % 256 ^ i ≠ 0) := by
        rw [← HP.out]
        cases h : (crc (patchAt L k i y) != crc L) <;> simp at h ⊢ <;> omega
      by_cases hi4 : i = 4
      all_goals
        first
          | have hi4' : decide ((i : Int) < 4) = false := by (simp; omega)
          | have hi5' : decide ((i : Int) < 4) = true ∧ decide ((k : Int) + i < L.length) = false := by (simp; omega)
            obtain ⟨hi5', hi6'⟩ := hi5'
        have HF := Lib.hid hfin
        clear hi4 hfin
        go_wp2_with fail
        refine (sum_one (some ⟨g, 0, none⟩) _ capc (patchAt L k i y) HPL.out.symm (by omega) _ _ rfl hA.out hT.out).mono ?_
        rintro e w3 ⟨rfl, rfl⟩
        go_wp2_with fail
        go_ret
        exact ⟨by simp, H.out.2.alloc (by omega) _⟩
    · have hget : (bytesV (patchAt L k i y))[k + i]? = some (.int .u8 ((L[k + i]).toNat : Int)) := by
        rw [bytesV, List.getElem?_map, patch_get, List.getElem?_eq_getElem hlt]
        rfl
      have hcell : wr.cell? ⟨g, k + i, none⟩ = some (.int .u8 ((L[k + i]).toNat : Int)) := by
        rw [H.out.1.cellAt (k + i) (by omega)]
        exact hget
      have hfr : wr.frozen? ⟨g, k + i, none⟩ = false := H.out.1.frozenAt (k + i)
      have hg : w.heap.size ≤ g := (H.out.1.lt g rfl).1
      have hz : y / 256 ^ i % 256 < 256 := Nat.mod_lt _ (by decide)
      have e1 : ((y : Int) / 2 ^ (8 * i) % 256) = ((y / 256 ^ i % 256 : Nat) : Int) := by
        have : (2 : Int) ^ (8 * i) = ((256 ^ i : Nat) : Int) := by rw [show (256 : Nat) = 2 ^ 8 from rfl, ← Nat.pow_mul]; simp
        rw [this]
        rfl
      have e2 := bits_xor_u8 (L[k + i]).toNat (y / 256 ^ i % 256) (L[k + i]).toNat_lt hz
      have HS := Lib.hid (patch_succ L k i y hlt)
      have HM := Lib.hid (mod_pow_succ_ne y i)
      have HU := Lib.hid (show u8v (L[k + i] ^^^ UInt8.ofNat (y / 256 ^ i % 256)) = .int .u8 (((L[k + i]).toNat ^^^ (y / 256 ^ i % 256) : Nat) : Int) by
        rw [u8v, UInt8.toNat_xor, UInt8.toNat_ofNat', Nat.mod_eq_of_lt hz])
      generalize y / 256 ^ i % 256 = z at *
      clear hget hz
      go_wp2_with fail
      all_goals
        go_roundw
        case rel =>
          refine ⟨i + 1, by omega, by omega, by simp, ?_, ?_, H.out.2.setCell hg _⟩
          · rw [HM.out]
            first
              | (simp [*]; done)
              | (simp [*]; exact int_ne z)
          · rw [HS.out, bytesV_set, HU.out]
            exact (H.out.1.stored (k + i) _).1
        case measure => simp [intOf]; omega

theorem own : ownKnob Tryd.prog.godebug = none := by kernel_rfl
theorem laidOut : laidOutB Tryd.prog = true := by kernel_rfl
theorem readable : ∀ t ∈ Tryd.f5.params.toList, Tryd.prog.readableRec t = true ∧ t < Tryd.prog.types.size := by
  rw [Tryd.params5]
  intro t ht
  simp at ht
  rcases ht with rfl | rfl | rfl
  · exact ⟨by kernel_rfl, of_decide_eq_true (by kernel_rfl)⟩
  · exact ⟨by kernel_rfl, of_decide_eq_true (by kernel_rfl)⟩
  · exact ⟨by kernel_rfl, of_decide_eq_true (by kernel_rfl)⟩

theorem laid_met (os : Os) : laidMet Tryd.prog Rows.crcApartRow.laid ((laidWorld os).forCall (fun _ _ => 0) ⟨#[], #[.slice none 0 0, .int .i64 0, .int .u32 0], []⟩).memory :=
  laidMet_of_run' 8 (by kernel_rfl) (by kernel_rfl)
theorem reads (os : Os) {H : Type} (enc : TypeId × Value → H) : DataW.whole enc Tryd.prog ((laidWorld os).forCall (fun _ _ => 0) ⟨#[], #[.slice none 0 0, .int .i64 0, .int .u32 0], []⟩).memory Tryd.f5.params.toList Rows.crcApartSpec.vars false (#[.slice none 0 0, .int .i64 0, .int .u32 0] : Array Value).toList 8 = some ([.nil, .lit (.int .i64 0), .lit (.int .u32 0)], [], []) := by kernel_rfl
set_option maxRecDepth 100000 in
theorem lifted (os : Os) (started : os.Started) (H : Type) (enc : TypeId × Value → H) (F : Stop.Interp) :
    ReturnsInHanded {} Tryd.checked os 5 .any ((OpenSpec.ofChange Rows.crcApartSpec).preRow enc Tryd.prog Tryd.f5 Rows.crcApartRow.domain false Rows.crcApartRow.laid) (((OpenSpec.ofChange Rows.crcApartSpec).at F).post enc Tryd.prog Tryd.f5 false true false false) := by
  have hx := reads os enc
  refine returnsInHanded_of_row (C := Tryd.checked) (s := OpenSpec.ofChange Rows.crcApartSpec) own started (by kernel_rfl) Tryd.func5
    (witness_row_at (enc := enc) (C := Tryd.checked) false (laidWorld os) #[.slice none 0 0, .int .i64 0, .int .u32 0] rfl (by kernel_rfl) (by kernel_rfl) (by kernel_rfl)
      (OpenSpec.preRow_of_cond 8 hx (by kernel_rfl) (fun k hk => by cases hk) (by kernel_rfl) (laid_met os))) ?_
  intro W base args ds gs before hval0 hW _ _ _ hL _ _
  have ht : Tab W := table_of hL
  have hval : ∀ (j : Nat) t v, Tryd.f5.params[j]? = some t → args[j]? = some v → Value.okWide Tryd.prog W .any base t v := hval0
  have hW' := hW
  obtain ⟨p, q, hA0, hV, rfl, hfz, hnd⟩ := hW
  have hA : DataW.TrodAll enc Tryd.prog W 0 (fun _ => true) true Tryd.f5.params.toList args.toList ds p := hA0
  rw [Tryd.params5] at hA hval
  obtain ⟨v0, v1, v2, d0, d1, d2, p0, p1, p2, rfl, rfl, rfl, h0, h1, h2⟩ := trodAll_three hA
  obtain ⟨rfl, rfl⟩ := trodVars_none hV
  obtain ⟨ao, cap, l, rfl, hc, hm, hat⟩ := open_bytes Tryd.underlying22 Tryd.underlying5 cellsU8 (hval 0 22 v0 rfl rfl) h0
  obtain ⟨c, rfl, rfl, rfl, wc⟩ := open_int Tryd.underlying3 (hval 1 3 v1 rfl rfl) h1
  obtain ⟨z, rfl, rfl, rfl, wz⟩ := open_int Tryd.underlying25 (hval 2 25 v2 rfl rfl) h2
  have hz : 0 ≤ z ∧ z ≤ 4294967295 := by simpa [Lit.wf, IntKind.min, IntKind.max, IntKind.signed, IntKind.bits] using wz
  obtain ⟨y, rfl⟩ := Int.eq_ofNat_of_zero_le hz.1
  refine (walk ao l cap hc hm c y (by omega) W hat ht).mono fun e W' ⟨he, hb⟩ => ?_
  subst he
  exact ⟨_, rfl, post_law laidOut rfl rfl Tryd.underlying4 readable rfl rfl rfl hW' hb⟩

theorem said : Rows.CrcApartSaid :=
  OpenClaim.holds_of_cond 5 Tryd.f5 rfl rfl rfl rfl rfl rfl rfl ⟨rfl, rfl, rfl, rfl, rfl⟩ rfl rfl rfl rfl rfl (by kernel_rfl) Tryd.func5 (by kernel_rfl)
    (of_decide_eq_true (by kernel_rfl)) (by unfold Func.isWrapper; first | (rw [if_pos (by decide +kernel)]; kernel_rfl) | (rw [if_neg (by decide +kernel)]; exact ⟨rfl, rfl⟩))
    (fun os started H enc _ F => by rw [OpenClaim.pre_eq_preRow]; exact lifted os started H enc F)

/-- No parameter wants a stand-in; the program's own looks are off. -/
theorem plain (f : FuncId) (fn : Func) (hf : Tryd.pinned.checked.prog.funcNamed "scriptor/scriptorlaw02.CrcApart" = some f) (hfn : Tryd.pinned.checked.prog.funcs[f]? = some fn) :
    false = Tryd.pinned.checked.prog.looks [] ∧ ∀ (j : Nat) t, fn.params[j]? = some t → Tryd.pinned.checked.prog.wantsStandIn t = false := by
  obtain rfl : f = 5 := Option.some.inj ((show Tryd.prog.funcNamed "scriptor/scriptorlaw02.CrcApart" = some 5 by kernel_rfl).symm.trans hf) |>.symm
  obtain rfl : fn = Tryd.f5 := (Option.some.inj (Tryd.func5.symm.trans hfn)).symm
  refine ⟨by kernel_rfl, fun j t ht => ?_⟩
  have hall : ∀ t ∈ Tryd.f5.params.toList, Tryd.prog.wantsStandIn t = false := by
    rw [Tryd.params5]
    intro t ht
    simp at ht
    rcases ht with rfl | rfl | rfl
    · kernel_rfl
    · kernel_rfl
    · kernel_rfl
  exact hall t (Array.mem_toList_iff.2 (Array.mem_of_getElem? ht))

theorem card : Rows.CrcApartCardSaid :=
  Claim7.holds_tied_plain_at .later [] _ _ _ _ said (fun _ h => by cases h) (by kernel_rfl) (fun _ h => by cases h) crcApart_row_tie rfl ⟨rfl, rfl⟩ (by kernel_rfl) rfl plain (by kernel_rfl)
end Go.Proofs.YtmnaomdnjaiggaaDoor.crcApart
