/- THE LAW CrcBursts: bytes in which a burst of up to 32 bits was changed are not opened. -/
import Derived.Test.YtmnaomdnjaiggaaDoorTab
import Derived.Test.YtmnaomdnjaiggaaDoorCrcW
import Derived.Test.YtmnaomdnjaiggaaDoorBurstP
import Derived.Test.YtmnaomdnjaiggaaDoorLaw
import Derived.Handy
namespace Go.Proofs.YtmnaomdnjaiggaaDoor.crcBursts
open Go.ChangeShapes Go.WideShapes Go.ChangeAt Go.RowKit Go.ChangeMaps

theorem bit_of (b i : Nat) : ((b : Int) / 2 ^ i).tmod 2 = ((b / 2 ^ i % 2 : Nat) : Int) := by
  have : ((b : Int) / 2 ^ i) = ((b / 2 ^ i : Nat) : Int) := by simp
  rw [this]
  generalize b / 2 ^ i = z
  rw [Int.tmod_eq_emod_of_nonneg (by omega)]
  omega
theorem bit_no (b i : Nat) (h : b / 2 ^ i % 2 ≠ 1) : (((b : Int) / 2 ^ i).tmod 2 == 1) = false := by
  rw [bit_of]
  generalize b / 2 ^ i = z at *
  rw [show z % 2 = 0 by omega]
  rfl
theorem shl_one (j : Nat) (h : j < 8) : (2 ^ j : Int) % 256 = ((2 ^ j : Nat) : Int) := by
  have : ∀ j, j < 8 → (2 ^ j : Int) % 256 = ((2 ^ j : Nat) : Int) := by decide
  exact this j h

/-- Was a bit turned so far? -/
def turned (y i : Nat) : Bool := !decide (y % 2 ^ i = 0)

set_option maxRecDepth 100000 in
set_option maxHeartbeats 1000000 in
theorem walk (ao : Option Addr) (l : List UInt8) (cap : Nat) (hc : l.length ≤ cap) (hm : cap ≤ 9223372036854775807) (c : Int) (y : Nat) (hy : y < 4294967296) (w : World) (hat : At w ao (bytesV l)) (ht : Tab w) :
    Calls Tryd.prog 7 #[.slice ao l.length cap, .int .i64 c, .int .u32 (y : Int)] w (Says w (.bool true)) := by
  have HT := Lib.hid ht
  have hL : (l.take 3000).length ≤ 3000 := by simp; omega
  have hatL : At w ao (bytesV (l.take 3000)) := hat.takeB 3000
  clear ht hat
  go_enter Tryd.func7, Tryd.ntmps7
  go_wp2_with fail
  refine (bytes_take ao l cap hc hm _).mono ?_
  rintro e w1 ⟨rfl, rfl⟩
  generalize l.take 3000 = L at *
  have HA := Lib.hid hatL
  clear hatL
  go_wp2_with fail
  refine (close_any ao L _ cap rfl (by omega) w HA.out HT.out).mono ?_
  rintro e w1 ⟨co, capc, rfl, hown, hb1⟩
  have hcl : (L ++ four (crc L)).length = L.length + 4 := by rw [List.length_append, four_len]
  rw [hcl] at hown ⊢
  have H1 := Lib.hid (And.intro hown hb1)
  have hsz1 := hb1.size
  clear hown hb1 hcl
  generalize hC : L ++ four (crc L) = C at *
  have HC := Lib.hid hC
  clear hC
  go_wp2_with fail
  refine (sums_any w1 (HT.out.below H1.out.2)).mono ?_
  rintro e w2 ⟨rfl, hb2⟩
  have H2 := Lib.hid (And.intro (owns_below H1.out.1 hb2) (H1.out.2.trans (hb2.mono hsz1)))
  have hsz2 := hb2.size
  clear hb2 H1
  have hT2 := Lib.hid (HT.out.below H2.out.2)
  by_cases hy0 : y = 0
  · have hy0' : ((y : Int) == 0) = true := by simp [hy0]
    have HL0 := Lib.hid hy0
    clear hy0
    go_wp2_with fail
    refine (sums_any w2 hT2.out).mono ?_
    rintro e w3 ⟨rfl, hb3⟩
    go_wp2
    go_ret
    exact ⟨rfl, H2.out.2.trans (hb3.mono (by omega))⟩
  have hy0' : ((y : Int) == 0) = false := by simp; omega
  obtain ⟨k, hk, hke⟩ := cut_mod0 c (8 * (L.length + 4)) (by omega) (by omega)
  have hke' : wrap64 ((IntKind.u64.wrap c).tmod (8 * ((L.length : Int) + 4))) = (k : Int) := by simpa using hke
  clear hke
  have HK := Lib.hid hke'
  clear hke'
  go_wp2_with fail
  rw [HK.out]
  go_loopw [10, 11] (fun ch j wr => ∃ (i : Nat) (M : List UInt8), i ≤ 32 ∧ k + i ≤ 8 * (L.length + 4) ∧ j = .int .i64 (i : Int) ∧ ch = .bool (turned y i) ∧ M.length = L.length + 4 ∧ le M = le C ^^^ 2 ^ k * (y % 2 ^ i) ∧ wr.ownsRow w.heap.size 5 1 (.slice co (L.length + 4) capc) (L.length + 4) (bytesV M) ∧ Below w.heap.size w wr) (fun _ j _ => 32 - (intOf j).toNat)
  case atStart => exact ⟨0, C, by omega, by omega, rfl, by simp [turned, Nat.mod_one], by rw [← HC.out, List.length_append, four_len], by simp [Nat.mod_one], H2.out.1, H2.out.2⟩
  case round =>
    obtain ⟨i, M, hi, hki, rfl, rfl, hM, hle, hown, hbel⟩ := hrel
    have H := Lib.hid (And.intro hown hbel)
    have HM := Lib.hid (And.intro hM hle)
    have hsz := hbel.size
    clear hown hbel hM hle
    have hfin : (i = 32 ∨ k + i = 8 * (L.length + 4)) ∨ (i < 32 ∧ k + i < 8 * (L.length + 4)) := by omega
    rcases hfin with hfin | ⟨hi4, hlt⟩
    · have hT := Lib.hid (HT.out.below H.out.2)
      have hA := Lib.hid (At.own H.out.1)
      have hle2 := HM.out.2
      rw [← HC.out] at hle2
      have HB := Lib.hid (opens_burst L M k i y hy HM.out.1 hle2)
      clear hle2
      have hcc : L.length + 4 ≤ capc := by
        obtain ⟨_, _, e, h⟩ := owns_form H.out.1
        cases e; exact h
      by_cases hi4 : i = 32
      all_goals
        first
          | have hi4' : decide ((i : Int) < 32) = false := by (simp; omega)
          | have hi5' : decide ((i : Int) < 32) = true ∧ decide ((k : Int) + i < 8 * ((L.length : Int) + 4)) = false := by (simp; omega)
            obtain ⟨hi5', hi6'⟩ := hi5'
        have HF := Lib.hid hfin
        clear hi4 hfin
        have HB2 := Lib.hid (show (opens M).isSome = !turned y i by rw [HB.out, turned, Bool.not_not])
        generalize turned y i = tu at *
        go_wp2_with fail
        refine (copen_any co M _ capc HM.out.1.symm (by omega) hcc _ hA.out hT.out).mono ?_
        rintro e w3 ⟨hb3, ho⟩
        have hbel := H.out.2.trans (hb3.mono hsz)
        rcases hop : opens M with _ | X
        · rw [hop] at ho
          subst ho
          have ht : tu = true := by have := HB2.out; rw [hop] at this; simpa using this.symm
          subst ht
          clear hop hb3
          go_wp2_with fail
          go_ret
          exact ⟨rfl, hbel⟩
        · rw [hop] at ho
          obtain ⟨ao3, cap3, rfl, _⟩ := ho
          have ht : tu = false := by have := HB2.out; rw [hop] at this; simpa using this.symm
          subst ht
          clear hop hb3
          go_wp2_with fail
          go_ret
          exact ⟨rfl, hbel⟩
    · by_cases hbit : y / 2 ^ i % 2 = 1
      · have hb' : (((y : Int) / 2 ^ i).tmod 2 == 1) = true := by rw [bit_of, hbit]; rfl
        have HBIT := Lib.hid hbit
        have HST := Lib.hid (bit_step k i y hbit)
        have HT1 := Lib.hid (show turned y (i + 1) = true by
          rw [turned, Nat.pow_succ, Nat.mod_mul, hbit]
          have := Nat.two_pow_pos i
          simp)
        have hq : (k + i) / 8 < M.length := by rw [HM.out.1]; omega
        have HFL := Lib.hid (flip_le M (k + i) hq)
        have hr8 : (k + i) % 8 < 8 := Nat.mod_lt _ (by decide)
        have hmod : ((k : Int) + i).tmod 8 = (((k + i) % 8 : Nat) : Int) := by rw [Int.tmod_eq_emod_of_nonneg (by omega)]; omega
        have hdiv : ((k : Int) + i).tdiv 8 = (((k + i) / 8 : Nat) : Int) := by rw [Int.tdiv_eq_ediv_of_nonneg (by omega)]; omega
        have hw1 : IntKind.i64.wrap ((k : Int) + i) = (k : Int) + i := by rw [IntKind.wrap_i64]; omega
        have hw2 : IntKind.i64.wrap (((k + i) / 8 : Nat) : Int) = (((k + i) / 8 : Nat) : Int) := by rw [IntKind.wrap_i64]; omega
        have hw3 : IntKind.i64.wrap (((k + i) % 8 : Nat) : Int) = (((k + i) % 8 : Nat) : Int) := by rw [IntKind.wrap_i64]; omega
        have hq2 : (k + i) / 8 < L.length + 4 := by omega
        obtain ⟨g, rfl⟩ : ∃ g, co = some ⟨g, 0, none⟩ := by
          rcases H.out.1.2 with ⟨h, _⟩ | ⟨g', cap', cur, hv, _⟩
          · simp at h
          · cases hv; exact ⟨g', rfl⟩
        have hcell : wr.cell? ⟨g, (k + i) / 8, none⟩ = some (.int .u8 ((M[(k + i) / 8]).toNat : Int)) := by
          rw [H.out.1.cellAt _ (by omega)]
          exact bytesV_get M _ hq
        have hfr : wr.frozen? ⟨g, (k + i) / 8, none⟩ = false := H.out.1.frozenAt _
        have hg : w.heap.size ≤ g := (H.out.1.lt g rfl).1
        have hcell2 := Lib.hid hcell
        have hst := Lib.hid (fun v => H.out.1.stored ((k + i) / 8) v)
        have e3 := shl_one _ hr8
        have hp : 2 ^ ((k + i) % 8) < 256 := Nat.lt_of_lt_of_le (Nat.pow_lt_pow_right (a := 2) (by decide) hr8) (by decide)
        have e4 := bits_xor_u8 (M[(k + i) / 8]).toNat (2 ^ ((k + i) % 8)) (M[(k + i) / 8]).toNat_lt hp
        have HU := Lib.hid (show u8v (M[(k + i) / 8] ^^^ UInt8.ofNat (2 ^ ((k + i) % 8))) = .int .u8 (((M[(k + i) / 8]).toNat ^^^ (2 ^ ((k + i) % 8)) : Nat) : Int) by
          rw [u8v, UInt8.toNat_xor, UInt8.toNat_ofNat', Nat.mod_eq_of_lt hp])
        generalize hQ : (k + i) / 8 = q at *
        generalize hR : (k + i) % 8 = r at *
        have HQ := Lib.hid (And.intro hQ hR)
        have hq3 : (q : Int) < (L.length : Int) + 4 := by omega
        clear hbit hQ hR
        generalize 2 ^ r = p at *
        go_wp2_with fail
        refine seql_start [14] (by kernel_rfl) ?_
        refine seql_take 0 (v := ?v0_1) rfl (by kernel_rfl) (fun _ _ _ h => h) (by rfl) (fun w' hw' => ?hy0_1) ?_
        case hy0_1 => go_simp; try with_reducible rfl
        try simp only [List.getElem_toArray, List.getElem_cons_succ, List.getElem_cons_zero, Act.put, List.setIfInBounds_toArray, List.set_cons_zero, List.set_cons_succ]
        refine seql_take 1 (v := ?v1_2) rfl (by kernel_rfl) (fun _ _ _ h => h) (by rfl) (fun w' hw' => ?hy1_2) ?_
        case hy1_2 => go_simp; try with_reducible rfl
        try simp only [List.getElem_toArray, List.getElem_cons_succ, List.getElem_cons_zero, Act.put, List.setIfInBounds_toArray, List.set_cons_zero, List.set_cons_succ]
        refine seql_take 2 (v := ?v2_3) rfl (by kernel_rfl) (fun _ _ _ h => h) (by rfl) (fun w' hw' => ?hy2_3) ?_
        case hy2_3 => go_simp; try with_reducible rfl
        try simp only [List.getElem_toArray, List.getElem_cons_succ, List.getElem_cons_zero, Act.put, List.setIfInBounds_toArray, List.set_cons_zero, List.set_cons_succ]
        refine seql_take 3 (v := ?v3_4) rfl (by kernel_rfl) (fun _ _ _ h => h) (by rfl) (fun w' hw' => ?hy3_4) ?_
        case hy3_4 => go_simp; try with_reducible rfl
        try simp only [List.getElem_toArray, List.getElem_cons_succ, List.getElem_cons_zero, Act.put, List.setIfInBounds_toArray, List.set_cons_zero, List.set_cons_succ]
        refine seql_take 4 (v := ?v4_5) rfl (by kernel_rfl) (fun _ _ _ h => h) (by rfl) (fun w' hw' => ?hy4_5) ?_
        case hy4_5 => go_simp; try with_reducible rfl
        try simp only [List.getElem_toArray, List.getElem_cons_succ, List.getElem_cons_zero, Act.put, List.setIfInBounds_toArray, List.set_cons_zero, List.set_cons_succ]
        refine seql_take 5 (v := ?v5_6) rfl (by kernel_rfl) (fun _ _ _ h => h) (by rfl) (fun w' hw' => ?hy5_6) ?_
        case hy5_6 => go_simp; try with_reducible rfl
        try simp only [List.getElem_toArray, List.getElem_cons_succ, List.getElem_cons_zero, Act.put, List.setIfInBounds_toArray, List.set_cons_zero, List.set_cons_succ]
        refine seql_take 6 rfl (by kernel_rfl) (fun _ _ _ h => h) (by rfl) (seq_ld8 rfl rfl (hcell2.out)) ?_
        try simp only [List.getElem_toArray, List.getElem_cons_succ, List.getElem_cons_zero, Act.put, List.setIfInBounds_toArray, List.set_cons_zero, List.set_cons_succ]
        refine seql_take 7 (v := ?v7_7) rfl (by kernel_rfl) (fun _ _ _ h => h) (by rfl) (fun w' hw' => ?hy7_7) ?_
        case hy7_7 => go_simp; try with_reducible rfl
        try simp only [List.getElem_toArray, List.getElem_cons_succ, List.getElem_cons_zero, Act.put, List.setIfInBounds_toArray, List.set_cons_zero, List.set_cons_succ]
        refine seql_take 8 (v := ?v8_8) rfl (by kernel_rfl) (fun _ _ _ h => h) (by rfl) (fun w' hw' => ?hy8_8) ?_
        case hy8_8 => go_simp; try with_reducible rfl
        try simp only [List.getElem_toArray, List.getElem_cons_succ, List.getElem_cons_zero, Act.put, List.setIfInBounds_toArray, List.set_cons_zero, List.set_cons_succ]
        refine seql_take 9 (v := ?v9_9) rfl (by kernel_rfl) (fun _ _ _ h => h) (by rfl) (fun w' hw' => ?hy9_9) ?_
        case hy9_9 => go_simp; try with_reducible rfl
        try simp only [List.getElem_toArray, List.getElem_cons_succ, List.getElem_cons_zero, Act.put, List.setIfInBounds_toArray, List.set_cons_zero, List.set_cons_succ]
        refine seql_take 10 (v := ?v10_10) rfl (by kernel_rfl) (fun _ _ _ h => h) (by rfl) (fun w' hw' => ?hy10_10) ?_
        case hy10_10 => go_simp; try with_reducible rfl
        try simp only [List.getElem_toArray, List.getElem_cons_succ, List.getElem_cons_zero, Act.put, List.setIfInBounds_toArray, List.set_cons_zero, List.set_cons_succ]
        refine seql_take 11 (v := ?v11_11) rfl (by kernel_rfl) (fun _ _ _ h => h) (by rfl) (fun w' hw' => ?hy11_11) ?_
        case hy11_11 => go_simp; try with_reducible rfl
        try simp only [List.getElem_toArray, List.getElem_cons_succ, List.getElem_cons_zero, Act.put, List.setIfInBounds_toArray, List.set_cons_zero, List.set_cons_succ]
        refine seql_take 12 (v := ?v12_12) rfl (by kernel_rfl) (fun _ _ _ h => h) (by rfl) (fun w' hw' => ?hy12_12) ?_
        case hy12_12 => go_simp; try with_reducible rfl
        try simp only [List.getElem_toArray, List.getElem_cons_succ, List.getElem_cons_zero, Act.put, List.setIfInBounds_toArray, List.set_cons_zero, List.set_cons_succ]
        refine seql_take 13 (v := ?v13_13) rfl (by kernel_rfl) (fun _ _ _ h => h) (by rfl) (fun w' hw' => ?hy13_13) ?_
        case hy13_13 => go_simp; try with_reducible rfl
        try simp only [List.getElem_toArray, List.getElem_cons_succ, List.getElem_cons_zero, Act.put, List.setIfInBounds_toArray, List.set_cons_zero, List.set_cons_succ]
        refine seql_last 14 rfl (by kernel_rfl) (by kernel_rfl) (by rfl) (fun KK hKK => ?_)
        go_wp2_with fail
        refine seql_done (by kernel_rfl) ?_
        go_wp2_with fail
        go_roundw
        case rel =>
          refine ⟨i + 1, M.set q (M[q] ^^^ UInt8.ofNat p), by omega, by omega, by simp, by rw [HT1.out], by rw [List.length_set]; exact HM.out.1, by rw [HFL.out, HST.out, HM.out.2, Nat.xor_assoc], ?_, H.out.2.drew.setCell hg _⟩
          rw [bytesV_set, HU.out]
          exact (owns_below (hst.out _).1 ((Below.refl _ _).drew)) 
        case measure => simp [intOf]; omega
      · have hb' : (((y : Int) / 2 ^ i).tmod 2 == 1) = false := bit_no y i hbit
        have HBIT := Lib.hid (bit_none i y hbit)
        clear hbit
        go_wp2_with fail
        go_roundw
        case rel =>
          refine ⟨i + 1, M, by omega, by omega, by simp, by rw [turned, turned, HBIT.out], HM.out.1, by rw [HBIT.out]; exact HM.out.2, H.out.1, H.out.2⟩
        case measure => simp [intOf]; omega

theorem own : ownKnob Tryd.prog.godebug = none := by kernel_rfl
theorem laidOut : laidOutB Tryd.prog = true := by kernel_rfl
theorem readable : ∀ t ∈ Tryd.f7.params.toList, Tryd.prog.readableRec t = true ∧ t < Tryd.prog.types.size := by
  rw [Tryd.params7]
  intro t ht
  simp at ht
  rcases ht with rfl | rfl | rfl
  · exact ⟨by kernel_rfl, of_decide_eq_true (by kernel_rfl)⟩
  · exact ⟨by kernel_rfl, of_decide_eq_true (by kernel_rfl)⟩
  · exact ⟨by kernel_rfl, of_decide_eq_true (by kernel_rfl)⟩

theorem laid_met (os : Os) : laidMet Tryd.prog Rows.crcBurstsRow.laid ((laidWorld os).forCall (fun _ _ => 0) ⟨#[], #[.slice none 0 0, .int .i64 0, .int .u32 0], []⟩).memory :=
  laidMet_of_run' 8 (by kernel_rfl) (by kernel_rfl)
theorem reads (os : Os) {H : Type} (enc : TypeId × Value → H) : DataW.whole enc Tryd.prog ((laidWorld os).forCall (fun _ _ => 0) ⟨#[], #[.slice none 0 0, .int .i64 0, .int .u32 0], []⟩).memory Tryd.f7.params.toList Rows.crcBurstsSpec.vars false (#[.slice none 0 0, .int .i64 0, .int .u32 0] : Array Value).toList 8 = some ([.nil, .lit (.int .i64 0), .lit (.int .u32 0)], [], []) := by kernel_rfl
set_option maxRecDepth 100000 in
theorem lifted (os : Os) (started : os.Started) (H : Type) (enc : TypeId × Value → H) (F : Stop.Interp) :
    ReturnsInHanded {} Tryd.checked os 7 .any ((OpenSpec.ofChange Rows.crcBurstsSpec).preRow enc Tryd.prog Tryd.f7 Rows.crcBurstsRow.domain false Rows.crcBurstsRow.laid) (((OpenSpec.ofChange Rows.crcBurstsSpec).at F).post enc Tryd.prog Tryd.f7 false true false false) := by
  have hx := reads os enc
  refine returnsInHanded_of_row (C := Tryd.checked) (s := OpenSpec.ofChange Rows.crcBurstsSpec) own started (by kernel_rfl) Tryd.func7
    (witness_row_at (enc := enc) (C := Tryd.checked) false (laidWorld os) #[.slice none 0 0, .int .i64 0, .int .u32 0] rfl (by kernel_rfl) (by kernel_rfl) (by kernel_rfl)
      (OpenSpec.preRow_of_cond 8 hx (by kernel_rfl) (fun k hk => by cases hk) (by kernel_rfl) (laid_met os))) ?_
  intro W base args ds gs before hval0 hW _ _ _ hL _ _
  have ht : Tab W := table_of hL
  have hval : ∀ (j : Nat) t v, Tryd.f7.params[j]? = some t → args[j]? = some v → Value.okWide Tryd.prog W .any base t v := hval0
  have hW' := hW
  obtain ⟨p, q, hA0, hV, rfl, hfz, hnd⟩ := hW
  have hA : DataW.TrodAll enc Tryd.prog W 0 (fun _ => true) true Tryd.f7.params.toList args.toList ds p := hA0
  rw [Tryd.params7] at hA hval
  obtain ⟨v0, v1, v2, d0, d1, d2, p0, p1, p2, rfl, rfl, rfl, h0, h1, h2⟩ := trodAll_three hA
  obtain ⟨rfl, rfl⟩ := trodVars_none hV
  obtain ⟨ao, cap, l, rfl, hc, hm, hat⟩ := open_bytes Tryd.underlying22 Tryd.underlying5 cellsU8 (hval 0 22 v0 rfl rfl) h0
  obtain ⟨c, rfl, rfl, rfl, wc⟩ := open_int Tryd.underlying3 (hval 1 3 v1 rfl rfl) h1
  obtain ⟨z, rfl, rfl, rfl, wz⟩ := open_int Tryd.underlying25 (hval 2 25 v2 rfl rfl) h2
  have hz : 0 ≤ z ∧ z ≤ 4294967295 := by simpa [Lit.wf, IntKind.min, IntKind.max, IntKind.signed, IntKind.bits] using wz
  obtain ⟨y, rfl⟩ := Int.eq_ofNat_of_zero_le hz.1
  refine (walk ao l cap hc hm c y (by omega) W hat ht).mono fun e W' ⟨he, hb⟩ => ?_
  subst he
  exact ⟨_, rfl, post_law laidOut rfl rfl Tryd.underlying4 readable rfl rfl rfl hW' hb⟩

theorem said : Rows.CrcBurstsSaid :=
  OpenClaim.holds_of_cond 7 Tryd.f7 rfl rfl rfl rfl rfl rfl rfl ⟨rfl, rfl, rfl, rfl, rfl⟩ rfl rfl rfl rfl rfl (by kernel_rfl) Tryd.func7 (by kernel_rfl)
    (of_decide_eq_true (by kernel_rfl)) (by unfold Func.isWrapper; first | (rw [if_pos (by decide +kernel)]; kernel_rfl) | (rw [if_neg (by decide +kernel)]; exact ⟨rfl, rfl⟩))
    (fun os started H enc _ F => by rw [OpenClaim.pre_eq_preRow]; exact lifted os started H enc F)

/-- No parameter wants a stand-in; the program's own looks are off. -/
theorem plain (f : FuncId) (fn : Func) (hf : Tryd.pinned.checked.prog.funcNamed "scriptor/scriptorlaw02.CrcBursts" = some f) (hfn : Tryd.pinned.checked.prog.funcs[f]? = some fn) :
    false = Tryd.pinned.checked.prog.looks [] ∧ ∀ (j : Nat) t, fn.params[j]? = some t → Tryd.pinned.checked.prog.wantsStandIn t = false := by
  obtain rfl : f = 7 := Option.some.inj ((show Tryd.prog.funcNamed "scriptor/scriptorlaw02.CrcBursts" = some 7 by kernel_rfl).symm.trans hf) |>.symm
  obtain rfl : fn = Tryd.f7 := (Option.some.inj (Tryd.func7.symm.trans hfn)).symm
  refine ⟨by kernel_rfl, fun j t ht => ?_⟩
  have hall : ∀ t ∈ Tryd.f7.params.toList, Tryd.prog.wantsStandIn t = false := by
    rw [Tryd.params7]
    intro t ht
    simp at ht
    rcases ht with rfl | rfl | rfl
    · kernel_rfl
    · kernel_rfl
    · kernel_rfl
  exact hall t (Array.mem_toList_iff.2 (Array.mem_of_getElem? ht))

theorem card : Rows.CrcBurstsCardSaid :=
  Claim7.holds_tied_plain_at .later [] _ _ _ _ said (fun _ h => by cases h) (by kernel_rfl) (fun _ h => by cases h) crcBursts_row_tie rfl ⟨rfl, rfl⟩ (by kernel_rfl) rfl plain (by kernel_rfl)
end Go.Proofs.YtmnaomdnjaiggaaDoor.crcBursts
