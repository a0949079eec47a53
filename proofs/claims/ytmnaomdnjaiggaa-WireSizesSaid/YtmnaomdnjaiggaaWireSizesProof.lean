/- THE LAW WireSizes: a number has as many bytes as its size asks for, and its opposite less one as many; a text as many as its count's number and itself; whatever the input. -/
import Derived.Test.YtmnaomdnjaiggaaRows
import Derived.Test.YtmnaomdnjaiggaaWireW
import Derived.Test.YtmnaomdnjaiggaaLaw
import Derived.Test.YtmnaomdnjaiggaaReg
import Derived.ChangeMaps5
namespace Go.Proofs.Ytmnaomdnjaiggaa.wireSizes
open Go.ChangeShapes Go.WideShapes Go.ChangeAt Go.RowKit Go.ChangeMaps

theorem own : ownKnob Try.prog.godebug = none := by kernel_rfl
theorem laidOut : laidOutB Try.prog = true := by kernel_rfl
theorem readable : ∀ t ∈ Try.f4.params.toList, Try.prog.readableRec t = true ∧ t < Try.prog.types.size := by
  rw [Try.params4]
  intro t ht
  simp at ht
  rcases ht with rfl | rfl
  · exact ⟨by kernel_rfl, of_decide_eq_true (by kernel_rfl)⟩
  · exact ⟨by kernel_rfl, of_decide_eq_true (by kernel_rfl)⟩

theorem wrap_sum (m : Nat) (h : m ≤ 2000) : ((Go.Proofs.Ytmnaomdnjaiggaa.enc m).length : Int) + m = wrap64 (((Go.Proofs.Ytmnaomdnjaiggaa.enc m).length : Int) + m) := by
  have := enc_len m (by omega) (by omega)
  unfold wrap64
  omega
theorem str_len (s : ByteArray) (hs : s.size ≤ 1099511627776) (w : World) :
    Calls Try.prog 11 #[.string s] w fun e w' => ∃ ao cap, e = .returned (.slice ao ((Go.Proofs.Ytmnaomdnjaiggaa.enc s.size).length + s.size) cap) ∧ Below w.heap.size w w' := by
  refine (str_any s hs w).mono ?_
  rintro e w' ⟨ao, cap, rfl, _, hb⟩
  exact ⟨ao, cap, by rw [List.length_append, Array.length_toList]; rfl, hb⟩

set_option maxRecDepth 100000 in
set_option maxHeartbeats 1000000 in
theorem walk (n : Int) (h0 : -9223372036854775808 ≤ n) (h1 : n ≤ 9223372036854775807) (s : ByteArray) (hsz : s.size ≤ 9223372036854775807) (w : World) :
    Calls Try.prog 4 #[.int .i64 n, .string s] w (Says w (.bool true)) := by
  have hzz : Go.Proofs.Ytmnaomdnjaiggaa.enc n = numB (zz n) := rfl
  have hl10 := enc_len n h0 h1
  have hopp := enc_len_opp n
  have hex : (s.extract 0 2000).size ≤ 2000 := by simp [ByteArray.size_extract]; omega
  have hm1 : -9223372036854775808 ≤ -1 - n ∧ -1 - n ≤ 9223372036854775807 := by omega
  have HN := Lib.hid (And.intro (And.intro h0 h1) hm1)
  clear hm1
  have hz0 : 0 ≤ n → (zz n : Int) = n * 2 := by intro h; unfold zz; rw [if_pos h]; omega
  by_cases hn : n < 0
  all_goals
    first
      | have hbits : bits BinOp.xor IntKind.u64 IntKind.u64.max (IntKind.u64.wrap (IntKind.u64.wrap n * 2)) = (zz n : Int) := not_zz n h0 hn
      | have hbits : n * 2 = (zz n : Int) := (hz0 (by omega)).symm
    clear hz0
    generalize zz n = z at hbits hzz
    have HZ := Lib.hid hzz
    have HO := Lib.hid hopp
    have HB := Lib.hid hbits
    clear hzz hopp hbits
    by_cases hs2 : 2000 < s.size
  all_goals
    go_enter Try.func4, Try.ntmps4
    go_wp2_with fail
    go_loop [5, 6] (fun j u => ∃ (k q : Nat), j = .int .i64 (q : Int) ∧ u = .int .u64 (k : Int) ∧ q + (numB k).length = (Go.Proofs.Ytmnaomdnjaiggaa.enc n).length + 1) (fun _ u => (intOf u).toNat)
    case atStart => exact ⟨z, 1, rfl, congrArg (Value.int .u64) HB.out, by rw [HZ.out]; omega⟩
    case round =>
      obtain ⟨k, q, rfl, rfl, hk⟩ := hrel
      have hpos := numB_pos k
      have hq : q ≤ 10 := by omega
      have HK := Lib.hid hk
      clear hk hpos HB HZ
      by_cases hk : 128 ≤ k
      · go_wp2
        go_round
        case rel => exact ⟨k / 128, q + 1, by simp, by simp, by have := HK.out; rw [numB_hi k (by omega)] at this; simp at this; omega⟩
        case measure => simp [intOf]; omega
      · have hq2 : q = (Go.Proofs.Ytmnaomdnjaiggaa.enc n).length := by have := HK.out; rw [numB_lo k (by omega)] at this; simp at this; omega
        subst hq2
        go_wp2_with fail
        refine (wires_any _).mono ?_
        rintro e w1 ⟨rfl, hb1⟩
        have B1 := Lib.hid hb1
        clear hb1
        go_wp2_with fail
        refine (num_any n HN.out.1.1 HN.out.1.2 _).mono ?_
        rintro e w2 ⟨ao, cap, rfl, hown2, hb2⟩
        have B2 := Lib.hid hb2
        clear hown2 hb2
        go_wp2_with fail
        refine (num_any (-1 - n) HN.out.2.1 HN.out.2.2 _).mono ?_
        rintro e w3 ⟨ao3, cap3, rfl, hown3, hb3⟩
        rw [HO.out]
        have B3 := Lib.hid hb3
        clear hown3 hb3
        go_wp2_with fail
        refine (str_len _ (by first | (rw [ByteArray.size_extract]; omega) | omega) _).mono ?_
        rintro e w4 ⟨ao4, cap4, rfl, hb4⟩
        have B4 := Lib.hid hb4
        clear hb4
        go_wp2_with fail
        refine (num_any _ (by omega) (by first | (rw [ByteArray.size_extract]; omega) | omega) _).mono ?_
        rintro e w5 ⟨ao5, cap5, rfl, hown5, hb5⟩
        clear hown5
        have B5 := Lib.hid hb5
        clear hb5
        go_wp2_with fail
        all_goals
          go_ret
          have g1 := B1.out.size
          have g2 := B2.out.size
          have g3 := B3.out.size
          have g4 := B4.out.size
          exact ⟨by (try simp); (try exact wrap_sum _ (by omega)), B1.out.trans ((B2.out.mono (by omega)).trans ((B3.out.mono (by omega)).trans ((B4.out.mono (by omega)).trans (B5.out.mono (by omega)))))⟩

set_option maxRecDepth 100000 in
theorem lifted (os : Os) (started : os.Started) (H : Type) (enc : TypeId × Value → H) :
    ReturnsInHanded {} Try.checked os 4 .any (Rows.wireSizesSpec.pre6 enc Try.prog Try.f4 Rows.wireSizesRow.domain false) (Rows.wireSizesSpec.post enc Try.prog Try.f4 false true false false) := by
  refine returnsInHanded_of_change (C := Try.checked) own started (by kernel_rfl) Try.func4
    (ChangeSpec.witness6 (enc := enc) (C := Try.checked) false ⟨#[], #[.int .i64 0, .string ⟨#[]⟩], []⟩ 8 (by kernel_rfl) (by kernel_rfl) (by kernel_rfl) (by kernel_rfl)) ?_
  intro W base args ds gs before hval0 hW hcnd _
  have hval : ∀ (j : Nat) t v, Try.f4.params[j]? = some t → args[j]? = some v → Value.okWide Try.prog W .any base t v := hval0
  have hW' := hW
  obtain ⟨p, q, hA0, hV, rfl, hfz, hnd⟩ := hW
  have hA : DataW.TrodAll enc Try.prog W 0 (fun _ => true) true Try.f4.params.toList args.toList ds p := hA0
  rw [Try.params4] at hA hval
  obtain ⟨v0, v1, d0, d1, p0, p1, rfl, rfl, rfl, h0, h1⟩ := trodAll_two hA
  obtain ⟨rfl, rfl⟩ := trodVars_none hV
  obtain ⟨a, rfl, rfl, rfl, wa⟩ := open_int Try.underlying3 (hval 0 3 v0 rfl rfl) h0
  obtain ⟨s, rfl, rfl, rfl, ws⟩ := open_string Try.underlying9 (hval 1 9 v1 rfl rfl) h1
  have ha : -9223372036854775808 ≤ a ∧ a ≤ 9223372036854775807 := by simpa [Lit.wf, IntKind.min, IntKind.max, IntKind.signed, IntKind.bits] using wa
  refine (walk a ha.1 ha.2 s (by unfold maxLen at ws; omega) W).mono fun e W' ⟨he, hb⟩ => ?_
  subst he
  exact ⟨_, rfl, post_law laidOut rfl rfl Try.underlying4 readable rfl rfl rfl hW' hb⟩

theorem proved : Rows.WireSizesSaid :=
  OpenClaim.holds_of_wide 4 Try.f4 rfl rfl rfl rfl rfl rfl rfl ⟨rfl, rfl, rfl, rfl, rfl⟩ rfl rfl rfl rfl rfl (by kernel_rfl) Try.func4 (by kernel_rfl)
    (of_decide_eq_true (by kernel_rfl)) (by unfold Func.isWrapper; first | (rw [if_pos (by decide +kernel)]; kernel_rfl) | (rw [if_neg (by decide +kernel)]; exact ⟨rfl, rfl⟩))
    (fun os started H enc _ => lifted os started H enc)
end Go.Proofs.Ytmnaomdnjaiggaa.wireSizes
