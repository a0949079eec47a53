/- THE LAW WireWrites: of all numbers and texts the bytes that wire.Num and wire.Str give are the document's, whatever the input. -/
import Derived.Test.YtmnaomdnjaiggaaRows
import Derived.Test.YtmnaomdnjaiggaaWireW
import Derived.Test.YtmnaomdnjaiggaaLaw
import Derived.Test.YtmnaomdnjaiggaaReg
import Derived.ChangeMaps5
namespace Go.Proofs.Ytmnaomdnjaiggaa.wireWrites
open Go.ChangeShapes Go.WideShapes Go.ChangeAt Go.RowKit Go.ChangeMaps

theorem own : ownKnob Try.prog.godebug = none := by kernel_rfl
theorem laidOut : laidOutB Try.prog = true := by kernel_rfl
theorem readable : ∀ t ∈ Try.f3.params.toList, Try.prog.readableRec t = true ∧ t < Try.prog.types.size := by
  rw [Try.params3]
  intro t ht
  simp at ht
  rcases ht with rfl | rfl
  · exact ⟨by kernel_rfl, of_decide_eq_true (by kernel_rfl)⟩
  · exact ⟨by kernel_rfl, of_decide_eq_true (by kernel_rfl)⟩

set_option maxRecDepth 100000 in
set_option maxHeartbeats 400000 in
theorem walk (n : Int) (h0 : -9223372036854775808 ≤ n) (h1 : n ≤ 9223372036854775807) (s : ByteArray) (w : World) :
    Calls Try.prog 3 #[.int .i64 n, .string s] w (Says w (.bool true)) := by
  by_cases hs : 3000 < s.size
  · go_enter Try.func3, Try.ntmps3
    go_wp2_with fail
    refine (wires_any w).mono ?_
    rintro e w1 ⟨rfl, hbel⟩
    go_wp2
    go_ret
    exact ⟨rfl, hbel⟩
  · have hs' : s.size ≤ 1099511627776 := by omega
    have HN := Lib.hid (And.intro h0 h1)
    clear h0 h1
    go_enter Try.func3, Try.ntmps3
    go_wp2_with fail
    refine seq_start (by kernel_rfl) ?_
    refine seq_run 0 rfl (by kernel_rfl) (by rfl) (fun K hK => ?_)
    go_wp2_with fail
    refine (wires_any _).mono ?_
    rintro e w1 ⟨rfl, hb1⟩
    go_wp2_with fail
    refine ⟨hb1, ?_⟩
    refine seq_take 1 (v := ?v1) rfl (by kernel_rfl) (fun _ _ _ h => h) (by rfl) (fun w' _ => ?hy1) ?_
    case hy1 => go_simp; try with_reducible rfl
    try simp only [List.getElem_toArray, List.getElem_cons_succ, List.getElem_cons_zero, Act.put, List.setIfInBounds_toArray, List.set_cons_zero, List.set_cons_succ]
    refine seq_take 2 (v := ?v2) rfl (by kernel_rfl) (fun _ _ _ h => h) (by rfl) (fun w' _ => ?hy2) ?_
    case hy2 => go_simp; try with_reducible rfl
    try simp only [List.getElem_toArray, List.getElem_cons_succ, List.getElem_cons_zero, Act.put, List.setIfInBounds_toArray, List.set_cons_zero, List.set_cons_succ]
    refine seq_take 5 (v := ?v5) rfl (by kernel_rfl) (fun _ _ _ h => h) (by rfl) (fun w' _ => ?hy5) ?_
    case hy5 => go_simp; try with_reducible rfl
    try simp only [List.getElem_toArray, List.getElem_cons_succ, List.getElem_cons_zero, Act.put, List.setIfInBounds_toArray, List.set_cons_zero, List.set_cons_succ]
    refine seq_run 3 rfl (by kernel_rfl) (by rfl) (fun K hK => ?_)
    go_wp2_with fail
    refine (num_any n HN.out.1 HN.out.2 _).mono ?_
    rintro e w2 ⟨ao, cap, rfl, hown2, hb2⟩
    have H2 := Lib.hid hown2
    clear hown2
    go_wp2_with fail
    refine ⟨hb2, ?_⟩
    refine seq_take 4 rfl (by kernel_rfl) (fun _ _ _ h => h) (by rfl) (seq_conv rfl rfl (At.own H2.out) (by first | rfl | simp)) ?_
    try simp only [List.getElem_toArray, List.getElem_cons_succ, List.getElem_cons_zero, Act.put, List.setIfInBounds_toArray, List.set_cons_zero, List.set_cons_succ]
    refine seq_run 6 rfl (by kernel_rfl) (by rfl) (fun K hK => ?_)
    go_wp2_with fail
    refine (refnum_any n HN.out.1 HN.out.2 _).mono ?_
    rintro e w3 ⟨rfl, hb3⟩
    go_wp2_with fail
    refine ⟨hb3, ?_⟩
    refine seq_take 7 (v := ?v7) rfl (by kernel_rfl) (fun _ _ _ h => h) (by rfl) (fun w' _ => ?hy7) ?_
    case hy7 => go_simp; try with_reducible rfl
    try simp only [List.getElem_toArray, List.getElem_cons_succ, List.getElem_cons_zero, Act.put, List.setIfInBounds_toArray, List.set_cons_zero, List.set_cons_succ]
    refine seq_take 8 (v := ?v8) rfl (by kernel_rfl) (fun _ _ _ h => h) (by rfl) (fun w' _ => ?hy8) ?_
    case hy8 => go_simp; try with_reducible rfl
    try simp only [List.getElem_toArray, List.getElem_cons_succ, List.getElem_cons_zero, Act.put, List.setIfInBounds_toArray, List.set_cons_zero, List.set_cons_succ]
    refine seq_take 9 (v := ?v9) rfl (by kernel_rfl) (fun _ _ _ h => h) (by rfl) (fun w' _ => ?hy9) ?_
    case hy9 => go_simp; try with_reducible rfl
    try simp only [List.getElem_toArray, List.getElem_cons_succ, List.getElem_cons_zero, Act.put, List.setIfInBounds_toArray, List.set_cons_zero, List.set_cons_succ]
    refine seq_take 10 (v := ?v10) rfl (by kernel_rfl) (fun _ _ _ h => h) (by rfl) (fun w' _ => ?hy10) ?_
    case hy10 => go_simp; try with_reducible rfl
    try simp only [List.getElem_toArray, List.getElem_cons_succ, List.getElem_cons_zero, Act.put, List.setIfInBounds_toArray, List.set_cons_zero, List.set_cons_succ]
    refine seq_take 13 (v := ?v13) rfl (by kernel_rfl) (fun _ _ _ h => h) (by rfl) (fun w' _ => ?hy13) ?_
    case hy13 => go_simp; try with_reducible rfl
    try simp only [List.getElem_toArray, List.getElem_cons_succ, List.getElem_cons_zero, Act.put, List.setIfInBounds_toArray, List.set_cons_zero, List.set_cons_succ]
    refine seq_run 11 rfl (by kernel_rfl) (by rfl) (fun K hK => ?_)
    go_wp2_with fail
    refine (str_any s hs' _).mono ?_
    rintro e w4 ⟨ao4, cap4, rfl, hown4, hb4⟩
    have H4 := Lib.hid hown4
    clear hown4
    go_wp2_with fail
    refine ⟨hb4, ?_⟩
    refine seq_take 12 rfl (by kernel_rfl) (fun _ _ _ h => h) (by rfl) (seq_conv rfl rfl (At.own H4.out) (by first | rfl | simp)) ?_
    try simp only [List.getElem_toArray, List.getElem_cons_succ, List.getElem_cons_zero, Act.put, List.setIfInBounds_toArray, List.set_cons_zero, List.set_cons_succ]
    refine seq_run 14 rfl (by kernel_rfl) (by rfl) (fun K hK => ?_)
    go_wp2_with fail
    refine (refstr_any s hs' _).mono ?_
    rintro e w5 ⟨rfl, hb5⟩
    go_wp2_with fail
    refine ⟨hb5, ?_⟩
    refine seq_take 15 (v := ?v15) rfl (by kernel_rfl) (fun _ _ _ h => h) (by rfl) (fun w' _ => ?hy15) ?_
    case hy15 => go_simp; try with_reducible rfl
    try simp only [List.getElem_toArray, List.getElem_cons_succ, List.getElem_cons_zero, Act.put, List.setIfInBounds_toArray, List.set_cons_zero, List.set_cons_succ]
    refine seq_take 16 (v := ?v16) rfl (by kernel_rfl) (fun _ _ _ h => h) (by rfl) (fun w' _ => ?hy16) ?_
    case hy16 => go_simp; try with_reducible rfl
    try simp only [List.getElem_toArray, List.getElem_cons_succ, List.getElem_cons_zero, Act.put, List.setIfInBounds_toArray, List.set_cons_zero, List.set_cons_succ]
    refine seq_take 17 (v := ?v17) rfl (by kernel_rfl) (fun _ _ _ h => h) (by rfl) (fun w' _ => ?hy17) ?_
    case hy17 => go_simp; try with_reducible rfl
    try simp only [List.getElem_toArray, List.getElem_cons_succ, List.getElem_cons_zero, Act.put, List.setIfInBounds_toArray, List.set_cons_zero, List.set_cons_succ]
    refine seq_done (by kernel_rfl) ?_
    go_wp2
    go_ret
    have g1 := hb1.size
    have g2 := hb2.size
    have g3 := hb3.size
    have g4 := hb4.size
    simp only [World.size_drew] at g1
    exact ⟨rfl, (Below.refl _ w).drew.trans (hb1.trans ((hb2.mono (by simp; omega)).trans ((hb3.mono (by simp; omega)).trans ((hb4.mono (by simp; omega)).trans (hb5.mono (by simp; omega))))))⟩

set_option maxRecDepth 100000 in
theorem lifted (os : Os) (started : os.Started) (H : Type) (enc : TypeId × Value → H) :
    ReturnsInHanded {} Try.checked os 3 .any (Rows.wireWritesSpec.pre6 enc Try.prog Try.f3 Rows.wireWritesRow.domain false) (Rows.wireWritesSpec.post enc Try.prog Try.f3 false true false false) := by
  refine returnsInHanded_of_change (C := Try.checked) own started (by kernel_rfl) Try.func3
    (ChangeSpec.witness6 (enc := enc) (C := Try.checked) false ⟨#[], #[.int .i64 0, .string ⟨#[]⟩], []⟩ 8 (by kernel_rfl) (by kernel_rfl) (by kernel_rfl) (by kernel_rfl)) ?_
  intro W base args ds gs before hval0 hW hcnd _
  have hval : ∀ (j : Nat) t v, Try.f3.params[j]? = some t → args[j]? = some v → Value.okWide Try.prog W .any base t v := hval0
  have hW' := hW
  obtain ⟨p, q, hA0, hV, rfl, hfz, hnd⟩ := hW
  have hA : DataW.TrodAll enc Try.prog W 0 (fun _ => true) true Try.f3.params.toList args.toList ds p := hA0
  rw [Try.params3] at hA hval
  obtain ⟨v0, v1, d0, d1, p0, p1, rfl, rfl, rfl, h0, h1⟩ := trodAll_two hA
  obtain ⟨rfl, rfl⟩ := trodVars_none hV
  obtain ⟨a, rfl, rfl, rfl, wa⟩ := open_int Try.underlying3 (hval 0 3 v0 rfl rfl) h0
  obtain ⟨s, rfl, rfl, rfl, ws⟩ := open_string Try.underlying9 (hval 1 9 v1 rfl rfl) h1
  have ha : -9223372036854775808 ≤ a ∧ a ≤ 9223372036854775807 := by simpa [Lit.wf, IntKind.min, IntKind.max, IntKind.signed, IntKind.bits] using wa
  refine (walk a ha.1 ha.2 s W).mono fun e W' ⟨he, hb⟩ => ?_
  subst he
  exact ⟨_, rfl, post_law laidOut rfl rfl Try.underlying4 readable rfl rfl rfl hW' hb⟩

theorem proved : Rows.WireWritesSaid :=
  OpenClaim.holds_of_wide 3 Try.f3 rfl rfl rfl rfl rfl rfl rfl ⟨rfl, rfl, rfl, rfl, rfl⟩ rfl rfl rfl rfl rfl (by kernel_rfl) Try.func3 (by kernel_rfl)
    (of_decide_eq_true (by kernel_rfl)) (by unfold Func.isWrapper; first | (rw [if_pos (by decide +kernel)]; kernel_rfl) | (rw [if_neg (by decide +kernel)]; exact ⟨rfl, rfl⟩))
    (fun os started H enc _ => lifted os started H enc)
end Go.Proofs.Ytmnaomdnjaiggaa.wireWrites
