/- The walks of the document's Right, of both Tames. -/
import Derived.Test.YtnhdefaagicejaaMatA
import Derived.Deep.CutRange
import Derived.Deep.CutBlock
namespace Go.Proofs.Ytnhdefaagicejaa
set_option linter.unusedSimpArgs false
set_option linter.unusedVariables false
open Go.RowKit

theorem rightP_mk (k m : Int) (t : List UInt8) (ks : List PV) : rightP (.mk k m t ks) = (decide (0 ≤ k ∧ k ≤ 6 ∧ (k = 5 → 0 ≤ m)) && (decide (k < 5) || rightPs ks)) := by rw [rightP]
/-- What a call to Right leaves. -/
def RRightOk (N : Nat) : Prop := ∀ (x : PV) (w : World) (D : Nat → Prop) (cs : List Value), VIn w D N cs x →
  Calls Try.prog 14 #[.agg cs.toArray] w (fun e w' => e = .returned (.bool (rightP x)) ∧ Below w.heap.size w w')
set_option maxRecDepth 100000 in
set_option maxHeartbeats 8000000 in
theorem rright_any : ∀ N : Nat, RRightOk N
  | 0 => fun _ _ _ _ h => h.elim
  | N + 1 => by
    have ih := rright_any N
    rintro ⟨k, m, t, ks⟩ w D cs h
    obtain ⟨ko, kcap, hv, hcs, hkc, hR, hks⟩ := h.val
    rw [hv]
    unfold patV
    have hkl : ks.length ≤ 9223372036854775807 := by omega
    obtain ⟨W, hW⟩ : ∃ W, w.alloc (.cells #[.int .i64 k, .int .i64 m, .string ⟨t.toArray⟩, .slice ko ks.length kcap] 37) = W := ⟨_, rfl⟩
    have hbW : Below w.heap.size w W := by rw [← hW]; exact (Below.refl _ _).alloc (Nat.le_refl _) _
    have hpW : PatAt W w.heap.size k m t ko ks.length kcap := by rw [← hW]; exact PatAt.new w _ _ _ _ _ _ _
    have hsW := hbW.size
    have H := Lib.hid (And.intro hbW (And.intro hpW (And.intro (hks.below hbW) hW)))
    clear h hv hcs hkc hR hks hbW hpW
    go_enter Try.func14, Try.ntmps14
    go_upto_region 1 with (fail)
    clear hW
    obtain ⟨a0, a1, a2, a3⟩ := H.out.2.1
    go_cut [21] from 4 to 21 (fun v21 w' => v21 = .bool (!decide (0 ≤ k ∧ k ≤ 6 ∧ (k = 5 → 0 ≤ m))) ∧ w' = W)
    case first =>
      by_cases h0 : k < 0
      · have d0 : decide (k < 0) = true := decide_eq_true h0
        have HQ := Lib.hid (show (!decide (0 ≤ k ∧ k ≤ 6 ∧ (k = 5 → 0 ≤ m))) = true by rw [decide_eq_false (by omega)]; rfl)
        go_wp2_with fail
        go_meet
        case rel => exact ⟨by rw [HQ.out], rfl⟩
      · have d0 : decide (k < 0) = false := decide_eq_false h0
        by_cases h6 : 6 < k
        · have d6 : decide (6 < k) = true := decide_eq_true h6
          have HQ := Lib.hid (show (!decide (0 ≤ k ∧ k ≤ 6 ∧ (k = 5 → 0 ≤ m))) = true by rw [decide_eq_false (by omega)]; rfl)
          go_wp2_with fail
          go_meet
          case rel => exact ⟨by rw [HQ.out], rfl⟩
        · have d6 : decide (6 < k) = false := decide_eq_false h6
          by_cases h5 : k = 5
          · have d5 : decide (k = 5) = true := decide_eq_true h5
            have b5 : (k == 5) = true := by simp [h5]
            by_cases hm : m < 0
            · have dm : decide (m < 0) = true := decide_eq_true hm
              have HQ := Lib.hid (show (!decide (0 ≤ k ∧ k ≤ 6 ∧ (k = 5 → 0 ≤ m))) = true by rw [decide_eq_false (by omega)]; rfl)
              clear h5
              go_wp2_with fail
              go_meet
              case rel => exact ⟨by rw [HQ.out], rfl⟩
            · have dm : decide (m < 0) = false := decide_eq_false hm
              have HQ := Lib.hid (show (!decide (0 ≤ k ∧ k ≤ 6 ∧ (k = 5 → 0 ≤ m))) = false by rw [decide_eq_true (by omega)]; rfl)
              clear h5
              go_wp2_with fail
              go_meet
              case rel => exact ⟨by rw [HQ.out], rfl⟩
          · have d5 : decide (k = 5) = false := decide_eq_false h5
            have b5 : (k == 5) = false := by simp [h5]
            have HQ := Lib.hid (show (!decide (0 ≤ k ∧ k ≤ 6 ∧ (k = 5 → 0 ≤ m))) = false by rw [decide_eq_true (by omega)]; rfl)
            go_wp2_with fail
            go_meet
            case rel => exact ⟨by rw [HQ.out], rfl⟩
    case rest =>
      obtain ⟨rfl, rfl⟩ := hcut
      obtain ⟨q, hq⟩ : ∃ q, decide (0 ≤ k ∧ k ≤ 6 ∧ (k = 5 → 0 ≤ m)) = q := ⟨_, rfl⟩
      rw [hq]
      have HQ := Lib.hid hq
      clear hq
      cases q
      · go_wp2_with fail
        go_ret
        exact ⟨by rw [rightP_mk, HQ.out]; rfl, H.out.1⟩
      · go_wp2_with fail
        go_loopw [3] (fun v3 wr => ∃ i : Nat, i ≤ ks.length ∧ v3 = .int .i64 (i : Int) ∧ (∀ j (hj : j < ks.length), j < i → rightP ks[j] = true) ∧ Below wc.heap.size wc wr) (fun v3 _ => ks.length - (intOf v3).toNat)
        case atStart => exact ⟨0, by omega, rfl, fun j hj h => by omega, Below.refl _ _⟩
        case round =>
          obtain ⟨i, hi, rfl, hall, hbr⟩ := hrel
          have hsr := hbr.size
          obtain ⟨a0, a1, a2, a3⟩ := H.out.2.1.below hbr
          have HO := Lib.hid (And.intro hall hbr)
          clear hall hbr
          by_cases hil : i < ks.length
          · have hd1 : decide ((i : Int) < (ks.length : Int)) = true := decide_eq_true (by omega)
            have hilz : (i : Int) < (ks.length : Int) := by omega
            by_cases h5 : 5 ≤ k
            · have d5 : decide (5 ≤ k) = true := decide_eq_true h5
              have d5' : decide (k < 5) = false := decide_eq_false (by omega)
              cases N with
              | zero =>
                obtain ⟨_, _, _, _, hv, _⟩ := H.out.2.2.1.get i hil
                exact hv.elim
              | succ n' =>
              obtain ⟨b, o, k2, m2, t2, kao, kks, kcap2, rfl, hx, hv, c0, c1, c2, c3, hblt⟩ := (H.out.2.2.1.below HO.out.2).cells i hil
              have hr := ih _ wr _ _ hv
              obtain ⟨z, hz⟩ : ∃ z, rightP (.mk k2 m2 t2 kks) = z := ⟨_, rfl⟩
              rw [hz] at hr
              have HR := Lib.hid (And.intro hr (And.intro hx (And.intro hz d5')))
              clear hr hx hz hv d5'
              go_wp2_with fail
              refine HR.out.1.mono ?_
              rintro e w2 ⟨rfl, hb2⟩
              have H2 := Lib.hid (HO.out.2.trans (hb2.mono hsr))
              clear hb2 c0 c1 c2 c3
              cases z
              · go_wp2_with fail
                go_ret
                exact ⟨by rw [rightP_mk, HQ.out, HR.out.2.2.2, rightPs_false i hil (by rw [HR.out.2.1]; exact HR.out.2.2.1)]; rfl, H.out.1.trans (H2.out.mono hsW)⟩
              · go_wp2_with fail
                go_roundw
                case rel =>
                  refine ⟨_, _, _, _, _, _, _, _, _, _, _, _, _, _, _, _, _, _, _, _, _, ⟨i + 1, by omega, by simp, fun j hj hji => ?_, H2.out⟩, rfl⟩
                  rcases Nat.lt_or_ge j i with h | h
                  · exact HO.out.1 j hj h
                  · obtain rfl : j = i := by omega
                    rw [HR.out.2.1]
                    exact HR.out.2.2.1
                case measure => simp [intOf]; omega
            · have d5 : decide (5 ≤ k) = false := decide_eq_false h5
              have HZ := Lib.hid (show decide (k < 5) = true from decide_eq_true (by omega))
              go_wp2_with fail
              go_ret
              exact ⟨by rw [rightP_mk, HQ.out, HZ.out]; rfl, H.out.1.trans (HO.out.2.mono hsW)⟩
          · obtain rfl : i = ks.length := by omega
            have hd1 : decide ((ks.length : Int) < (ks.length : Int)) = false := decide_eq_false (by omega)
            have HZ := Lib.hid (show rightPs ks = true from rightPs_true fun j hj => HO.out.1 j hj hj)
            go_wp2_with fail
            go_ret
            exact ⟨by rw [rightP_mk, HQ.out, HZ.out]; simp, H.out.1.trans (HO.out.2.mono hsW)⟩
theorem results_ptame (tmps : Array Value) (W : World) (g : Nat) (k m : Int) (t : List UInt8) (ao : Option Addr) (n cap : Nat) (z : Value) (hp : tmps[6]?.getD undef = .pointer (some ⟨g, 0, none⟩)) (hz : tmps[7]?.getD undef = z) (hc : PatAt W g k m t ao n cap) :
    (results Try.f12 tmps).run Try.prog W = .ok (.tuple #[patV k m t ao n cap, z]) W := by
  obtain ⟨c0, c1, c2, c3⟩ := hc
  have hu := Try.underlying37
  unfold patV
  simp only [results, Try.results12]
  go_simp
theorem infoRP : (Try.prog.info? 37).map (fun i => (i.zero, i.size, i.bytes)) = some (some (.agg #[.int .i64 0, .int .i64 0, .string ⟨#[]⟩, .slice none 0 0]), 4, 56) := by kernel_rfl
theorem sizeVs_snoc : ∀ (ys : List PV) (y : PV), sizeVs (ys ++ [y]) = sizeVs ys + sizeV y
  | [], y => by simp [sizeVs]
  | x :: xs, y => by rw [List.cons_append, sizeVs, sizeVs, sizeVs_snoc xs y]; omega
/-- What Tame leaves: so many parts fewer are left. -/
def TameLeaves (N : Nat) (left : Nat) (w : World) (e : Ending) (w' : World) : Prop :=
  ∃ (cs' : List Value) (y : PV) (z : Nat), e = .returned (.tuple #[.agg cs'.toArray, .int .i64 (z : Int)]) ∧ sizeV y + z = left ∧ VIn w' (fun b => w.heap.size ≤ b ∧ b < w'.heap.size) N cs' y ∧ Below w.heap.size w w'
def PTameOk (N : Nat) : Prop := ∀ (x : PV) (w : World) (D : Nat → Prop) (cs : List Value), VIn w D N cs x → (∀ b, D b → b < w.heap.size) → ∀ (deep left : Nat), 1 ≤ deep → deep ≤ 100 → 1 ≤ left → left ≤ 60 →
  Calls Try.prog 12 #[.agg cs.toArray, .int .i64 (deep : Int), .int .i64 (left : Int)] w (TameLeaves N left w)
set_option maxRecDepth 100000 in
set_option maxHeartbeats 8000000 in
theorem ptame_any : ∀ N : Nat, PTameOk N
  | 0 => fun _ _ _ _ h => h.elim
  | N + 1 => by
    have ih := ptame_any N
    rintro ⟨k, m, t, ks⟩ w D cs h hD deep left hd1 hd2 hl1 hl2
    obtain ⟨g, hg⟩ : ∃ g, w.heap.size = g := ⟨_, rfl⟩
    obtain ⟨ko, kcap, hv, hcs, hkc, hR, hks⟩ := h.val
    rw [hv]
    unfold patV
    have hkl : ks.length ≤ 9223372036854775807 := by omega
    obtain ⟨n5, hn5⟩ : ∃ n5, min t.length 20 = n5 := ⟨_, rfl⟩
    have hn5l : n5 ≤ t.length := by omega
    have HM := Lib.hid (And.intro (show min ((t.length : Nat) : Int) 20 = (n5 : Int) by omega) (show ByteArray.extract ⟨t.toArray⟩ 0 n5 = ⟨(t.take n5).toArray⟩ by rw [ByteArray.extract_mk]; simp))
    obtain ⟨W1, hW1⟩ : ∃ W1, (w.alloc (.cells #[.int .i64 k, .int .i64 m, .string ⟨t.toArray⟩, .slice ko ks.length kcap] 37)).alloc (.cells #[.int .i64 0, .int .i64 0, .string ⟨#[]⟩, .slice none 0 0] 37) = W1 := ⟨_, rfl⟩
    have hp1 : PatAt W1 g k m t ko ks.length kcap := by
      rw [← hW1, ← hg]
      exact (PatAt.new w _ _ _ _ _ _ _).below ((Below.refl _ _).alloc (Nat.le_refl _) _)
    have HP := Lib.hid (And.intro hp1 hW1)
    have H0 := Lib.hid (And.intro hD (And.intro hR (And.intro hks hg)))
    clear h hv hcs hkc hR hks hD hp1 hn5
    go_enter Try.func12, Try.ntmps12
    go_upto_region 2 with (fail)
    refine seql_start [13] (by kernel_rfl) ?_
    refine seql_take 0 (v := ?_) rfl (by kernel_rfl) (fun _ _ _ h => h) (by rfl) (fun w' hw' => ?_) ?_
    rotate_left
    · go_simp; try with_reducible rfl
    try simp only [List.getElem_toArray, List.getElem_cons_succ, List.getElem_cons_zero, Act.put, List.setIfInBounds_toArray, List.set_cons_zero, List.set_cons_succ]
    refine seql_take 1 rfl (by kernel_rfl) (fun _ _ _ h => h) (by rfl) (seq_ldi rfl rfl (HP.out.1.1)) ?_
    try simp only [List.getElem_toArray, List.getElem_cons_succ, List.getElem_cons_zero, Act.put, List.setIfInBounds_toArray, List.set_cons_zero, List.set_cons_succ]
    refine seql_take 2 (v := ?_) rfl (by kernel_rfl) (fun _ _ _ h => h) (by rfl) (fun w' hw' => ?_) ?_
    rotate_left
    · go_simp; try with_reducible rfl
    try simp only [List.getElem_toArray, List.getElem_cons_succ, List.getElem_cons_zero, Act.put, List.setIfInBounds_toArray, List.set_cons_zero, List.set_cons_succ]
    refine seql_take 3 rfl (by kernel_rfl) (fun _ _ _ h => h) (by rfl) (seq_ldi rfl rfl (HP.out.1.2.1)) ?_
    try simp only [List.getElem_toArray, List.getElem_cons_succ, List.getElem_cons_zero, Act.put, List.setIfInBounds_toArray, List.set_cons_zero, List.set_cons_succ]
    refine seql_take 4 (v := ?_) rfl (by kernel_rfl) (fun _ _ _ h => h) (by rfl) (fun w' hw' => ?_) ?_
    rotate_left
    · go_simp; try with_reducible rfl
    try simp only [List.getElem_toArray, List.getElem_cons_succ, List.getElem_cons_zero, Act.put, List.setIfInBounds_toArray, List.set_cons_zero, List.set_cons_succ]
    refine seql_take 5 rfl (by kernel_rfl) (fun _ _ _ h => h) (by rfl) (seq_lds rfl rfl (HP.out.1.2.2.1)) ?_
    try simp only [List.getElem_toArray, List.getElem_cons_succ, List.getElem_cons_zero, Act.put, List.setIfInBounds_toArray, List.set_cons_zero, List.set_cons_succ]
    refine seql_take 6 (v := ?_) rfl (by kernel_rfl) (fun _ _ _ h => h) (by rfl) (fun w' hw' => ?_) ?_
    rotate_left
    · go_simp; try with_reducible rfl
    try simp only [List.getElem_toArray, List.getElem_cons_succ, List.getElem_cons_zero, Act.put, List.setIfInBounds_toArray, List.set_cons_zero, List.set_cons_succ]
    refine seql_take 7 rfl (by kernel_rfl) (fun _ _ _ h => h) (by rfl) (seq_lds rfl rfl (HP.out.1.2.2.1)) ?_
    try simp only [List.getElem_toArray, List.getElem_cons_succ, List.getElem_cons_zero, Act.put, List.setIfInBounds_toArray, List.set_cons_zero, List.set_cons_succ]
    refine seql_take 8 (v := ?_) rfl (by kernel_rfl) (fun _ _ _ h => h) (by rfl) (fun w' hw' => ?_) ?_
    rotate_left
    · go_simp; try with_reducible rfl
    try simp only [List.getElem_toArray, List.getElem_cons_succ, List.getElem_cons_zero, Act.put, List.setIfInBounds_toArray, List.set_cons_zero, List.set_cons_succ]
    refine seql_take 9 rfl (by kernel_rfl) (fun _ _ _ h => h) (by rfl) (yields_min2 rfl rfl rfl (HM.out.1)) ?_
    try simp only [List.getElem_toArray, List.getElem_cons_succ, List.getElem_cons_zero, Act.put, List.setIfInBounds_toArray, List.set_cons_zero, List.set_cons_succ]
    refine seql_take 10 rfl (by kernel_rfl) (fun _ _ _ h => h) (by rfl) (yields_str_hi (by kernel_rfl) rfl rfl rfl (hn5l)) ?_
    try simp only [List.getElem_toArray, List.getElem_cons_succ, List.getElem_cons_zero, Act.put, List.setIfInBounds_toArray, List.set_cons_zero, List.set_cons_succ]
    refine seql_take 11 (v := ?_) rfl (by kernel_rfl) (fun _ _ _ h => h) (by rfl) (fun w' hw' => ?_) ?_
    rotate_left
    · go_simp; try with_reducible rfl
    try simp only [List.getElem_toArray, List.getElem_cons_succ, List.getElem_cons_zero, Act.put, List.setIfInBounds_toArray, List.set_cons_zero, List.set_cons_succ]
    refine seql_run 12 rfl (by kernel_rfl) (by rfl) (fun KK hKK => ?_)
    go_wp2_with fail
    refine ⟨(Below.refl _ W1.drew).alloc (Nat.le_refl _) _, ?_⟩
    refine seql_last 13 rfl (by kernel_rfl) (by kernel_rfl) (by rfl) (fun KK hKK => ?_)
    go_wp2_with fail
    refine seql_done (by kernel_rfl) ?_
    go_upto_block 0 with (fail)
    obtain ⟨q, hq⟩ : ∃ q, W1.heap.size = q := ⟨_, rfl⟩
    obtain ⟨t', ht'⟩ : ∃ t', t.take n5 = t' := ⟨_, rfl⟩
    obtain ⟨W, hW⟩ : ∃ W, (W1.alloc (.cells #[.int .i64 k, .int .i64 m, .string ⟨t'.toArray⟩, .slice none 0 0] 37)).drew = W := ⟨_, rfl⟩
    rw [hq, ht', hW]
    have hgq : g + 2 = q := by rw [← hq, ← HP.out.2, ← H0.out.2.2.2]; simp
    have hbW : Below g w W := by
      rw [← hW, ← HP.out.2, ← H0.out.2.2.2]
      exact ((((Below.refl _ w).alloc (Nat.le_refl _) _).alloc (by simp) _).alloc (by simp; omega) _).drew
    have hr0 : Row4 W g 37 k m t ko ks.length kcap := by
      rw [← hW, ← HP.out.2, ← H0.out.2.2.2]
      exact (Below.heap_alloc _ _ _ (by simp; omega)).trans ((Below.heap_alloc _ _ _ (by simp)).trans (heap_alloc_new w _))
    have hr1 : Row4 W (g + 1) 37 0 0 [] none 0 0 := by
      rw [← hW, ← HP.out.2, ← H0.out.2.2.2]
      refine (Below.heap_alloc _ _ _ (by simp)).trans ?_
      have := heap_alloc_new (w.alloc (.cells #[.int .i64 k, .int .i64 m, .string ⟨t.toArray⟩, .slice ko ks.length kcap] 37)) (.cells #[.int .i64 0, .int .i64 0, .string ⟨#[]⟩, .slice none 0 0] 37)
      simp only [World.size_alloc] at this
      exact this
    have hr2 : Row4 W q 37 k m t' none 0 0 := by
      rw [← hW, ← hq]
      exact heap_alloc_new W1 _
    have hsW : W.heap.size = q + 1 := by rw [← hW, ← hq]; simp
    have ht5 : t'.length ≤ 9223372036854775807 := by have := H0.out.2.1.2.2.2; rw [← ht', List.length_take]; omega
    have H := Lib.hid (And.intro hbW (And.intro hsW (And.intro hr0 (And.intro hr1 (And.intro (show OutI 37 37 N W q k m t' [] W from ⟨none, 0, hr2, OwnL.nil _ _ _, Keeps.refl _ _⟩) (And.intro (H0.out.2.2.1.below (by rw [H0.out.2.2.2]; exact hbW)) (And.intro (show ∀ b, D b → b < g by rw [← H0.out.2.2.2]; exact H0.out.1) (And.intro (And.intro H0.out.2.1.2.1 (And.intro H0.out.2.1.2.2.1 ht5)) (And.intro H0.out.2.2.2 hgq)))))))))
    clear hq ht' hW hgq hbW hr0 hr1 hr2 hsW ht5 HP H0 HM hn5l
    go_cut [2, 9, 10, 11] from 12 to 59 (fun v2 _ _ _ w' => ∃ (z : Nat) (ys : List PV), v2 = .int .i64 (z : Int) ∧ sizeVs ys + 1 + z = left ∧ OutI 37 37 N W q k m t' ys w')
    case first =>
      go_wp2_with fail
      go_loopw [2, 9] (fun v2 v9 wr => ∃ (i z : Nat) (ys : List PV), i ≤ ks.length ∧ v9 = .int .i64 (i : Int) ∧ v2 = .int .i64 (z : Int) ∧ sizeVs ys + 1 + z = left ∧ ys.length = i ∧ OutI 37 37 N W q k m t' ys wr) (fun v2 _ _ => (intOf v2).toNat)
      case atStart => exact ⟨0, left - 1, [], by omega, rfl, by congr 1; omega, by rw [sizeVs]; omega, rfl, H.out.2.2.2.2.1⟩
      case round =>
        obtain ⟨i, z, ys, hi, rfl, rfl, hz, hyl, ao, cap, hrow, hown, hk⟩ := hrel
        have hsr := hk.size
        have hsW := H.out.2.1
        have hgq := H.out.2.2.2.2.2.2.2.2.2
        have hlt := hown.lt
        have hrg := H.out.2.2.1.keeps hk (by omega)
        obtain ⟨a0, a1, a2, a3⟩ := hrg.pat
        have hyz : ys.length ≤ 60 := by have := kids_le ys; omega
        have hz60 : z < left := by omega
        have HO := Lib.hid (And.intro hrow (And.intro hown (And.intro hk (And.intro hlt (And.intro hz hyl)))))
        clear hrow hown hk hrg hlt hz hyl hgq hsW
        by_cases hgo : i < ks.length ∧ 1 < deep ∧ 0 < z
        · obtain ⟨hga, hgb, hgc⟩ := hgo
          have dA : decide ((i : Int) < (ks.length : Int)) = true := decide_eq_true (by omega)
          have dB : decide (1 < (deep : Int)) = true := decide_eq_true (by omega)
          have dC : decide (0 < (z : Int)) = true := decide_eq_true (by omega)
          have hilz : (i : Int) < (ks.length : Int) := by omega
          cases N with
          | zero =>
            obtain ⟨_, _, _, _, hv, _⟩ := H.out.2.2.2.2.2.1.get i hga
            exact hv.elim
          | succ n' =>
          obtain ⟨b, o, k2, m2, t2, kao, kks, kcap2, rfl, hx, hv, c0, c1, c2, c3, hblt⟩ := (H.out.2.2.2.2.2.1.keeps HO.out.2.2.1 (fun b hb h => by have := H.out.2.2.2.2.2.2.1 b hb; have := H.out.2.1; have := H.out.2.2.2.2.2.2.2.2.2; omega)).cells i hga
          have ht := ih _ wr _ _ hv (fun b hb => by have := H.out.2.2.2.2.2.2.1 b hb; have := H.out.2.1; have := H.out.2.2.2.2.2.2.2.2.2; omega) (deep - 1) z (by omega) (by omega) (by omega) (by omega)
          rw [show (((deep - 1 : Nat)) : Int) = (deep : Int) - 1 by omega] at ht
          have HT := Lib.hid ht
          clear ht hv hx
          go_wp2_with fail
          refine HT.out.mono ?_
          rintro e w2 ⟨cs', y, z2, rfl, hz2, hy, hb2⟩
          obtain ⟨ky, my, ty, kys⟩ := y
          obtain ⟨yo, ycap, hyv, hycs, _⟩ := hy.val
          rw [hyv]
          rw [hycs] at hy
          unfold patV
          obtain ⟨W3, hW3⟩ : ∃ W3, w2.alloc (.cells #[.int .i64 ky, .int .i64 my, .string ⟨ty.toArray⟩, .slice yo kys.length ycap] 37) = W3 := ⟨_, rfl⟩
          obtain ⟨wa, hwa⟩ : ∃ wa, W3.alloc (.cells #[.int .i64 ky, .int .i64 my, .string ⟨ty.toArray⟩, .slice yo kys.length ycap] 37) = wa := ⟨_, rfl⟩
          have hb23 : Below w2.heap.size w2 W3 := by rw [← hW3]; exact (Below.refl _ w2).alloc (Nat.le_refl _) _
          have hb3a : Below W3.heap.size W3 wa := by rw [← hwa]; exact (Below.refl _ W3).alloc (Nat.le_refl _) _
          have hs2 := hb2.size
          have hs23 := hb23.size
          have hb2a : Below w2.heap.size w2 wa := hb23.trans (hb3a.mono hs23)
          have hbra : Below wr.heap.size wr wa := hb2.trans (hb2a.mono hs2)
          have hata : At wa (some ⟨W3.heap.size, 0, none⟩) [.int .i64 ky, .int .i64 my, .string ⟨ty.toArray⟩, .slice yo kys.length ycap] := by rw [← hwa]; exact At.new W3 #[.int .i64 ky, .int .i64 my, .string ⟨ty.toArray⟩, .slice yo kys.length ycap] _
          have hp3 : PatAt W3 w2.heap.size ky my ty yo kys.length ycap := by rw [← hW3]; exact PatAt.new w2 _ _ _ _ _ _ _
          obtain ⟨d0, d1, d2, d3⟩ := hp3
          have hsra := hbra.size
          have hs2a := hb2a.size
          have HA := Lib.hid (And.intro hb2a (And.intro hata (And.intro hbra (And.intro hwa (And.intro hy hz2)))))
          have x3 : W3.cell? ⟨q, 3, none⟩ = some (.slice ao ys.length cap) := ((HO.out.1.keeps (Keeps.of_below (X := fun _ => False) (hb2.trans (hb23.mono hs2))) (fun h => h)).pat).2.2.2
          obtain ⟨i0, hi0, hz0, hz1', hz2'⟩ := info_parts infoRP
          clear hb23 hb3a hb2a hbra hata hwa hy hb2 hyv hycs hz2 c0 c1 c2 c3 a0 a1 a2 a3
          go_wp2_with (first | (at_builtin; rw [HA.out.2.2.2.1]; refine app_own (elemV (n' + 1)) (by decide) rfl _ _ 22 rfl i0 _ 56 Try.underlying22 hi0 hz0 hz1' hz2' rfl (by decide) W.heap.size (DD (fun _ => False) W wa ao) ao cap ys.length ys rfl (by rfl) (own_dd (elemV _) (HO.out.2.1.below (elemV _) HA.out.2.2.1) HA.out.2.2.1.size) [.int .i64 ky, .int .i64 my, .string ⟨ty.toArray⟩, .slice yo kys.length ycap] (.mk ky my ty kys) (HA.out.2.2.2.2.1.part hsr (fun j hj => (HO.out.2.2.2.1 j hj).2) HA.out.1) W3.heap.size (by rfl) HA.out.2.1 (fun b hb => by rcases hb with h | h; exact h.elim; exact h.2.1) (by omega) (by omega) ?_; rintro ao5 cap5 w5 q1 q2 q3; have HS5 := Lib.hid (out_step HO.out.1 HO.out.2.2.1 (by have := H.out.2.1; omega) HO.out.2.2.2.1 HA.out.2.2.1 q1 q2); rw [List.length_append, List.length_singleton] at HS5; obtain ⟨r1, r2, -⟩ := HS5.out; clear q1 q2 q3))
          go_roundw
          case rel =>
            exact ⟨i + 1, z2, ys ++ [.mk ky my ty kys], by omega, by simp, rfl, by have := HA.out.2.2.2.2.2; have := HO.out.2.2.2.2.1; rw [sizeVs_snoc]; omega, by rw [List.length_append, HO.out.2.2.2.2.2]; rfl, HS5.out.2.2⟩
          case measure =>
            have := HA.out.2.2.2.2.2
            have := sizeV_pos (.mk ky my ty kys)
            simp [intOf]
            omega
        · by_cases hga : i < ks.length
          · have dA : decide ((i : Int) < (ks.length : Int)) = true := decide_eq_true (by omega)
            by_cases hgb : 1 < deep
            · have dB : decide (1 < (deep : Int)) = true := decide_eq_true (by omega)
              have dC : decide (0 < (z : Int)) = false := decide_eq_false (by omega)
              have dC2 : decide (0 < z) = false := decide_eq_false (by omega)
              clear hgo
              go_wp2_with fail
              go_meet
              case rel => exact ⟨z, ys, rfl, HO.out.2.2.2.2.1, ao, cap, HO.out.1, HO.out.2.1, HO.out.2.2.1⟩
            · have dB : decide (1 < (deep : Int)) = false := decide_eq_false (by omega)
              clear hgo
              go_wp2_with fail
              go_meet
              case rel => exact ⟨z, ys, rfl, HO.out.2.2.2.2.1, ao, cap, HO.out.1, HO.out.2.1, HO.out.2.2.1⟩
          · have dA : decide ((i : Int) < (ks.length : Int)) = false := decide_eq_false (by omega)
            clear hgo
            go_wp2_with fail
            go_meet
            case rel => exact ⟨z, ys, rfl, HO.out.2.2.2.2.1, ao, cap, HO.out.1, HO.out.2.1, HO.out.2.2.1⟩
    case rest =>
      obtain ⟨z, ys, rfl, hz, ao, cap, hrow, hown, hk⟩ := hcut
      have hsr := hk.size
      have hgq := H.out.2.2.2.2.2.2.2.2.2
      have h1r := H.out.2.2.2.1.keeps hk (by have := H.out.2.1; omega)
      obtain ⟨e0, e1, e2, e3⟩ := h1r.pat
      have hf1 := h1r.frozen
      obtain ⟨x0, x1, x2, x3⟩ := hrow.pat
      have HF := Lib.hid (out_done hrow hown hk H.out.2.2.2.1 (by omega) (show g ≤ q by omega) (by omega) (by have := H.out.2.1; omega) H.out.2.2.2.2.2.2.2.1 _ rfl)
      have HZ := Lib.hid hz
      clear h1r hown hk hrow hz
      go_wp2_with fail
      refine bodyPost_ret (v := .tuple #[patV k m t' ao ys.length cap, .int .i64 (z : Int)]) (results_ptame _ _ (g + 1) k m t' ao ys.length cap _ (by rfl) (by rfl) HF.out.1) rfl ⟨_, .mk k m t' ys, z, rfl, by rw [sizeV]; exact HZ.out, ?_, ?_⟩
      · rw [H.out.2.2.2.2.2.2.2.2.1]
        exact HF.out.2.1
      · rw [H.out.2.2.2.2.2.2.2.2.1]
        exact H.out.1.trans HF.out.2.2
end Go.Proofs.Ytnhdefaagicejaa
