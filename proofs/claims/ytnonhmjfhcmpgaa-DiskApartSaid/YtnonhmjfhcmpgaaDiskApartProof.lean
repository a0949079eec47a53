/- THE LAW DiskApart: a copy goes its own way: what is done to one disk leaves the other as it is. -/
import Derived.Test.YtnonhmjfhcmpgaaRows
import Derived.Test.YtnonhmjfhcmpgaaDiskAP
import Derived.Test.YtnonhmjfhcmpgaaDiskSP
import Derived.Test.YtnonhmjfhcmpgaaLaw2
import Derived.ChangeMaps5
namespace Go.Proofs.Ytnonhmjfhcmpgaa.diskApart
open Go.ChangeShapes Go.WideShapes Go.ChangeAt Go.RowKit Go.ChangeMaps

theorem own : ownKnob Try.prog.godebug = none := by kernel_rfl
theorem laidOut : laidOutB Try.prog = true := by kernel_rfl
theorem readable : ∀ t ∈ Try.f5.params.toList, Try.prog.readableRec t = true ∧ t < Try.prog.types.size := by
  rw [Try.params5]
  intro t ht
  simp at ht
  subst ht
  exact ⟨by kernel_rfl, of_decide_eq_true (by kernel_rfl)⟩

abbrev Ac := Int × Int × UInt8 × Value × Value
def actV (t : Ac) : List Value := [.int .i64 t.1, .int .i64 t.2.1, u8v t.2.2.1, t.2.2.2.1, t.2.2.2.2]

theorem imgL_inj : ∀ (L L2 : List (Option (List UInt8))), L.length = L2.length → (∀ b, some b ∈ L → b.length = 512) → (∀ b, some b ∈ L2 → b.length = 512) → imgL L = imgL L2 → L.map (fun o => o.getD zeros) = L2.map fun o => o.getD zeros
  | [], [], _, _, _, _ => rfl
  | [], _ :: _, hl, _, _, _ => by simp at hl
  | _ :: _, [], hl, _, _, _ => by simp at hl
  | o :: L, p :: L2, hl, h1, h2, he => by
    have l1 : (o.getD zeros).length = 512 := by
      cases o with
      | none => exact List.length_replicate
      | some b => exact h1 b (by simp)
    have l2 : (p.getD zeros).length = 512 := by
      cases p with
      | none => exact List.length_replicate
      | some b => exact h2 b (by simp)
    unfold imgL at he
    rw [List.map_cons, List.flatten_cons, List.map_cons, List.flatten_cons] at he
    obtain ⟨e1, e2⟩ := List.append_inj he (by rw [l1, l2])
    rw [List.map_cons, List.map_cons, e1, imgL_inj L L2 (by simpa using hl) (fun b hb => h1 b (by simp [hb])) (fun b hb => h2 b (by simp [hb])) e2]
theorem imgL_eq (L L2 : List (Option (List UInt8))) (hl : L.length = L2.length) (h1 : ∀ b, some b ∈ L → b.length = 512) (h2 : ∀ b, some b ∈ L2 → b.length = 512) : decide (L.map (fun o => o.getD zeros) = L2.map fun o => o.getD zeros) = (imgL L == imgL L2) := by
  by_cases h : imgL L = imgL L2
  · rw [decide_eq_true (imgL_inj L L2 hl h1 h2 h), h, beq_self_eq_true]
  · rw [decide_eq_false (fun e => h (by unfold imgL; rw [e]))]
    symm
    simpa using h
theorem open_acts {H : Type} {enc : TypeId × Value → H} {w : World} {r : Reach} {b0 : Nat} {v : Value} {d : DataW H} {ps : List MemPlace} (hval : Value.okWide Try.prog w r b0 42 v) (h : DataW.Trod enc Try.prog w 0 (fun _ => true) true 42 v d ps) :
    ∃ (ao : Option Addr) (cap : Nat) (T : List Ac), v = .slice ao T.length cap ∧ T.length ≤ cap ∧ cap ≤ 9223372036854775807 ∧ RowsAt w ao 5 (T.map actV) := by
  obtain ⟨ro, rcap, rows, rfl, hrc, hrm, htt, hrows⟩ := open_rows Try.underlying42 (k := 5) (by kernel_rfl) (by decide) hval h
  obtain ⟨T, rfl, -⟩ := rows_map (α := Ac) (p := fun _ => True) (f := actV) (rows := rows) (by
    intro r hr
    obtain ⟨hl, n, y, hy⟩ := hrows r hr
    obtain ⟨m0, y0, h0⟩ := row_field Try.underlying44 hy 0 _ rfl
    obtain ⟨m1, y1, h1⟩ := row_field Try.underlying44 hy 1 _ rfl
    obtain ⟨m2, y2, h2⟩ := row_field Try.underlying44 hy 2 _ rfl
    obtain ⟨z0, e0, _⟩ := int_range Try.underlying3 h0
    obtain ⟨z1, e1, _⟩ := int_range Try.underlying3 h1
    obtain ⟨z2, e2, _, hw⟩ := DataW.trod_int Try.underlying5 h2
    have hz : 0 ≤ z2 ∧ z2 ≤ 255 := by simpa [Lit.wf, IntKind.min, IntKind.max, IntKind.signed, IntKind.bits] using hw
    match r, hl with
    | [x0, x1, x2, x3, x4], _ =>
      have hc1 : Try.prog.cellsOf 3 = 1 := by kernel_rfl
      have hc2 : Try.prog.cellsOf 5 = 1 := by kernel_rfl
      simp [hc1, hc2] at e0 e1 e2
      refine ⟨(z0, z1, UInt8.ofNat z2.toNat, x3, x4), ?_, trivial⟩

      simp [actV, u8v, e0, e1, e2]
      omega)
  rw [List.length_map] at *
  exact ⟨ro, rcap, T, rfl, hrc, hrm, htt⟩

set_option maxRecDepth 100000 in
set_option maxHeartbeats 8000000 in
theorem walk (ao bo : Option Addr) (T T2 : List Ac) (cap bcap : Nat) (w : World) (htt : RowsAt w ao 5 (T.map actV)) (htt2 : RowsAt w bo 5 (T2.map actV)) (hl : T.length ≤ 9223372036854775807) (hl2 : T2.length ≤ 9223372036854775807) :
    Calls Try.prog 5 #[.slice ao T.length cap, .slice bo T2.length bcap] w (Says w (.bool true)) := by
  have HAT := Lib.hid (And.intro htt htt2)
  clear htt htt2
  go_enter Try.func5, Try.ntmps5
  go_wp2_with fail
  refine (new_any 6 (by decide) (by decide) w).mono ?_
  rintro e w1 ⟨d, M, I, rfl, hd, hb1⟩
  have H1 := Lib.hid (show Own w w1 d ⟨List.replicate 6 none, [], -1, false, 0⟩ from ⟨M, I, hd, hb1⟩)
  clear hd hb1
  go_wp2_with fail
  refine (lasts_any w1).mono ?_
  rintro e w2 ⟨rfl, hb2⟩
  have H2 := Lib.hid (H1.out.below hb2)
  clear hb2
  go_wp2_with fail
  go_loopw [7] (fun j wr => ∃ (i : Nat) (s : DS), i ≤ T.length ∧ i ≤ 25 ∧ j = .int .i64 (i : Int) ∧ Own w wr d s ∧ Bd (2 * i) s) (fun j _ => 25 - (intOf j).toNat)
  case atStart => exact ⟨0, _, by omega, by omega, rfl, H2.out, by exact ⟨rfl, Nat.le_refl _, Nat.le_refl _⟩⟩
  case round =>
    obtain ⟨i, s, hi, hi25, rfl, hown, hbd⟩ := hrel
    have HO := Lib.hid (And.intro hown hbd)
    clear hown hbd
    by_cases hlt : i < T.length ∧ i < 25
    · obtain ⟨hlt, hi4⟩ := hlt
      have hrat := (HAT.out.1.below HO.out.1.bel)
      obtain ⟨b, o, hao, _⟩ := hrat.cell i (by simpa using hlt)
      subst hao
      obtain ⟨t, ht⟩ : ∃ t, T[i] = t := ⟨_, rfl⟩
      have hcs : ∀ wx, Below w.heap.size w wx → ∀ j v, (actV t)[j]? = some v → wx.cell? ⟨b, o + (i * 5 + j), none⟩ = some v := by
        intro wx hx
        obtain ⟨b', o', e, hc⟩ := (HAT.out.1.below hx).cell i (by simpa using hlt)
        cases e
        intro j v hv
        refine hc j v ?_
        rw [List.getElem_map, ht]; exact hv
      obtain ⟨a, z, x, v1, v2⟩ := t
      have hcs' : ∀ wx, Below w.heap.size w wx → wx.cell? ⟨b, o + i * 5, none⟩ = some (.int .i64 a) ∧ wx.cell? ⟨b, o + i * 5 + 1, none⟩ = some (.int .i64 z) ∧ wx.cell? ⟨b, o + i * 5 + 2, none⟩ = some (.int .u8 (x.toNat : Int)) := by
        intro wx hx
        refine ⟨?_, ?_, ?_⟩
        · simpa using hcs wx hx 0 (.int .i64 a) rfl
        · have := hcs wx hx 1 (.int .i64 z) rfl; rwa [← Nat.add_assoc] at this
        · have := hcs wx hx 2 (.int .u8 (x.toNat : Int)) rfl; rwa [← Nat.add_assoc] at this
      have HC := Lib.hid hcs'
      clear hcs hcs' hrat ht
      have c0 := (HC.out wr HO.out.1.bel).1
      have c1 := (HC.out wr HO.out.1.bel).2.1
      have c2 := (HC.out wr HO.out.1.bel).2.2
      by_cases ha : a = 1
      · have ha1 : (a == 1) = true := by simp [ha]
        have ha3 : (a == 3) = false := by simp [ha]
        have HD := Lib.hid (show Own w wr.drew d s from HO.out.1.below (Below.refl _ wr).drew)
        have HK := Lib.hid (And.intro c1 c2)
        clear ha c1 c2
        go_wp2_with fail
        refine seql_start [12] (by kernel_rfl) ?_
        refine seql_take 0 (v := ?_) rfl (by kernel_rfl) (fun _ _ _ h => h) (by rfl) (fun w' hw' => ?_) ?_
        rotate_left
        · go_simp; try with_reducible rfl
        try simp only [List.getElem_toArray, List.getElem_cons_succ, List.getElem_cons_zero, Act.put, List.setIfInBounds_toArray, List.set_cons_zero, List.set_cons_succ]
        refine seql_take 1 (v := ?_) rfl (by kernel_rfl) (fun _ _ _ h => h) (by rfl) (fun w' hw' => ?_) ?_
        rotate_left
        · go_simp; try with_reducible rfl
        try simp only [List.getElem_toArray, List.getElem_cons_succ, List.getElem_cons_zero, Act.put, List.setIfInBounds_toArray, List.set_cons_zero, List.set_cons_succ]
        refine seql_take 2 (v := ?_) rfl (by kernel_rfl) (fun _ _ _ h => h) (by rfl) (fun w' hw' => ?_) ?_
        rotate_left
        · go_simp; try with_reducible rfl
        try simp only [List.getElem_toArray, List.getElem_cons_succ, List.getElem_cons_zero, Act.put, List.setIfInBounds_toArray, List.set_cons_zero, List.set_cons_succ]
        refine seql_take 3 (v := ?_) rfl (by kernel_rfl) (fun _ _ _ h => h) (by rfl) (fun w' hw' => ?_) ?_
        rotate_left
        · go_simp; try with_reducible rfl
        try simp only [List.getElem_toArray, List.getElem_cons_succ, List.getElem_cons_zero, Act.put, List.setIfInBounds_toArray, List.set_cons_zero, List.set_cons_succ]
        refine seql_take 4 (v := ?_) rfl (by kernel_rfl) (fun _ _ _ h => h) (by rfl) (fun w' hw' => ?_) ?_
        rotate_left
        · go_simp; try with_reducible rfl
        try simp only [List.getElem_toArray, List.getElem_cons_succ, List.getElem_cons_zero, Act.put, List.setIfInBounds_toArray, List.set_cons_zero, List.set_cons_succ]
        refine seql_take 5 rfl (by kernel_rfl) (fun _ _ _ h => h) (by rfl) (seq_ldi rfl rfl (HK.out.1)) ?_
        try simp only [List.getElem_toArray, List.getElem_cons_succ, List.getElem_cons_zero, Act.put, List.setIfInBounds_toArray, List.set_cons_zero, List.set_cons_succ]
        refine seql_take 6 (v := ?_) rfl (by kernel_rfl) (fun _ _ _ h => h) (by rfl) (fun w' hw' => ?_) ?_
        rotate_left
        · go_simp; try with_reducible rfl
        try simp only [List.getElem_toArray, List.getElem_cons_succ, List.getElem_cons_zero, Act.put, List.setIfInBounds_toArray, List.set_cons_zero, List.set_cons_succ]
        refine seql_take 7 (v := ?_) rfl (by kernel_rfl) (fun _ _ _ h => h) (by rfl) (fun w' hw' => ?_) ?_
        rotate_left
        · go_simp; try with_reducible rfl
        try simp only [List.getElem_toArray, List.getElem_cons_succ, List.getElem_cons_zero, Act.put, List.setIfInBounds_toArray, List.set_cons_zero, List.set_cons_succ]
        refine seql_take 8 (v := ?_) rfl (by kernel_rfl) (fun _ _ _ h => h) (by rfl) (fun w' hw' => ?_) ?_
        rotate_left
        · go_simp; try with_reducible rfl
        try simp only [List.getElem_toArray, List.getElem_cons_succ, List.getElem_cons_zero, Act.put, List.setIfInBounds_toArray, List.set_cons_zero, List.set_cons_succ]
        refine seql_take 9 (v := ?_) rfl (by kernel_rfl) (fun _ _ _ h => h) (by rfl) (fun w' hw' => ?_) ?_
        rotate_left
        · go_simp; try with_reducible rfl
        try simp only [List.getElem_toArray, List.getElem_cons_succ, List.getElem_cons_zero, Act.put, List.setIfInBounds_toArray, List.set_cons_zero, List.set_cons_succ]
        refine seql_take 10 rfl (by kernel_rfl) (fun _ _ _ h => h) (by rfl) (seq_ld8 rfl rfl (HK.out.2)) ?_
        try simp only [List.getElem_toArray, List.getElem_cons_succ, List.getElem_cons_zero, Act.put, List.setIfInBounds_toArray, List.set_cons_zero, List.set_cons_succ]
        refine seql_run 11 rfl (by kernel_rfl) (by rfl) (fun KK hKK => ?_)
        go_wp2_with fail
        refine (full_any x _).mono ?_
        rintro e w5 ⟨g, rfl, hg, hatg, _, hb5⟩
        have A5 := Lib.hid (And.intro hg (And.intro hatg hb5))
        clear hg hatg hb5 c0
        go_wp2_with fail
        refine ⟨A5.out.2.2, ?_⟩
        refine seql_last 12 rfl (by kernel_rfl) (by kernel_rfl) (by rfl) (fun KK hKK => ?_)
        go_wp2_with fail
        refine (write_full HD.out (by have := HO.out.2.2.2; omega) (by have := HO.out.2.2.1; omega) z g (full x) (full_length x) A5.out.2.2 A5.out.1 A5.out.2.1).mono ?_
        rintro e w6 ⟨rfl, h6⟩
        have H6 := Lib.hid (And.intro h6 (HO.out.2.write z (full x)))
        clear h6
        go_wp2_with fail
        refine seql_done (by kernel_rfl) ?_
        generalize (s.write z (full x)).2 = s' at *
        have c06 := (HC.out w6 H6.out.1.bel).1
        go_wp2_with fail
        go_roundw
        case rel => exact ⟨i + 1, _, by omega, by omega, by simp, H6.out.1, H6.out.2.mono (by omega)⟩
        case measure => simp [intOf]; omega
      · have ha1 : (a == 1) = false := by simp [ha]
        clear c1 c2
        by_cases hb : a = 3
        · have ha3 : (a == 3) = true := by simp [hb]
          clear ha hb
          go_wp2_with fail
          refine (barrier_own HO.out.1 (by have := HO.out.2.2.2; omega) (by have := HO.out.2.2.1; omega)).mono ?_
          rintro e w6 ⟨rfl, h6⟩
          have H6 := Lib.hid (And.intro h6 HO.out.2.barrier)
          clear h6
          go_wp2_with fail
          go_roundw
          case rel => exact ⟨i + 1, _, by omega, by omega, by simp, H6.out.1, H6.out.2.mono (by omega)⟩
          case measure => simp [intOf]; omega
        · have ha3 : (a == 3) = false := by simp [hb]
          clear ha hb
          go_wp2_with fail
          go_roundw
          case rel => exact ⟨i + 1, s, by omega, by omega, by simp, HO.out.1, HO.out.2.mono (by omega)⟩
          case measure => simp [intOf]; omega
    · have hfin : i = T.length ∨ i = 25 := by omega
      by_cases hkl : i < T.length
      case' pos => have h25 : ¬ ((i : Int) < 25) := by omega
      case' neg => have h25 : ¬ ((i : Int) < T.length) := by omega
      all_goals
        clear hfin
        go_wp2_with fail
        refine (image_own HO.out.1 (by rw [HO.out.2.1]; decide)).mono ?_
        rintro e w3 ⟨io, icap, rfl, hat3, hb3⟩
        have hcv := run_conv_str (P := Try.prog) w3 22 5 Try.underlying22 Try.underlying5 io (imgL s.L) _ icap rfl hat3 9 Try.underlying9
        have H3 := Lib.hid (HO.out.1.below hb3)
        have hsz3 := hb3.size
        clear hat3 hb3
        go_wp2_with fail
        clear hcv
        refine (copy_own H3.out HO.out.2.1).mono ?_
        rintro e w4 ⟨c, rfl, h4⟩
        have H4 := Lib.hid h4
        have HS0 := Lib.hid HO.out.2
        clear h4
        generalize s = s0 at *
        go_wp2_with fail
        go_loopw [10] (fun j wr => ∃ (i : Nat) (s : DS), i ≤ T2.length ∧ i ≤ 25 ∧ j = .int .i64 (i : Int) ∧ Two w wr d c s0 s ∧ Bd (2 * i) s) (fun j _ => 25 - (intOf j).toNat)
        case atStart => exact ⟨0, _, by omega, by omega, rfl, H4.out, by exact ⟨HS0.out.1, Nat.le_refl _, Nat.le_refl _⟩⟩
        case round =>
          obtain ⟨i, s, hi, hi25, rfl, hown, hbd⟩ := hrel
          have HO := Lib.hid (And.intro hown hbd)
          clear hown hbd
          by_cases hlt : i < T2.length ∧ i < 25
          · obtain ⟨hlt, hi4⟩ := hlt
            have hrat := (HAT.out.2.below HO.out.1.bel)
            obtain ⟨b, o, hao, _⟩ := hrat.cell i (by simpa using hlt)
            subst hao
            obtain ⟨t, ht⟩ : ∃ t, T2[i] = t := ⟨_, rfl⟩
            have hcs : ∀ wx, Below w.heap.size w wx → ∀ j v, (actV t)[j]? = some v → wx.cell? ⟨b, o + (i * 5 + j), none⟩ = some v := by
              intro wx hx
              obtain ⟨b', o', e, hc⟩ := (HAT.out.2.below hx).cell i (by simpa using hlt)
              cases e
              intro j v hv
              refine hc j v ?_
              rw [List.getElem_map, ht]; exact hv
            obtain ⟨a, z, x, v1, v2⟩ := t
            have hcs' : ∀ wx, Below w.heap.size w wx → wx.cell? ⟨b, o + i * 5, none⟩ = some (.int .i64 a) ∧ wx.cell? ⟨b, o + i * 5 + 1, none⟩ = some (.int .i64 z) ∧ wx.cell? ⟨b, o + i * 5 + 2, none⟩ = some (.int .u8 (x.toNat : Int)) := by
              intro wx hx
              refine ⟨?_, ?_, ?_⟩
              · simpa using hcs wx hx 0 (.int .i64 a) rfl
              · have := hcs wx hx 1 (.int .i64 z) rfl; rwa [← Nat.add_assoc] at this
              · have := hcs wx hx 2 (.int .u8 (x.toNat : Int)) rfl; rwa [← Nat.add_assoc] at this
            have HC := Lib.hid hcs'
            clear hcs hcs' hrat ht
            have c0 := (HC.out wr HO.out.1.bel).1
            have c1 := (HC.out wr HO.out.1.bel).2.1
            have c2 := (HC.out wr HO.out.1.bel).2.2
            by_cases ha : a = 1
            · have ha1 : (a == 1) = true := by simp [ha]
              have ha3 : (a == 3) = false := by simp [ha]
              have HD := Lib.hid (show Two w wr.drew d c s0 s from HO.out.1.below (Below.refl _ wr).drew)
              have HK := Lib.hid (And.intro c1 c2)
              clear ha c1 c2
              go_wp2_with fail
              refine seql_start [12] (by kernel_rfl) ?_
              refine seql_take 0 (v := ?_) rfl (by kernel_rfl) (fun _ _ _ h => h) (by rfl) (fun w' hw' => ?_) ?_
              rotate_left
              · go_simp; try with_reducible rfl
              try simp only [List.getElem_toArray, List.getElem_cons_succ, List.getElem_cons_zero, Act.put, List.setIfInBounds_toArray, List.set_cons_zero, List.set_cons_succ]
              refine seql_take 1 (v := ?_) rfl (by kernel_rfl) (fun _ _ _ h => h) (by rfl) (fun w' hw' => ?_) ?_
              rotate_left
              · go_simp; try with_reducible rfl
              try simp only [List.getElem_toArray, List.getElem_cons_succ, List.getElem_cons_zero, Act.put, List.setIfInBounds_toArray, List.set_cons_zero, List.set_cons_succ]
              refine seql_take 2 (v := ?_) rfl (by kernel_rfl) (fun _ _ _ h => h) (by rfl) (fun w' hw' => ?_) ?_
              rotate_left
              · go_simp; try with_reducible rfl
              try simp only [List.getElem_toArray, List.getElem_cons_succ, List.getElem_cons_zero, Act.put, List.setIfInBounds_toArray, List.set_cons_zero, List.set_cons_succ]
              refine seql_take 3 (v := ?_) rfl (by kernel_rfl) (fun _ _ _ h => h) (by rfl) (fun w' hw' => ?_) ?_
              rotate_left
              · go_simp; try with_reducible rfl
              try simp only [List.getElem_toArray, List.getElem_cons_succ, List.getElem_cons_zero, Act.put, List.setIfInBounds_toArray, List.set_cons_zero, List.set_cons_succ]
              refine seql_take 4 (v := ?_) rfl (by kernel_rfl) (fun _ _ _ h => h) (by rfl) (fun w' hw' => ?_) ?_
              rotate_left
              · go_simp; try with_reducible rfl
              try simp only [List.getElem_toArray, List.getElem_cons_succ, List.getElem_cons_zero, Act.put, List.setIfInBounds_toArray, List.set_cons_zero, List.set_cons_succ]
              refine seql_take 5 rfl (by kernel_rfl) (fun _ _ _ h => h) (by rfl) (seq_ldi rfl rfl (HK.out.1)) ?_
              try simp only [List.getElem_toArray, List.getElem_cons_succ, List.getElem_cons_zero, Act.put, List.setIfInBounds_toArray, List.set_cons_zero, List.set_cons_succ]
              refine seql_take 6 (v := ?_) rfl (by kernel_rfl) (fun _ _ _ h => h) (by rfl) (fun w' hw' => ?_) ?_
              rotate_left
              · go_simp; try with_reducible rfl
              try simp only [List.getElem_toArray, List.getElem_cons_succ, List.getElem_cons_zero, Act.put, List.setIfInBounds_toArray, List.set_cons_zero, List.set_cons_succ]
              refine seql_take 7 (v := ?_) rfl (by kernel_rfl) (fun _ _ _ h => h) (by rfl) (fun w' hw' => ?_) ?_
              rotate_left
              · go_simp; try with_reducible rfl
              try simp only [List.getElem_toArray, List.getElem_cons_succ, List.getElem_cons_zero, Act.put, List.setIfInBounds_toArray, List.set_cons_zero, List.set_cons_succ]
              refine seql_take 8 (v := ?_) rfl (by kernel_rfl) (fun _ _ _ h => h) (by rfl) (fun w' hw' => ?_) ?_
              rotate_left
              · go_simp; try with_reducible rfl
              try simp only [List.getElem_toArray, List.getElem_cons_succ, List.getElem_cons_zero, Act.put, List.setIfInBounds_toArray, List.set_cons_zero, List.set_cons_succ]
              refine seql_take 9 (v := ?_) rfl (by kernel_rfl) (fun _ _ _ h => h) (by rfl) (fun w' hw' => ?_) ?_
              rotate_left
              · go_simp; try with_reducible rfl
              try simp only [List.getElem_toArray, List.getElem_cons_succ, List.getElem_cons_zero, Act.put, List.setIfInBounds_toArray, List.set_cons_zero, List.set_cons_succ]
              refine seql_take 10 rfl (by kernel_rfl) (fun _ _ _ h => h) (by rfl) (seq_ld8 rfl rfl (HK.out.2)) ?_
              try simp only [List.getElem_toArray, List.getElem_cons_succ, List.getElem_cons_zero, Act.put, List.setIfInBounds_toArray, List.set_cons_zero, List.set_cons_succ]
              refine seql_run 11 rfl (by kernel_rfl) (by rfl) (fun KK hKK => ?_)
              go_wp2_with fail
              refine (full_any x _).mono ?_
              rintro e w5 ⟨g, rfl, hg, hatg, _, hb5⟩
              have A5 := Lib.hid (And.intro hg (And.intro hatg hb5))
              clear hg hatg hb5 c0
              go_wp2_with fail
              refine ⟨A5.out.2.2, ?_⟩
              refine seql_last 12 rfl (by kernel_rfl) (by kernel_rfl) (by rfl) (fun KK hKK => ?_)
              go_wp2_with fail
              refine (write_two HD.out.swap (by have := HO.out.2.2.2; omega) (by have := HO.out.2.2.1; omega) z g (full x) (full_length x) A5.out.2.2 A5.out.1 A5.out.2.1).mono ?_
              rintro e w6 ⟨rfl, h6⟩
              have H6 := Lib.hid (And.intro h6 (HO.out.2.write z (full x)))
              clear h6
              go_wp2_with fail
              refine seql_done (by kernel_rfl) ?_
              generalize (s.write z (full x)).2 = s' at *
              have c06 := (HC.out w6 H6.out.1.bel).1
              go_wp2_with fail
              go_roundw
              case rel => exact ⟨i + 1, _, by omega, by omega, by simp, H6.out.1.swap, H6.out.2.mono (by omega)⟩
              case measure => simp [intOf]; omega
            · have ha1 : (a == 1) = false := by simp [ha]
              clear c1 c2
              by_cases hb : a = 3
              · have ha3 : (a == 3) = true := by simp [hb]
                clear ha hb
                go_wp2_with fail
                refine (barrier_two HO.out.1.swap (by have := HO.out.2.2.2; omega) (by have := HO.out.2.2.1; omega)).mono ?_
                rintro e w6 ⟨rfl, h6⟩
                have H6 := Lib.hid (And.intro h6 HO.out.2.barrier)
                clear h6
                go_wp2_with fail
                go_roundw
                case rel => exact ⟨i + 1, _, by omega, by omega, by simp, H6.out.1.swap, H6.out.2.mono (by omega)⟩
                case measure => simp [intOf]; omega
              · have ha3 : (a == 3) = false := by simp [hb]
                clear ha hb
                go_wp2_with fail
                go_roundw
                case rel => exact ⟨i + 1, s, by omega, by omega, by simp, HO.out.1, HO.out.2.mono (by omega)⟩
                case measure => simp [intOf]; omega
          · have hfin : i = T2.length ∨ i = 25 := by omega
            by_cases hkl : i < T2.length
            case' pos => have h25 : ¬ ((i : Int) < 25) := by omega
            case' neg => have h25 : ¬ ((i : Int) < T2.length) := by omega
            all_goals
              clear hfin
              go_wp2_with fail
              refine (image_two HO.out.1 (by rw [HS0.out.1]; decide)).mono ?_
              rintro e w5 ⟨io, icap, rfl, hat5, hb5⟩
              have hcv := run_conv_str (P := Try.prog) w5 22 5 Try.underlying22 Try.underlying5 io (imgL s0.L) _ icap rfl hat5 9 Try.underlying9
              have H5 := Lib.hid (HO.out.1.below hb5)
              clear hat5 hb5
              go_wp2_with fail
              clear hcv
              refine (image_two H5.out.swap (by rw [HO.out.2.1]; decide)).mono ?_
              rintro e w6 ⟨jo, jcap, rfl, hat6, hb6⟩
              have hcv := run_conv_str (P := Try.prog) w6 22 5 Try.underlying22 Try.underlying5 jo (imgL s.L) _ jcap rfl hat6 9 Try.underlying9
              have H6 := Lib.hid (H5.out.below hb6)
              clear hat6 hb6
              go_wp2_with fail
              clear hcv
              refine (full_any 171 w6).mono ?_
              rintro e w7 ⟨g7, rfl, hg7, hat7, _, hb7⟩
              have A7 := Lib.hid (And.intro hg7 (And.intro hat7 hb7))
              clear hg7 hat7 hb7
              go_wp2_with fail
              refine (write_two H6.out (by have := HS0.out.2.2; omega) (by have := HS0.out.2.1; omega) 0 g7 (full 171) (full_length _) A7.out.2.2 A7.out.1 A7.out.2.1).mono ?_
              rintro e w8 ⟨rfl, h8⟩
              have H8 := Lib.hid (And.intro h8 (HS0.out.write 0 (full 171)))
              clear h8
              generalize (s0.write 0 (full 171)).2 = s1 at *
              go_wp2_with fail
              refine (barrier_two H8.out.1 (by have := H8.out.2.2.2; omega) (by have := H8.out.2.2.1; omega)).mono ?_
              rintro e w9 ⟨rfl, h9⟩
              have H9 := Lib.hid (And.intro h9 H8.out.2.barrier)
              clear h9
              generalize s1.barrier.2 = s2 at *
              go_wp2_with fail
              refine (image_two H9.out.1.swap (by rw [HO.out.2.1]; decide)).mono ?_
              rintro e w10 ⟨ko, kcap, rfl, hat10, hb10⟩
              have hcv := run_conv_str (P := Try.prog) w10 22 5 Try.underlying22 Try.underlying5 ko (imgL s.L) _ kcap rfl hat10 9 Try.underlying9
              have H10 := Lib.hid (H9.out.1.below hb10)
              clear hat10 hb10
              go_wp2_with fail
              clear hcv
              refine (same_two H10.out.swap HO.out.2.1 H9.out.2.1).mono ?_
              rintro e w11 ⟨rfl, hb11⟩
              rw [imgL_eq s.L s2.L (by rw [HO.out.2.1, H9.out.2.1]) H10.out.swap.ok.2.1 H10.out.ok.2.1]
              have H11 := Lib.hid (H10.out.below hb11)
              clear hb11
              go_wp2_with fail
              refine (image_two H11.out (by rw [H9.out.2.1]; decide)).mono ?_
              rintro e w12 ⟨lo, lcap, rfl, hat12, hb12⟩
              have hcv := run_conv_str (P := Try.prog) w12 22 5 Try.underlying22 Try.underlying5 lo (imgL s2.L) _ lcap rfl hat12 9 Try.underlying9
              have H12 := Lib.hid (H11.out.below hb12)
              clear hat12 hb12
              go_wp2_with fail
              go_ret
              exact ⟨by simp, H12.out.bel⟩


set_option maxRecDepth 100000 in
theorem lifted (os : Os) (started : os.Started) (H : Type) (enc : TypeId × Value → H) :
    ReturnsInHanded {} Try.checked os 5 .any (Rows.diskApartSpec.pre6 enc Try.prog Try.f5 Rows.diskApartRow.domain false) (Rows.diskApartSpec.post enc Try.prog Try.f5 false true false false) := by
  refine returnsInHanded_of_change (C := Try.checked) own started (by kernel_rfl) Try.func5
    (ChangeSpec.witness6 (enc := enc) (C := Try.checked) false ⟨#[], #[.slice none 0 0, .slice none 0 0], []⟩ 8 (by kernel_rfl) (by kernel_rfl) (by kernel_rfl) (by kernel_rfl)) ?_
  intro W base args ds gs before hval0 hW hcnd _
  have hval : ∀ (j : Nat) t v, Try.f5.params[j]? = some t → args[j]? = some v → Value.okWide Try.prog W .any base t v := hval0
  have hW' := hW
  obtain ⟨p, q, hA0, hV, rfl, hfz, hnd⟩ := hW
  have hA : DataW.TrodAll enc Try.prog W 0 (fun _ => true) true Try.f5.params.toList args.toList ds p := hA0
  rw [Try.params5] at hA hval
  obtain ⟨v0, v1, d0, d1, p0, p1, rfl, rfl, rfl, h0, h1⟩ := trodAll_two hA
  obtain ⟨rfl, rfl⟩ := trodVars_none hV
  obtain ⟨ao, cap, T, rfl, hc, hm, htt⟩ := open_acts (hval 0 42 v0 rfl rfl) h0
  obtain ⟨bo, bcap, T2, rfl, hbc, hbm, hbt⟩ := open_acts (hval 1 42 v1 rfl rfl) h1
  refine (walk ao bo T T2 cap bcap W htt hbt (by omega) (by omega)).mono fun e W' ⟨he, hb⟩ => ?_
  subst he
  exact ⟨_, rfl, post_law laidOut rfl rfl Try.underlying4 readable rfl rfl rfl hW' hb⟩

theorem proved : Rows.DiskApartSaid :=
  OpenClaim.holds_of_wide 5 Try.f5 rfl rfl rfl rfl rfl rfl rfl ⟨rfl, rfl, rfl, rfl, rfl⟩ rfl rfl rfl rfl rfl (by kernel_rfl) Try.func5 (by kernel_rfl)
    (of_decide_eq_true (by kernel_rfl)) (by unfold Func.isWrapper; first | (rw [if_pos (by decide +kernel)]; kernel_rfl) | (rw [if_neg (by decide +kernel)]; exact ⟨rfl, rfl⟩))
    (fun os started H enc _ => lifted os started H enc)
end Go.Proofs.Ytnonhmjfhcmpgaa.diskApart
