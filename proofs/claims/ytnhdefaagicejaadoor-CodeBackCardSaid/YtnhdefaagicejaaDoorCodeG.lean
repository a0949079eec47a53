/- The walk of the document's Right: is code in order? -/
import Derived.Test.YtnhdefaagicejaaDoorCodeD
namespace Go.Proofs.YtnhdefaagicejaaDoor
set_option linter.unusedSimpArgs false
set_option linter.unusedVariables false
open Go.RowKit

theorem spot_one (n h : Int) (oo : Option Addr) (l c : Nat) : (#[Value.bool true, .int .i64 n, .int .i64 h, .slice oo l c] : Array Value).all (·.oneCell') = true :=
  all_oneCell_toArray (cs := [Value.bool true, .int .i64 n, .int .i64 h, .slice oo l c]) (by intro v hv; simp at hv; rcases hv with rfl | rfl | rfl | rfl <;> rfl)
/-- What a call to Right leaves. -/
def Rights (w : World) (c : CodeP) (e : Ending) (w' : World) : Prop := Below w.heap.size w w' ∧ (Ord flC c ∧ e = .returned (.bool true) ∨ ¬ Ord flC c ∧ e = .returned (.bool false))
/-- Starts come to: what is seen, what waits. -/
def RInv (w7 : World) (c : CodeP) (L : List Int) (sb k n : Nat) (wr : World) (wo : Option Addr) (wcap : Nat) (S : Int → Option FrP) (W : List Int) : Prop :=
  SpotsAt wr sb c.ins.length (fun b => b ≠ sb ∧ b < wr.heap.size ∧ blk wo ≠ some b) S ∧ QueueAt wr (sb + 1) wo wcap W ∧ Work flC c L k n S W none ∧ Keeps (fun b => b = sb ∨ sb + 1 ≤ b) w7 wr
set_option maxRecDepth 100000 in
set_option maxHeartbeats 40000000 in
theorem right_any {w : World} {c : CodeP} {io so fo : Option Addr} {icap scap fcap : Nat} (hmem : CodeMem w (fun b => b < w.heap.size) c io so fo) (hil : c.ins.length ≤ 1000000000) (hsl : c.strs.length ≤ 1000000000) (hfl : c.funs.length ≤ 1000000000) :
    Calls Tryd.prog 9 #[.agg #[.slice io c.ins.length icap, .slice so c.strs.length scap, .slice fo c.funs.length fcap, .int .i64 c.glob]] w (Rights w c) := by
  obtain ⟨g, hg⟩ : ∃ g, w.heap.size = g := ⟨_, rfl⟩
  obtain ⟨W1, hW1⟩ : ∃ W1, w.alloc (.cells #[.slice io c.ins.length icap, .slice so c.strs.length scap, .slice fo c.funs.length fcap, .int .i64 c.glob] 26) = W1 := ⟨_, rfl⟩
  have hb1 : Below g w W1 := by rw [← hW1, ← hg]; exact (Below.refl _ w).alloc (Nat.le_refl _) _
  have hr1 : W1.heap[g]? = some (.cells #[.slice io c.ins.length icap, .slice so c.strs.length scap, .slice fo c.funs.length fcap, .int .i64 c.glob] 26 (0, 0)) := by rw [← hW1, ← hg]; exact heap_alloc_new w _
  have hs1 : W1.heap.size = g + 1 := by rw [← hW1, ← hg]; simp
  have k0 : W1.cell? ⟨g, 0, none⟩ = some (.slice io c.ins.length icap) := cell_of_row _ _ 0 _ _ (0, 0) hr1
  have k1 : W1.cell? ⟨g, 1, none⟩ = some (.slice so c.strs.length scap) := cell_of_row _ _ 1 _ _ (0, 0) hr1
  have k2 : W1.cell? ⟨g, 2, none⟩ = some (.slice fo c.funs.length fcap) := cell_of_row _ _ 2 _ _ (0, 0) hr1
  have k3 : W1.cell? ⟨g, 3, none⟩ = some (.int .i64 c.glob) := cell_of_row _ _ 3 _ _ (0, 0) hr1
  have H := Lib.hid (And.intro (show CodeMem W1 (fun b => b < g) c io so fo by have h := hmem.below (by rw [hg]; exact hb1); rw [hg] at h; exact h) (And.intro hb1 (And.intro hr1 (And.intro hs1 (And.intro hW1 hg)))))
  have HK := Lib.hid (And.intro k0 (And.intro k1 (And.intro k2 k3)))
  have HBW := Lib.hid (show Below w.heap.size w W1 by rw [hg]; exact hb1)
  clear hmem hb1 hr1 hs1 hW1 hg
  go_enter Tryd.func9, Tryd.ntmps9
  go_upto_region 1 with (fail)
  rw [H.out.2.2.2.2.1, H.out.2.2.2.2.2]
  obtain ⟨T1, hT1⟩ : ∃ T, betw (c.funs.length : Int) 1 4096 = T := ⟨_, rfl⟩
  obtain ⟨T2, hT2⟩ : ∃ T, betw (c.ins.length : Int) 1 65536 = T := ⟨_, rfl⟩
  obtain ⟨T4, hT4⟩ : ∃ T, betw c.glob 0 4096 = T := ⟨_, rfl⟩
  have HT := Lib.hid (And.intro hT1 (And.intro hT2 hT4))
  clear hT1 hT2 hT4
  cases T1 with
  | false =>
    go_wp2_with fail
    refine (between_any (c.funs.length : Int) 1 4096 W1).mono ?_
    rintro e w2 ⟨rfl, rfl⟩
    rw [HT.out.1]
    go_wp2_with fail
    go_ret
    exact ⟨HBW.out, .inr ⟨fun ho => absurd HT.out.1 (by rw [show betw (c.funs.length : Int) 1 4096 = true from decide_eq_true ⟨by have := ho.1.f1; omega, by have := ho.1.f2; omega⟩]; decide), rfl⟩⟩
  | true =>
  cases T2 with
  | false =>
    go_wp2_with fail
    refine (between_any (c.funs.length : Int) 1 4096 W1).mono ?_
    rintro e w2 ⟨rfl, rfl⟩
    rw [HT.out.1]
    go_wp2_with fail
    refine (between_any (c.ins.length : Int) 1 65536 W1).mono ?_
    rintro e w2 ⟨rfl, rfl⟩
    rw [HT.out.2.1]
    go_wp2_with fail
    go_ret
    exact ⟨HBW.out, .inr ⟨fun ho => absurd HT.out.2.1 (by rw [show betw (c.ins.length : Int) 1 65536 = true from decide_eq_true ⟨by have := ho.1.i1; omega, by have := ho.1.i2; omega⟩]; decide), rfl⟩⟩
  | true =>
  by_cases h3 : c.strs.length ≤ 4096
  case neg =>
    have hd3 : decide (4096 < (c.strs.length : Int)) = true := decide_eq_true (by omega)
    have hd3' : decide (4096 < c.strs.length) = true := decide_eq_true (by omega)
    go_wp2_with fail
    refine (between_any (c.funs.length : Int) 1 4096 W1).mono ?_
    rintro e w2 ⟨rfl, rfl⟩
    rw [HT.out.1]
    go_wp2_with fail
    refine (between_any (c.ins.length : Int) 1 65536 W1).mono ?_
    rintro e w2 ⟨rfl, rfl⟩
    rw [HT.out.2.1]
    go_wp2_with fail
    go_ret
    exact ⟨HBW.out, .inr ⟨fun ho => h3 ho.1.s, rfl⟩⟩
  have hd3 : decide (4096 < (c.strs.length : Int)) = false := decide_eq_false (by omega)
  have hd3' : decide (4096 < c.strs.length) = false := decide_eq_false (by omega)
  cases T4 with
  | false =>
    go_wp2_with fail
    refine (between_any (c.funs.length : Int) 1 4096 W1).mono ?_
    rintro e w2 ⟨rfl, rfl⟩
    rw [HT.out.1]
    go_wp2_with fail
    refine (between_any (c.ins.length : Int) 1 65536 W1).mono ?_
    rintro e w2 ⟨rfl, rfl⟩
    rw [HT.out.2.1]
    go_wp2_with fail
    refine (between_any c.glob 0 4096 W1).mono ?_
    rintro e w2 ⟨rfl, rfl⟩
    rw [HT.out.2.2]
    go_wp2_with fail
    go_ret
    exact ⟨HBW.out, .inr ⟨fun ho => absurd HT.out.2.2 (by rw [show betw c.glob 0 4096 = true from decide_eq_true ⟨ho.1.g1, ho.1.g2⟩]; decide), rfl⟩⟩
  | true =>
  go_wp2_with fail
  refine (between_any (c.funs.length : Int) 1 4096 W1).mono ?_
  rintro e w2 ⟨rfl, rfl⟩
  rw [HT.out.1]
  go_wp2_with fail
  refine (between_any (c.ins.length : Int) 1 65536 W1).mono ?_
  rintro e w2 ⟨rfl, rfl⟩
  rw [HT.out.2.1]
  go_wp2_with fail
  refine (between_any c.glob 0 4096 W1).mono ?_
  rintro e w2 ⟨rfl, rfl⟩
  rw [HT.out.2.2]
  have hb1 := of_decide_eq_true HT.out.1
  have hb2 := of_decide_eq_true HT.out.2.1
  have hf1 : 1 ≤ c.funs.length ∧ c.funs.length ≤ 4096 := by omega
  have hi1 : 1 ≤ c.ins.length ∧ c.ins.length ≤ 65536 := by omega
  obtain ⟨hf1, hf2⟩ := hf1
  obtain ⟨hi1, hi2⟩ := hi1
  clear hb1 hb2
  go_upto_block 0 with (fail)
  go_wp2_with fail
  go_loopw [3] (fun v3 wr => ∃ i : Nat, i ≤ c.strs.length ∧ v3 = .int .i64 (i : Int) ∧ wr = W1 ∧ ∀ k (hk : k < i) (hk' : k < c.strs.length), (c.strs[k]).length ≤ 4096) (fun v3 _ => c.strs.length - (intOf v3).toNat)
  case atStart => exact ⟨0, by omega, rfl, rfl, fun k hk => by omega⟩
  case round =>
    obtain ⟨i, hi, rfl, rfl, hall⟩ := hrel
    have HA := Lib.hid hall
    clear hall
    by_cases hlt : i < c.strs.length
    · skip
      -- CUT A
      have hd1 : decide ((i : Int) < (c.strs.length : Int)) = true := decide_eq_true (by omega)
      obtain ⟨sb, sf, rfl, hsc⟩ := H.out.1.strs.exv i (by simpa [strCells] using hlt)
      have hse : (strCells c.strs)[i]'(by simpa [strCells] using hlt) = .string ⟨(c.strs[i]).toArray⟩ := by simp [strCells]
      rw [hse] at hsc
      have hsl := H.out.1.strR _ (List.getElem_mem hlt)
      obtain ⟨st, hst⟩ : ∃ st, c.strs[i] = st := ⟨_, rfl⟩
      rw [hst] at hsc hsl
      have hsz : (ByteArray.mk st.toArray).size = st.length := by rw [ByteArray.size]; simp
      have HST := Lib.hid hst
      clear hse hst
      by_cases h4 : st.length ≤ 4096
      · have hd4 : decide (4096 < (st.length : Int)) = false := decide_eq_false (by omega)
        have hd4' : decide (4096 < st.length) = false := decide_eq_false (by omega)
        go_wp2_with fail
        go_roundw
        case rel =>
          refine ⟨i + 1, by omega, by simp, trivial, fun k hk hk' => ?_⟩
          rcases Nat.lt_or_ge k i with h | h
          · exact HA.out k h hk'
          · obtain rfl : k = i := by omega
            rw [HST.out]
            exact h4
        case measure => simp [intOf]; omega
      · have hd4 : decide (4096 < (st.length : Int)) = true := decide_eq_true (by omega)
        have hd4' : decide (4096 < st.length) = true := decide_eq_true (by omega)
        go_wp2_with fail
        go_ret
        refine ⟨HBW.out, .inr ⟨fun ho => ?_, rfl⟩⟩
        have := ho.1.str _ (List.getElem_mem hlt)
        rw [HST.out] at this
        omega
      -- END A
    · obtain rfl : i = c.strs.length := by omega
      have hd1 : decide ((c.strs.length : Int) < (c.strs.length : Int)) = false := decide_eq_false (by omega)
      go_upto_block 2 with (fail)
      go_wp2_with fail
      obtain ⟨w1, hw1⟩ : ∃ w1, w1 = wr := ⟨_, rfl⟩
      subst hw1
      go_loopw [4] (fun v4 wr => ∃ i : Nat, i ≤ c.ins.length ∧ v4 = .int .i64 (i : Int) ∧ Below w1.heap.size w1 wr ∧ ∀ j x, j < i → c.ins[j]? = some x → 0 ≤ x.op ∧ x.op ≤ 28 ∧ (usesP x.op = 0 → x.a = 0) ∧ (usesP x.op ≤ 1 → x.b = 0)) (fun v4 _ => c.ins.length - (intOf v4).toNat)
      case atStart => exact ⟨0, by omega, rfl, Below.refl _ _, fun j x hj => by omega⟩
      case round =>
        obtain ⟨i, hi, rfl, hbr, hops⟩ := hrel
        have hlt1 : g < w1.heap.size := by have := H.out.2.2.2.1; omega
        have k0r : wr.cell? ⟨g, 0, none⟩ = _ := (World.cell?_of_block (a := ⟨g, 0, none⟩) (hbr.block g hlt1)).trans HK.out.1
        have HR := Lib.hid (And.intro hbr (And.intro hops (And.intro (H.out.1.below hbr) (HBW.out.trans (hbr.mono HBW.out.size)))))
        clear hbr hops
        by_cases hlt2 : i < c.ins.length
        · skip
          -- CUT B
          have hd2 : decide ((i : Int) < (c.ins.length : Int)) = true := decide_eq_true (by omega)
          obtain ⟨ib, fo', rfl, i0, i1, i2⟩ := HR.out.2.2.1.insAt i hlt2
          obtain ⟨x, hx⟩ : ∃ x, c.ins[i] = x := ⟨_, rfl⟩
          rw [hx] at i0 i1 i2
          have hxs : c.ins[i]? = some x := by rw [List.getElem?_eq_getElem hlt2, hx]
          obtain ⟨op, a, b⟩ := x
          simp only at i0 i1 i2
          have HX := Lib.hid hxs
          clear hx hxs
          obtain ⟨W2, hW2⟩ : ∃ W2, wr.alloc (.cells #[.int .i64 op, .int .i64 a, .int .i64 b] 29) = W2 := ⟨_, rfl⟩
          have hb2 : Below wr.heap.size wr W2 := by rw [← hW2]; exact (Below.refl _ wr).alloc (Nat.le_refl _) _
          have hr2 : W2.heap[wr.heap.size]? = some (.cells #[.int .i64 op, .int .i64 a, .int .i64 b] 29 (0, 0)) := by rw [← hW2]; exact heap_alloc_new wr _
          have j0 : W2.cell? ⟨wr.heap.size, 0, none⟩ = some (.int .i64 op) := cell_of_row _ _ 0 _ _ (0, 0) hr2
          have j1 : W2.cell? ⟨wr.heap.size, 1, none⟩ = some (.int .i64 a) := cell_of_row _ _ 1 _ _ (0, 0) hr2
          have j2 : W2.cell? ⟨wr.heap.size, 2, none⟩ = some (.int .i64 b) := cell_of_row _ _ 2 _ _ (0, 0) hr2
          have H2 := Lib.hid (And.intro (HR.out.1.trans (hb2.mono HR.out.1.size)) (HR.out.2.2.2.trans (hb2.mono HR.out.2.2.2.size)))
          clear hb2 hr2
          cases hqo : betw op 0 28 with
          | false =>
            have HQO := Lib.hid hqo
            clear hqo
            go_wp2_with fail
            clear hW2
            refine (between_any op 0 28 W2).mono ?_
            rintro e w2 ⟨rfl, rfl⟩
            rw [HQO.out]
            go_wp2_with fail
            go_ret
            refine ⟨H2.out.2, .inr ⟨fun ho => ?_, rfl⟩⟩
            have := ho.1.op _ (List.mem_of_getElem? HX.out)
            exact absurd HQO.out (by rw [show betw op 0 28 = true from decide_eq_true ⟨this.1, this.2.1⟩]; decide)
          | true =>
            have hop := of_decide_eq_true hqo
            have HQO := Lib.hid hqo
            clear hqo
            obtain ⟨u, hu'⟩ : ∃ u, usesP op = u := ⟨_, rfl⟩
            have hu3 : u ≤ 2 := by rw [← hu']; unfold usesP; split <;> (try split) <;> omega
            have HU := Lib.hid (And.intro hu' hop)
            have hbad : ¬ ((u = 0 → a = 0) ∧ (u ≤ 1 → b = 0)) → ¬ Ord flC c := by
              rintro hab ⟨hp, _⟩
              have := hp.op _ (List.mem_of_getElem? HX.out)
              simp only [HU.out.1] at this
              exact hab this.2.2
            have hopsn : ((u = 0 → a = 0) ∧ (u ≤ 1 → b = 0)) → ∀ j x, j < i + 1 → c.ins[j]? = some x → 0 ≤ x.op ∧ x.op ≤ 28 ∧ (usesP x.op = 0 → x.a = 0) ∧ (usesP x.op ≤ 1 → x.b = 0) := by
              intro hab j x hj hx
              rcases Nat.lt_or_ge j i with h | h
              · exact HR.out.2.1 j x h hx
              · obtain rfl : j = i := by omega
                rw [HX.out] at hx
                cases hx
                exact ⟨hop.1, hop.2, by simp only; rw [HU.out.1]; exact hab.1, by simp only; rw [HU.out.1]; exact hab.2⟩
            have HBAD := Lib.hid hbad
            have HOPS := Lib.hid hopsn
            clear hu' hop hbad hopsn
            have hcs : (u = 0 ∧ a = 0 ∧ b = 0) ∨ (u = 1 ∧ b = 0) ∨ u = 2 ∨ (u = 0 ∧ b ≠ 0) ∨ (u = 0 ∧ a ≠ 0 ∧ b = 0) ∨ (u = 1 ∧ b ≠ 0) := by omega
            go_wp2_with fail
            clear hW2
            refine (between_any op 0 28 W2).mono ?_
            rintro e w2 ⟨rfl, rfl⟩
            rw [HQO.out]
            rcases hcs with ⟨rfl, rfl, rfl⟩ | ⟨rfl, rfl⟩ | rfl | ⟨rfl, hnb⟩ | ⟨rfl, hna, rfl⟩ | ⟨rfl, hnb⟩
            · skip
              go_wp2_with fail
              refine (uses_any op HU.out.2.1 HU.out.2.2 W2).mono ?_
              rintro e w2 ⟨rfl, rfl⟩
              rw [HU.out.1]
              go_wp2_with fail
              refine (uses_any op HU.out.2.1 HU.out.2.2 W2).mono ?_
              rintro e w2 ⟨rfl, rfl⟩
              rw [HU.out.1]
              go_wp2_with fail
              go_roundw
              case rel => exact ⟨i + 1, by omega, by simp, H2.out.1, HOPS.out ⟨fun h => (by first | rfl | trivial | omega), fun h => (by first | rfl | trivial | omega)⟩⟩
              case measure => simp [intOf]; omega
            · skip
              go_wp2_with fail
              refine (uses_any op HU.out.2.1 HU.out.2.2 W2).mono ?_
              rintro e w2 ⟨rfl, rfl⟩
              rw [HU.out.1]
              go_wp2_with fail
              refine (uses_any op HU.out.2.1 HU.out.2.2 W2).mono ?_
              rintro e w2 ⟨rfl, rfl⟩
              rw [HU.out.1]
              go_wp2_with fail
              go_roundw
              case rel => exact ⟨i + 1, by omega, by simp, H2.out.1, HOPS.out ⟨fun h => (by first | rfl | trivial | omega), fun h => (by first | rfl | trivial | omega)⟩⟩
              case measure => simp [intOf]; omega
            · skip
              go_wp2_with fail
              refine (uses_any op HU.out.2.1 HU.out.2.2 W2).mono ?_
              rintro e w2 ⟨rfl, rfl⟩
              rw [HU.out.1]
              go_wp2_with fail
              refine (uses_any op HU.out.2.1 HU.out.2.2 W2).mono ?_
              rintro e w2 ⟨rfl, rfl⟩
              rw [HU.out.1]
              go_wp2_with fail
              go_roundw
              case rel => exact ⟨i + 1, by omega, by simp, H2.out.1, HOPS.out ⟨fun h => (by first | rfl | trivial | omega), fun h => (by first | rfl | trivial | omega)⟩⟩
              case measure => simp [intOf]; omega
            · skip
              have hd7 : (b != 0) = true := by simp [hnb]
              have hd8 : decide (b = 0) = false := decide_eq_false hnb
              go_wp2_with fail
              refine (uses_any op HU.out.2.1 HU.out.2.2 W2).mono ?_
              rintro e w2 ⟨rfl, rfl⟩
              rw [HU.out.1]
              go_wp2_with fail
              go_ret
              exact ⟨H2.out.2, .inr ⟨HBAD.out (fun h => hnb (h.2 (by omega))), rfl⟩⟩
            · skip
              have hd7 : (a != 0) = true := by simp [hna]
              have hd8 : decide (a = 0) = false := decide_eq_false hna
              go_wp2_with fail
              refine (uses_any op HU.out.2.1 HU.out.2.2 W2).mono ?_
              rintro e w2 ⟨rfl, rfl⟩
              rw [HU.out.1]
              go_wp2_with fail
              refine (uses_any op HU.out.2.1 HU.out.2.2 W2).mono ?_
              rintro e w2 ⟨rfl, rfl⟩
              rw [HU.out.1]
              go_wp2_with fail
              go_ret
              exact ⟨H2.out.2, .inr ⟨HBAD.out (fun h => hna (h.1 trivial)), rfl⟩⟩
            · skip
              have hd7 : (b != 0) = true := by simp [hnb]
              have hd8 : decide (b = 0) = false := decide_eq_false hnb
              go_wp2_with fail
              refine (uses_any op HU.out.2.1 HU.out.2.2 W2).mono ?_
              rintro e w2 ⟨rfl, rfl⟩
              rw [HU.out.1]
              go_wp2_with fail
              go_ret
              exact ⟨H2.out.2, .inr ⟨HBAD.out (fun h => hnb (h.2 (by omega))), rfl⟩⟩
          -- END B
        · obtain rfl : i = c.ins.length := by omega
          have hd2 : decide ((c.ins.length : Int) < (c.ins.length : Int)) = false := decide_eq_false (by omega)
          have hb4 := of_decide_eq_true HT.out.2.2
          have HP := Lib.hid (show Pre c from ⟨hf1, hf2, hi1, hi2, h3, hb4.1, hb4.2, fun s hs => by
            obtain ⟨k, hk, rfl⟩ := List.getElem_of_mem hs
            exact HA.out k hk hk, fun x hx => by
            obtain ⟨k, hk, rfl⟩ := List.getElem_of_mem hx
            exact HR.out.2.1 k _ hk (List.getElem?_eq_getElem hk)⟩)
          have hrg : wr.heap[g]? = _ := (HR.out.1.block g hlt1).trans H.out.2.2.1
          have k1r : wr.cell? ⟨g, 1, none⟩ = some (.slice so c.strs.length scap) := cell_of_row _ _ 1 _ _ (0, 0) hrg
          have k2r : wr.cell? ⟨g, 2, none⟩ = some (.slice fo c.funs.length fcap) := cell_of_row _ _ 2 _ _ (0, 0) hrg
          have k3r : wr.cell? ⟨g, 3, none⟩ = some (.int .i64 c.glob) := cell_of_row _ _ 3 _ _ (0, 0) hrg
          have HRG := Lib.hid (And.intro hrg (counts_any (icap := icap) (scap := scap) (fcap := fcap) (HR.out.2.2.1.mono (fun b hb => by have := HR.out.2.2.2.size; have := H.out.2.2.2.2.2; omega)) hil hfl))
          clear hb4 hrg
          go_wp2_with fail
          refine HRG.out.2.mono ?_
          rintro e w3 ⟨hb3, hres⟩
          have HB3 := Lib.hid (And.intro hb3 (HR.out.2.2.2.trans (hb3.mono HR.out.2.2.2.size)))
          have hs3 := hb3.size
          have hsr := HR.out.1.size
          clear hb3 k0r k1r k2r k3r
          rcases hres with ⟨L, lb, rfl, hfr, hlw, hlb⟩ | ⟨rfl, hno⟩
          case inr =>
            go_wp2_with fail
            go_ret
            exact ⟨HB3.out.2, .inr ⟨hno, rfl⟩⟩
          have hrg3 : w3.heap[g]? = _ := (HB3.out.1.block g (by omega)).trans HRG.out.1
          have q0 : w3.cell? ⟨g, 0, none⟩ = some (.slice io c.ins.length icap) := cell_of_row _ _ 0 _ _ (0, 0) hrg3
          have hlbl := (Array.getElem?_eq_some_iff.1 hlw).1
          have HL := Lib.hid (And.intro hfr (And.intro hlw hrg3))
          clear hfr hlw hrg3
          go_upto_region 18 with (first | (refine op_makeS rfl _ _ rfl c.ins.length rfl rfl (by omega) ?_; rintro w7 m1 m2; have M7 := Lib.hid (And.intro m1 m2); clear m1 m2))
          obtain ⟨sb, hsb⟩ : ∃ sb, w3.heap.size = sb := ⟨_, rfl⟩
          rw [hsb] at M7 ⊢
          have HSB := Lib.hid hsb
          have h37 : Below w3.heap.size w3 w7 := grown_below M7.out.2
          have hgsb : g < sb := by omega
          have hlsb : lb < sb := by omega
          have hg7 : w7.heap[g]? = _ := (h37.block g (by omega)).trans HL.out.2.2
          have hl7 : w7.heap[lb]? = _ := (h37.block lb (by omega)).trans HL.out.2.1
          have hb7 : Below w.heap.size w w7 := HB3.out.2.trans (h37.mono HB3.out.2.size)
          have hwg : w.heap.size = g := H.out.2.2.2.2.2
          have hm7 : CodeMem w7 (fun b => b < g) c io so fo := by
            have h1 := HR.out.2.2.1.below (HB3.out.1.trans (h37.mono HB3.out.1.size))
            exact h1
          have H7 := Lib.hid (And.intro M7.out.1 (And.intro hg7 (And.intro hl7 (And.intro hb7 (And.intro hm7 hwg)))))
          have hsb7 : sb < w7.heap.size := M7.out.1.lt
          clear hsb h37 hg7 hl7 hb7 hwg hm7 q0 hs3 hsr hlb hlbl M7
          go_upto_block 4 with (fail)
          go_wp2_with fail
          go_loopw [9, 10] (fun v9 v10 wr => ∃ k wo wcap S W, k ≤ c.funs.length ∧ v9 = .slice wo W.length wcap ∧ v10 = .int .i64 (k : Int) ∧ RInv w7 c L sb k c.ins.length wr wo wcap S W) (fun _ v10 _ => c.funs.length - (intOf v10).toNat)
          case atStart => exact ⟨0, none, 0, fun _ => none, [], by omega, rfl, rfl, H7.out.1.empty (fun b hb => hb.1), QueueAt.nil _ _, Work.nil _ _ _, Keeps.refl _ _⟩
          case round =>
            obtain ⟨k, wo, wcap, S, W, hk, rfl, rfl, hsp, hq, hwk, hkr⟩ := hrel
            have hrg : wr.heap[g]? = _ := (hkr.block g (by omega) (fun h => by omega)).trans H7.out.2.1
            have hsr := hkr.size
            have hbr : Below w.heap.size w wr := H7.out.2.2.2.1.trans (hkr.below (fun i hi h => by have := H7.out.2.2.2.2.2; omega) (by have := H7.out.2.2.2.1.size; omega))
            have hmr : CodeMem wr (fun b => b < g) c io so fo := H7.out.2.2.2.2.1.keeps hkr (fun b hb h => by omega)
            have HW := Lib.hid (And.intro hsp (And.intro hq (And.intro hwk (And.intro hkr (And.intro hbr (And.intro hrg hmr))))))
            have hsbr : sb < wr.heap.size := by omega
            have k2 : wr.cell? ⟨g, 2, none⟩ = some (.slice fo c.funs.length fcap) := cell_of_row _ _ 2 _ _ (0, 0) hrg
            have k0 : wr.cell? ⟨g, 0, none⟩ = some (.slice io c.ins.length icap) := cell_of_row _ _ 0 _ _ (0, 0) hrg
            clear hsp hq hwk hkr hrg hbr hmr
            by_cases hltk : k < c.funs.length
            · skip
              -- CUT C
              have hd4 : decide ((k : Int) < (c.funs.length : Int)) = true := decide_eq_true (by omega)
              obtain ⟨fb, ff, rfl, f0⟩ := HW.out.2.2.2.2.2.2.funs.exv k (by simpa [intsV] using hltk)
              rw [intsV_get c.funs k hltk] at f0
              obtain ⟨a, ha⟩ : ∃ a, c.funs[k] = a := ⟨_, rfl⟩
              have has : c.funs[k]? = some a := by rw [List.getElem?_eq_getElem hltk, ha]
              rw [ha] at f0
              obtain ⟨T, hT⟩ : ∃ T, betw a 0 ((c.ins.length : Int) - 1) = T := ⟨_, rfl⟩
              have HA2 := Lib.hid (And.intro has hT)
              have HD := Lib.hid (And.intro (show wr.drew.cell? ⟨g, 2, none⟩ = _ from k2) (And.intro (show wr.drew.cell? ⟨g, 0, none⟩ = _ from k0) (show wr.drew.cell? ⟨fb, ff + k, none⟩ = _ from f0)))
              clear ha has hT
              go_wp2_with fail
              refine seq_start (by kernel_rfl) ?_
              clear k0 k2 f0
              refine seq_take 0 (v := ?_) rfl (by kernel_rfl) (fun _ _ _ h => h) (by rfl) (fun w' hw' => ?_) ?_
              rotate_left
              · go_simp; try with_reducible rfl
              try simp only [List.getElem_toArray, List.getElem_cons_succ, List.getElem_cons_zero, Act.put, List.setIfInBounds_toArray, List.set_cons_zero, List.set_cons_succ]
              refine seq_take 1 rfl (by kernel_rfl) (fun _ _ _ h => h) (by rfl) (seq_ldII rfl rfl (HD.out.1)) ?_
              try simp only [List.getElem_toArray, List.getElem_cons_succ, List.getElem_cons_zero, Act.put, List.setIfInBounds_toArray, List.set_cons_zero, List.set_cons_succ]
              refine seq_take 2 (v := ?_) rfl (by kernel_rfl) (fun _ _ _ h => h) (by rfl) (fun w' hw' => ?_) ?_
              rotate_left
              · go_simp; try with_reducible rfl
              try simp only [List.getElem_toArray, List.getElem_cons_succ, List.getElem_cons_zero, Act.put, List.setIfInBounds_toArray, List.set_cons_zero, List.set_cons_succ]
              refine seq_take 3 (v := ?_) rfl (by kernel_rfl) (fun _ _ _ h => h) (by rfl) (fun w' hw' => ?_) ?_
              rotate_left
              · go_simp; try with_reducible rfl
              try simp only [List.getElem_toArray, List.getElem_cons_succ, List.getElem_cons_zero, Act.put, List.setIfInBounds_toArray, List.set_cons_zero, List.set_cons_succ]
              refine seq_take 4 rfl (by kernel_rfl) (fun _ _ _ h => h) (by rfl) (seq_ldi rfl rfl (HD.out.2.2)) ?_
              try simp only [List.getElem_toArray, List.getElem_cons_succ, List.getElem_cons_zero, Act.put, List.setIfInBounds_toArray, List.set_cons_zero, List.set_cons_succ]
              refine seq_take 5 (v := ?_) rfl (by kernel_rfl) (fun _ _ _ h => h) (by rfl) (fun w' hw' => ?_) ?_
              rotate_left
              · go_simp; try with_reducible rfl
              try simp only [List.getElem_toArray, List.getElem_cons_succ, List.getElem_cons_zero, Act.put, List.setIfInBounds_toArray, List.set_cons_zero, List.set_cons_succ]
              refine seq_take 6 rfl (by kernel_rfl) (fun _ _ _ h => h) (by rfl) (seq_ldRI rfl rfl (HD.out.2.1)) ?_
              try simp only [List.getElem_toArray, List.getElem_cons_succ, List.getElem_cons_zero, Act.put, List.setIfInBounds_toArray, List.set_cons_zero, List.set_cons_succ]
              refine seq_take 7 (v := ?_) rfl (by kernel_rfl) (fun _ _ _ h => h) (by rfl) (fun w' hw' => ?_) ?_
              rotate_left
              · go_simp; try with_reducible rfl
              try simp only [List.getElem_toArray, List.getElem_cons_succ, List.getElem_cons_zero, Act.put, List.setIfInBounds_toArray, List.set_cons_zero, List.set_cons_succ]
              refine seq_take 8 (v := ?_) rfl (by kernel_rfl) (fun _ _ _ h => h) (by rfl) (fun w' hw' => ?_) ?_
              rotate_left
              · go_simp; try with_reducible rfl
              try simp only [List.getElem_toArray, List.getElem_cons_succ, List.getElem_cons_zero, Act.put, List.setIfInBounds_toArray, List.set_cons_zero, List.set_cons_succ]
              refine seq_run 9 rfl (by kernel_rfl) (by rfl) (fun KK hKK => ?_)
              go_wp2_with fail
              refine (between_any a 0 ((c.ins.length : Int) - 1) wr.drew).mono ?_
              rintro e w2 ⟨rfl, rfl⟩
              rw [HA2.out.2]
              go_wp2_with fail
              refine ⟨Below.refl _ _, ?_⟩
              refine seq_take 10 (v := ?_) rfl (by kernel_rfl) (fun _ _ _ h => h) (by rfl) (fun w' hw' => ?_) ?_
              rotate_left
              · go_simp; try with_reducible rfl
              try simp only [List.getElem_toArray, List.getElem_cons_succ, List.getElem_cons_zero, Act.put, List.setIfInBounds_toArray, List.set_cons_zero, List.set_cons_succ]
              refine seq_done (by kernel_rfl) ?_
              cases T with
              | false =>
                go_wp2_with fail
                go_ret
                refine ⟨HW.out.2.2.2.2.1.drew, .inr ⟨HW.out.2.2.1.come_no (show comeOk c S a ⟨k, min (k : Int) 1, []⟩ = false from decide_eq_false (fun hc => ?_)) (HW.out.2.2.1.start HA2.out.1) HL.out.1, rfl⟩⟩
                have := HA2.out.2
                rw [show betw a 0 ((c.ins.length : Int) - 1) = true from decide_eq_true ⟨hc.1, by have := hc.2.1; omega⟩] at this
                cases this
              | true =>
                have hin := of_decide_eq_true HA2.out.2
                obtain ⟨j, rfl⟩ : ∃ j : Nat, a = (j : Int) := ⟨a.toNat, by omega⟩
                have hj : j < c.ins.length := by omega
                clear hin
                obtain ⟨V, hV⟩ : ∃ V, wr.drew = V := ⟨_, rfl⟩
                rw [hV]
                have hbV : Below wr.heap.size wr V := by rw [← hV]; exact (Below.refl _ wr).drew
                have hVs : V.heap.size = wr.heap.size := by rw [← hV]; simp
                have hVg : V.cell? ⟨g, 2, none⟩ = some (.slice (some ⟨fb, ff, none⟩) c.funs.length fcap) := by rw [← hV]; exact HD.out.1
                have hVf : V.cell? ⟨fb, ff + k, none⟩ = some (.int .i64 (j : Int)) := by rw [← hV]; exact HD.out.2.2
                have HVV := Lib.hid (And.intro hbV (And.intro hVg (And.intro hVf hVs)))
                have hVl : wr.heap.size ≤ V.heap.size := by omega
                clear hV hbV hVg hVf hVs
                go_upto_region 25 with (fail)
                by_cases hk0 : k = 0
                · have hd6 : decide ((0 : Int) < (k : Int)) = false := decide_eq_false (by omega)
                  have hd7 : decide (0 < k) = false := decide_eq_false (by omega)
                  have hmh : min (k : Int) 1 = 0 := by omega
                  obtain ⟨P1, hP1⟩ : ∃ P1, V.alloc (.cells #[.bool true, .int .i64 (k : Int), .int .i64 0, .slice none 0 0] 62) = P1 := ⟨_, rfl⟩
                  rw [hP1]
                  have hbP : Below V.heap.size V P1 := by rw [← hP1]; exact (Below.refl _ V).alloc (Nat.le_refl _) _
                  have hrP : P1.heap[V.heap.size]? = some (.cells #[.bool true, .int .i64 (k : Int), .int .i64 (min (k : Int) 1), .slice none 0 0] 62 (0, 0)) := by rw [← hP1, hmh]; exact heap_alloc_new V _
                  have hsP : V.heap.size < P1.heap.size := by rw [← hP1]; simp
                  have HK0 := Lib.hid (And.intro hk0 hmh)
                  clear hk0 hmh
                  have kg : P1.cell? ⟨g, 2, none⟩ = some (.slice (some ⟨fb, ff, none⟩) c.funs.length fcap) := (World.cell?_of_block (a := ⟨g, 2, none⟩) (hbP.block g (by omega))).trans HVV.out.2.1
                  have hfbl := World.block_lt_of_cell? (a := ⟨fb, ff + k, none⟩) V HVV.out.2.2.1
                  simp only at hfbl
                  have kf : P1.cell? ⟨fb, ff + k, none⟩ = some (.int .i64 (j : Int)) := (World.cell?_of_block (a := ⟨fb, ff + k, none⟩) (hbP.block fb hfbl)).trans HVV.out.2.2.1
                  have hspP : SpotsAt P1 sb c.ins.length (fun b => b ≠ sb ∧ b < wr.heap.size ∧ blk wo ≠ some b) S := HW.out.1.below (HVV.out.1.trans (hbP.mono (by omega)))
                  have HQ1 := Lib.hid (And.intro hspP (And.intro (HVV.out.1.trans (hbP.mono (by omega))) (And.intro hrP (range_row (cell_of_row _ _ 0 _ _ (0, 0) hrP) (cell_of_row _ _ 1 _ _ (0, 0) hrP) (cell_of_row _ _ 2 _ _ (0, 0) hrP) (cell_of_row _ _ 3 _ _ (0, 0) hrP)))))
                  clear hspP hbP hrP
                  have HKG := Lib.hid (And.intro kg kf)
                  cases hS : S (j : Int) with
                  | none =>
                    have kj : P1.cell? ⟨sb, j * 4, none⟩ = some (.bool false) := HQ1.out.1.no j hj hS
                    have HS := Lib.hid hS
                    clear hS
                    go_wp2_with fail
                    clear hP1 kg kf kj
                    refine seql_start [8] (by kernel_rfl) ?_
                    refine seql_take 0 (v := ?_) rfl (by kernel_rfl) (fun _ _ _ h => h) (by rfl) (fun w' hw' => ?_) ?_
                    rotate_left
                    · go_simp; try with_reducible rfl
                    try simp only [List.getElem_toArray, List.getElem_cons_succ, List.getElem_cons_zero, Act.put, List.setIfInBounds_toArray, List.set_cons_zero, List.set_cons_succ]
                    refine seql_take 1 (v := ?_) rfl (by kernel_rfl) (fun _ _ _ h => h) (by rfl) (fun w' hw' => ?_) ?_
                    rotate_left
                    · go_simp; try with_reducible rfl
                    try simp only [List.getElem_toArray, List.getElem_cons_succ, List.getElem_cons_zero, Act.put, List.setIfInBounds_toArray, List.set_cons_zero, List.set_cons_succ]
                    refine seql_take 2 rfl (by kernel_rfl) (fun _ _ _ h => h) (by rfl) (seq_ldII rfl rfl ((show P1.drew.cell? ⟨g, 2, none⟩ = _ from HKG.out.1))) ?_
                    try simp only [List.getElem_toArray, List.getElem_cons_succ, List.getElem_cons_zero, Act.put, List.setIfInBounds_toArray, List.set_cons_zero, List.set_cons_succ]
                    refine seql_take 3 (v := ?_) rfl (by kernel_rfl) (fun _ _ _ h => h) (by rfl) (fun w' hw' => ?_) ?_
                    rotate_left
                    · go_simp; try with_reducible rfl
                    try simp only [List.getElem_toArray, List.getElem_cons_succ, List.getElem_cons_zero, Act.put, List.setIfInBounds_toArray, List.set_cons_zero, List.set_cons_succ]
                    refine seql_take 4 (v := ?_) rfl (by kernel_rfl) (fun _ _ _ h => h) (by rfl) (fun w' hw' => ?_) ?_
                    rotate_left
                    · go_simp; try with_reducible rfl
                    try simp only [List.getElem_toArray, List.getElem_cons_succ, List.getElem_cons_zero, Act.put, List.setIfInBounds_toArray, List.set_cons_zero, List.set_cons_succ]
                    refine seql_take 5 rfl (by kernel_rfl) (fun _ _ _ h => h) (by rfl) (seq_ldi rfl rfl ((show P1.drew.cell? ⟨fb, ff + k, none⟩ = _ from HKG.out.2))) ?_
                    try simp only [List.getElem_toArray, List.getElem_cons_succ, List.getElem_cons_zero, Act.put, List.setIfInBounds_toArray, List.set_cons_zero, List.set_cons_succ]
                    refine seql_take 6 rfl (by kernel_rfl) (fun _ _ _ h => h) (by rfl) (seq_ldSp rfl rfl ((show P1.drew.rangeAt V.heap.size 0 _ from HQ1.out.2.2.2))) ?_
                    try simp only [List.getElem_toArray, List.getElem_cons_succ, List.getElem_cons_zero, Act.put, List.setIfInBounds_toArray, List.set_cons_zero, List.set_cons_succ]
                    refine seql_take 7 (v := ?_) rfl (by kernel_rfl) (fun _ _ _ h => h) (by rfl) (fun w' hw' => ?_) ?_
                    rotate_left
                    · go_simp; try with_reducible rfl
                    try simp only [List.getElem_toArray, List.getElem_cons_succ, List.getElem_cons_zero, Act.put, List.setIfInBounds_toArray, List.set_cons_zero, List.set_cons_succ]
                    refine seql_last 8 rfl (by kernel_rfl) (by kernel_rfl) (by rfl) (fun KK hKK => ?_)
                    refine wp_store_mid 62 _ _ rfl sb (j * 4) #[.bool true, .int .i64 (k : Int), .int .i64 (min (k : Int) 1), .slice none 0 0] rfl rfl (show P1.drew.there sb (j * 4) 4 from HQ1.out.1.there j hj) (by kernel_rfl) (spot_one _ _ _ _ _) ?_
                    refine hKK _ _ ?_
                    refine seql_done (by kernel_rfl) ?_
                    have hsX := (HQ1.out.1.below (Below.refl _ P1).drew).put j hj ⟨k, min (k : Int) 1, []⟩ none 0 (Nat.le_refl _) (by decide) (At.nil _ _) (fun b hb => (by cases hb))
                    obtain ⟨X1, hX1⟩ : ∃ X1, P1.drew.setCells sb (j * 4) (spotRow ⟨k, min (k : Int) 1, []⟩ none 0) = X1 := ⟨_, rfl⟩
                    have hkX : Keeps (fun b => b = sb) P1 X1 := by rw [← hX1]; exact (Keeps.of_below (Below.refl _ P1).drew).trans' (Keeps.setCells sb _ _ _)
                    rw [hX1] at hsX
                    rw [show P1.drew.setCells sb (j * 4) (#[Value.bool true, .int .i64 (k : Int), .int .i64 (min (k : Int) 1), .slice none 0 0] : Array Value).toList = X1 from hX1]
                    have hqX : QueueAt X1 (sb + 1) wo wcap W := (HW.out.2.1.below HQ1.out.2.1).keeps hkX (fun b hb h => by have := (HW.out.2.1.2.2.1 b hb).1; omega)
                    have hsP1 := HQ1.out.2.1.size
                    have hsX1 := hkX.size
                    have kg : X1.cell? ⟨g, 2, none⟩ = some (.slice (some ⟨fb, ff, none⟩) c.funs.length fcap) := keeps_cell hkX (by intro h; have h : g = sb := h; omega) HKG.out.1
                    have hfbg : fb < g := HW.out.2.2.2.2.2.2.funD fb rfl (by intro h; rw [h] at hltk; simp at hltk)
                    have kf : X1.cell? ⟨fb, ff + k, none⟩ = some (.int .i64 (j : Int)) := keeps_cell hkX (by intro h; have h : fb = sb := h; omega) HKG.out.2
                    have hba : Below X1.heap.size X1 (X1.alloc (.cells #[.int .i64 (j : Int)] 3)) := (Below.refl _ X1).alloc (Nat.le_refl _) _
                    have HX := Lib.hid (And.intro hsX (And.intro hkX (And.intro (hqX.below hba) (And.intro hba (show (X1.alloc (.cells #[.int .i64 (j : Int)] 3)).cell? ⟨X1.heap.size, 0, none⟩ = some (.int .i64 (j : Int)) from cell_of_row _ _ 0 _ _ (0, 0) (heap_alloc_new X1 _))))))
                    have hWl : W.length ≤ 65536 := by have := HW.out.2.2.1.cnt; omega
                    clear hsX hX1 hkX hqX hba hfbg
                    go_wp2_with (at_builtin; refine app_queue rfl _ _ rfl (sb + 1) wo wcap W.length W rfl rfl HX.out.2.2.1 (j : Int) X1.heap.size rfl HX.out.2.2.2.2 (by omega) (by have := HX.out.2.2.2.1.size; omega) ?_; rintro ao5 cap5 w5 r1 r2 r3; have Q5 := Lib.hid (And.intro r1 (And.intro r2 r3)); clear r1 r2 r3)
                    go_roundw
                    case rel =>
                      have hok : comeOk c S (j : Int) ⟨k, min (k : Int) 1, []⟩ = true := decide_eq_true ⟨by omega, by omega, by show min (k : Int) 1 ≤ 10000; omega, .inl HS.out⟩
                      have eS : comeS S (j : Int) ⟨k, min (k : Int) 1, []⟩ = fun z => if z = (j : Int) then some ⟨k, min (k : Int) 1, []⟩ else S z := by unfold comeS; rw [if_pos HS.out]
                      have eW : comeW S W (j : Int) = W ++ [(j : Int)] := by unfold comeW; rw [if_pos HS.out]
                      have hwk := (HW.out.2.2.1.come hok ⟨by omega, by omega, by show 0 ≤ min (k : Int) 1; omega, by show min (k : Int) 1 ≤ 10000; omega, hltk, fun u hu => (by cases hu), by show 0 + c.ins.length ≤ c.ins.length; omega⟩ (fun F hF => (HW.out.2.2.1.start HA2.out.1 F hF).2.2.2)).started (fun a ha => by rw [HA2.out.1] at ha; cases ha; exact comeS_at hok)
                      rw [eW] at hwk
                      have hsz5 := Q5.out.2.1.size
                      have hsza := HX.out.2.2.2.1.size
                      have hk5 : Keeps (fun b => blk wo = some b) X1 w5 := (Keeps.of_below HX.out.2.2.2.1).trans' Q5.out.2.1
                      have hO : ∀ b, (b ≠ sb ∧ b < wr.heap.size ∧ blk wo ≠ some b) → (b ≠ sb ∧ b < w5.heap.size ∧ blk ao5 ≠ some b) := fun b hb => ⟨hb.1, by omega, fun h => by
                        rcases Q5.out.2.2 b h with h' | h'
                        · exact hb.2.2 h'
                        · omega⟩
                      refine ⟨k + 1, ao5, cap5, _, W ++ [(j : Int)], by omega, by simp, by simp, ?_, Q5.out.1, hwk, ?_⟩
                      · rw [eS]
                        exact (HX.out.1.keeps hk5 (fun h => by have := (HW.out.2.1.2.2.1 sb h).1; omega) (fun b hb h => hb.2.2 h)).mono hO (fun b hb => hb.1)
                      · exact (HW.out.2.2.2.1.trans' ((Keeps.of_below HQ1.out.2.1).trans' (HX.out.2.1.mono (fun _ _ h => .inl h)))).trans' (hk5.mono (fun b _ h => .inr (HW.out.2.1.2.2.1 b h).1))
                    case measure => simp [intOf]; omega
                  | some f =>
                    obtain ⟨po, pcap, hspv, hrange⟩ := (HQ1.out.1.yes j f hj hS).val
                    have kj : P1.cell? ⟨sb, j * 4, none⟩ = some (.bool true) := hrange 0 _ rfl
                    have HS := Lib.hid (And.intro hS (And.intro hspv hrange))
                    clear hS hspv hrange
                    go_wp2_with fail
                    clear hP1 kg kf kj
                    refine seq_start (by kernel_rfl) ?_
                    refine seq_take 0 (v := ?_) rfl (by kernel_rfl) (fun _ _ _ h => h) (by rfl) (fun w' hw' => ?_) ?_
                    rotate_left
                    · go_simp; try with_reducible rfl
                    try simp only [List.getElem_toArray, List.getElem_cons_succ, List.getElem_cons_zero, Act.put, List.setIfInBounds_toArray, List.set_cons_zero, List.set_cons_succ]
                    refine seq_take 1 (v := ?_) rfl (by kernel_rfl) (fun _ _ _ h => h) (by rfl) (fun w' hw' => ?_) ?_
                    rotate_left
                    · go_simp; try with_reducible rfl
                    try simp only [List.getElem_toArray, List.getElem_cons_succ, List.getElem_cons_zero, Act.put, List.setIfInBounds_toArray, List.set_cons_zero, List.set_cons_succ]
                    refine seq_take 2 rfl (by kernel_rfl) (fun _ _ _ h => h) (by rfl) (seq_ldII rfl rfl ((show P1.drew.cell? ⟨g, 2, none⟩ = _ from HKG.out.1))) ?_
                    try simp only [List.getElem_toArray, List.getElem_cons_succ, List.getElem_cons_zero, Act.put, List.setIfInBounds_toArray, List.set_cons_zero, List.set_cons_succ]
                    refine seq_take 3 (v := ?_) rfl (by kernel_rfl) (fun _ _ _ h => h) (by rfl) (fun w' hw' => ?_) ?_
                    rotate_left
                    · go_simp; try with_reducible rfl
                    try simp only [List.getElem_toArray, List.getElem_cons_succ, List.getElem_cons_zero, Act.put, List.setIfInBounds_toArray, List.set_cons_zero, List.set_cons_succ]
                    refine seq_take 4 (v := ?_) rfl (by kernel_rfl) (fun _ _ _ h => h) (by rfl) (fun w' hw' => ?_) ?_
                    rotate_left
                    · go_simp; try with_reducible rfl
                    try simp only [List.getElem_toArray, List.getElem_cons_succ, List.getElem_cons_zero, Act.put, List.setIfInBounds_toArray, List.set_cons_zero, List.set_cons_succ]
                    refine seq_take 5 rfl (by kernel_rfl) (fun _ _ _ h => h) (by rfl) (seq_ldi rfl rfl ((show P1.drew.cell? ⟨fb, ff + k, none⟩ = _ from HKG.out.2))) ?_
                    try simp only [List.getElem_toArray, List.getElem_cons_succ, List.getElem_cons_zero, Act.put, List.setIfInBounds_toArray, List.set_cons_zero, List.set_cons_succ]
                    refine seq_take 6 (v := ?_) rfl (by kernel_rfl) (fun _ _ _ h => h) (by rfl) (fun w' hw' => ?_) ?_
                    rotate_left
                    · go_simp; try with_reducible rfl
                    try simp only [List.getElem_toArray, List.getElem_cons_succ, List.getElem_cons_zero, Act.put, List.setIfInBounds_toArray, List.set_cons_zero, List.set_cons_succ]
                    refine seq_take 7 rfl (by kernel_rfl) (fun _ _ _ h => h) (by rfl) (seq_ldSp rfl rfl ((show P1.drew.rangeAt sb (j * 4) _ from HS.out.2.2))) ?_
                    try simp only [List.getElem_toArray, List.getElem_cons_succ, List.getElem_cons_zero, Act.put, List.setIfInBounds_toArray, List.set_cons_zero, List.set_cons_succ]
                    refine seq_take 8 rfl (by kernel_rfl) (fun _ _ _ h => h) (by rfl) (seq_ldSp rfl rfl ((show P1.drew.rangeAt V.heap.size 0 _ from HQ1.out.2.2.2))) ?_
                    try simp only [List.getElem_toArray, List.getElem_cons_succ, List.getElem_cons_zero, Act.put, List.setIfInBounds_toArray, List.set_cons_zero, List.set_cons_succ]
                    refine seq_run 9 rfl (by kernel_rfl) (by rfl) (fun KK hKK => ?_)
                    go_wp2_with fail
                    have hfl2 := (HW.out.2.2.1.range _ _ HS.out.1).len
                    refine (rsame_any f ⟨k, min (k : Int) 1, []⟩ _ _ _ (fun _ => True) (by omega) (by show 0 ≤ 1000000; omega) P1.drew (HS.out.2.1.below (Below.refl _ P1).drew) ⟨none, 0, rfl, Nat.le_refl _, by decide, At.nil _ _, fun b hb => trivial⟩).mono ?_
                    rintro e w2 ⟨rfl, hb2⟩
                    by_cases hfg : f = ⟨k, min (k : Int) 1, []⟩
                    · rw [decide_eq_true hfg]
                      have HFG := Lib.hid (And.intro hfg hb2)
                      clear hfg hb2 hfl2
                      go_wp2_with fail
                      refine ⟨HFG.out.2, ?_⟩
                      refine seq_take 10 (v := ?_) rfl (by kernel_rfl) (fun _ _ _ h => h) (by rfl) (fun w' hw' => ?_) ?_
                      rotate_left
                      · go_simp; try with_reducible rfl
                      try simp only [List.getElem_toArray, List.getElem_cons_succ, List.getElem_cons_zero, Act.put, List.setIfInBounds_toArray, List.set_cons_zero, List.set_cons_succ]
                      refine seq_done (by kernel_rfl) ?_
                      go_wp2_with fail
                      go_roundw
                      case rel =>
                        have hok : comeOk c S (j : Int) ⟨k, min (k : Int) 1, []⟩ = true := decide_eq_true ⟨by omega, by omega, by show min (k : Int) 1 ≤ 10000; omega, .inr (by rw [HS.out.1, HFG.out.1])⟩
                        have hne : S (j : Int) ≠ none := by rw [HS.out.1]; simp
                        have hwk := (HW.out.2.2.1.come hok ⟨by omega, by omega, by show 0 ≤ min (k : Int) 1; omega, by show min (k : Int) 1 ≤ 10000; omega, hltk, fun u hu => (by cases hu), by show 0 + c.ins.length ≤ c.ins.length; omega⟩ (fun F hF => (HW.out.2.2.1.start HA2.out.1 F hF).2.2.2)).started (fun a ha => by rw [HA2.out.1] at ha; cases ha; exact comeS_at hok)
                        rw [show comeS S (j : Int) ⟨k, min (k : Int) 1, []⟩ = S by unfold comeS; rw [if_neg hne], show comeW S W (j : Int) = W by unfold comeW; rw [if_neg hne]] at hwk
                        have hbw : Below wr.heap.size wr w2 := HQ1.out.2.1.trans ((((Below.refl _ P1).drew).trans HFG.out.2).mono HQ1.out.2.1.size)
                        have hsw := hbw.size
                        exact ⟨k + 1, wo, wcap, S, W, by omega, rfl, by simp, (HW.out.1.below hbw).mono (fun b hb => ⟨hb.1, by omega, hb.2.2⟩) (fun b hb => hb.1), HW.out.2.1.below hbw, hwk, HW.out.2.2.2.1.trans' (Keeps.of_below hbw)⟩
                      case measure => simp [intOf]; omega
                    · rw [decide_eq_false hfg]
                      have HFG := Lib.hid (And.intro hfg hb2)
                      clear hfg hb2 hfl2
                      go_wp2_with fail
                      refine ⟨HFG.out.2, ?_⟩
                      refine seq_take 10 (v := ?_) rfl (by kernel_rfl) (fun _ _ _ h => h) (by rfl) (fun w' hw' => ?_) ?_
                      rotate_left
                      · go_simp; try with_reducible rfl
                      try simp only [List.getElem_toArray, List.getElem_cons_succ, List.getElem_cons_zero, Act.put, List.setIfInBounds_toArray, List.set_cons_zero, List.set_cons_succ]
                      refine seq_done (by kernel_rfl) ?_
                      go_wp2_with fail
                      go_ret
                      have hbw : Below wr.heap.size wr w2 := HQ1.out.2.1.trans ((((Below.refl _ P1).drew).trans HFG.out.2).mono HQ1.out.2.1.size)
                      refine ⟨HW.out.2.2.2.2.1.trans (hbw.mono HW.out.2.2.2.2.1.size), .inr ⟨HW.out.2.2.1.come_no (show comeOk c S (j : Int) ⟨k, min (k : Int) 1, []⟩ = false from decide_eq_false (fun hc => ?_)) (HW.out.2.2.1.start HA2.out.1) HL.out.1, rfl⟩⟩
                      rcases hc.2.2.2 with h | h
                      · rw [HS.out.1] at h; cases h
                      · rw [HS.out.1] at h; exact HFG.out.1 (Option.some.inj h)
                · have hd6 : decide ((0 : Int) < (k : Int)) = true := decide_eq_true (by omega)
                  have hd7 : decide (0 < k) = true := decide_eq_true (by omega)
                  have hmh : min (k : Int) 1 = 1 := by omega
                  obtain ⟨P0, hP0⟩ : ∃ P0, V.alloc (.cells #[.bool true, .int .i64 (k : Int), .int .i64 0, .slice none 0 0] 62) = P0 := ⟨_, rfl⟩
                  rw [hP0]
                  have hr0 : P0.heap[V.heap.size]? = some (.cells #[.bool true, .int .i64 (k : Int), .int .i64 0, .slice none 0 0] 62 (0, 0)) := by rw [← hP0]; exact heap_alloc_new V _
                  have hb0 : Below V.heap.size V P0 := by rw [← hP0]; exact (Below.refl _ V).alloc (Nat.le_refl _) _
                  have hs0 : V.heap.size < P0.heap.size := by rw [← hP0]; simp
                  have q2 : P0.cell? ⟨V.heap.size, 2, none⟩ = some (.int .i64 0) := cell_of_row _ _ 2 _ _ (0, 0) hr0
                  have qf := frozen_of_row P0 V.heap.size 2 _ _ hr0
                  obtain ⟨P1, hP1⟩ : ∃ P1, P0.setCell ⟨V.heap.size, 2, none⟩ (.int .i64 1) = P1 := ⟨_, rfl⟩
                  have hk01 : Keeps (fun b => b = V.heap.size) P0 P1 := by rw [← hP1]; exact Keeps.of_grown (setCell_grown0 _ _ _ _) rfl
                  have hbP : Below V.heap.size V P1 := hb0.trans (hk01.below (fun i hi h => by omega) (by omega))
                  have hrP : P1.heap[V.heap.size]? = some (.cells #[.bool true, .int .i64 (k : Int), .int .i64 (min (k : Int) 1), .slice none 0 0] 62 (0, 0)) := by rw [← hP1, setCell_row0 2 _ hr0, hmh]; rfl
                  have hsP : V.heap.size < P1.heap.size := by have := hk01.size; omega
                  have HK0 := Lib.hid (And.intro hk0 hmh)
                  clear hk0 hmh hr0 hb0 hs0 hk01
                  have kg : P1.cell? ⟨g, 2, none⟩ = some (.slice (some ⟨fb, ff, none⟩) c.funs.length fcap) := (World.cell?_of_block (a := ⟨g, 2, none⟩) (hbP.block g (by omega))).trans HVV.out.2.1
                  have hfbl := World.block_lt_of_cell? (a := ⟨fb, ff + k, none⟩) V HVV.out.2.2.1
                  simp only at hfbl
                  have kf : P1.cell? ⟨fb, ff + k, none⟩ = some (.int .i64 (j : Int)) := (World.cell?_of_block (a := ⟨fb, ff + k, none⟩) (hbP.block fb hfbl)).trans HVV.out.2.2.1
                  have hspP : SpotsAt P1 sb c.ins.length (fun b => b ≠ sb ∧ b < wr.heap.size ∧ blk wo ≠ some b) S := HW.out.1.below (HVV.out.1.trans (hbP.mono (by omega)))
                  have HQ1 := Lib.hid (And.intro hspP (And.intro (HVV.out.1.trans (hbP.mono (by omega))) (And.intro hrP (range_row (cell_of_row _ _ 0 _ _ (0, 0) hrP) (cell_of_row _ _ 1 _ _ (0, 0) hrP) (cell_of_row _ _ 2 _ _ (0, 0) hrP) (cell_of_row _ _ 3 _ _ (0, 0) hrP)))))
                  clear hspP hbP hrP
                  have HKG := Lib.hid (And.intro kg kf)
                  cases hS : S (j : Int) with
                  | none =>
                    have kj : P1.cell? ⟨sb, j * 4, none⟩ = some (.bool false) := HQ1.out.1.no j hj hS
                    have HS := Lib.hid hS
                    clear hS
                    go_wp2_with fail
                    clear hP1 hP0 q2 qf kg kf kj
                    refine seql_start [8] (by kernel_rfl) ?_
                    refine seql_take 0 (v := ?_) rfl (by kernel_rfl) (fun _ _ _ h => h) (by rfl) (fun w' hw' => ?_) ?_
                    rotate_left
                    · go_simp; try with_reducible rfl
                    try simp only [List.getElem_toArray, List.getElem_cons_succ, List.getElem_cons_zero, Act.put, List.setIfInBounds_toArray, List.set_cons_zero, List.set_cons_succ]
                    refine seql_take 1 (v := ?_) rfl (by kernel_rfl) (fun _ _ _ h => h) (by rfl) (fun w' hw' => ?_) ?_
                    rotate_left
                    · go_simp; try with_reducible rfl
                    try simp only [List.getElem_toArray, List.getElem_cons_succ, List.getElem_cons_zero, Act.put, List.setIfInBounds_toArray, List.set_cons_zero, List.set_cons_succ]
                    refine seql_take 2 rfl (by kernel_rfl) (fun _ _ _ h => h) (by rfl) (seq_ldII rfl rfl ((show P1.drew.cell? ⟨g, 2, none⟩ = _ from HKG.out.1))) ?_
                    try simp only [List.getElem_toArray, List.getElem_cons_succ, List.getElem_cons_zero, Act.put, List.setIfInBounds_toArray, List.set_cons_zero, List.set_cons_succ]
                    refine seql_take 3 (v := ?_) rfl (by kernel_rfl) (fun _ _ _ h => h) (by rfl) (fun w' hw' => ?_) ?_
                    rotate_left
                    · go_simp; try with_reducible rfl
                    try simp only [List.getElem_toArray, List.getElem_cons_succ, List.getElem_cons_zero, Act.put, List.setIfInBounds_toArray, List.set_cons_zero, List.set_cons_succ]
                    refine seql_take 4 (v := ?_) rfl (by kernel_rfl) (fun _ _ _ h => h) (by rfl) (fun w' hw' => ?_) ?_
                    rotate_left
                    · go_simp; try with_reducible rfl
                    try simp only [List.getElem_toArray, List.getElem_cons_succ, List.getElem_cons_zero, Act.put, List.setIfInBounds_toArray, List.set_cons_zero, List.set_cons_succ]
                    refine seql_take 5 rfl (by kernel_rfl) (fun _ _ _ h => h) (by rfl) (seq_ldi rfl rfl ((show P1.drew.cell? ⟨fb, ff + k, none⟩ = _ from HKG.out.2))) ?_
                    try simp only [List.getElem_toArray, List.getElem_cons_succ, List.getElem_cons_zero, Act.put, List.setIfInBounds_toArray, List.set_cons_zero, List.set_cons_succ]
                    refine seql_take 6 rfl (by kernel_rfl) (fun _ _ _ h => h) (by rfl) (seq_ldSp rfl rfl ((show P1.drew.rangeAt V.heap.size 0 _ from HQ1.out.2.2.2))) ?_
                    try simp only [List.getElem_toArray, List.getElem_cons_succ, List.getElem_cons_zero, Act.put, List.setIfInBounds_toArray, List.set_cons_zero, List.set_cons_succ]
                    refine seql_take 7 (v := ?_) rfl (by kernel_rfl) (fun _ _ _ h => h) (by rfl) (fun w' hw' => ?_) ?_
                    rotate_left
                    · go_simp; try with_reducible rfl
                    try simp only [List.getElem_toArray, List.getElem_cons_succ, List.getElem_cons_zero, Act.put, List.setIfInBounds_toArray, List.set_cons_zero, List.set_cons_succ]
                    refine seql_last 8 rfl (by kernel_rfl) (by kernel_rfl) (by rfl) (fun KK hKK => ?_)
                    refine wp_store_mid 62 _ _ rfl sb (j * 4) #[.bool true, .int .i64 (k : Int), .int .i64 (min (k : Int) 1), .slice none 0 0] rfl rfl (show P1.drew.there sb (j * 4) 4 from HQ1.out.1.there j hj) (by kernel_rfl) (spot_one _ _ _ _ _) ?_
                    refine hKK _ _ ?_
                    refine seql_done (by kernel_rfl) ?_
                    have hsX := (HQ1.out.1.below (Below.refl _ P1).drew).put j hj ⟨k, min (k : Int) 1, []⟩ none 0 (Nat.le_refl _) (by decide) (At.nil _ _) (fun b hb => (by cases hb))
                    obtain ⟨X1, hX1⟩ : ∃ X1, P1.drew.setCells sb (j * 4) (spotRow ⟨k, min (k : Int) 1, []⟩ none 0) = X1 := ⟨_, rfl⟩
                    have hkX : Keeps (fun b => b = sb) P1 X1 := by rw [← hX1]; exact (Keeps.of_below (Below.refl _ P1).drew).trans' (Keeps.setCells sb _ _ _)
                    rw [hX1] at hsX
                    rw [show P1.drew.setCells sb (j * 4) (#[Value.bool true, .int .i64 (k : Int), .int .i64 (min (k : Int) 1), .slice none 0 0] : Array Value).toList = X1 from hX1]
                    have hqX : QueueAt X1 (sb + 1) wo wcap W := (HW.out.2.1.below HQ1.out.2.1).keeps hkX (fun b hb h => by have := (HW.out.2.1.2.2.1 b hb).1; omega)
                    have hsP1 := HQ1.out.2.1.size
                    have hsX1 := hkX.size
                    have kg : X1.cell? ⟨g, 2, none⟩ = some (.slice (some ⟨fb, ff, none⟩) c.funs.length fcap) := keeps_cell hkX (by intro h; have h : g = sb := h; omega) HKG.out.1
                    have hfbg : fb < g := HW.out.2.2.2.2.2.2.funD fb rfl (by intro h; rw [h] at hltk; simp at hltk)
                    have kf : X1.cell? ⟨fb, ff + k, none⟩ = some (.int .i64 (j : Int)) := keeps_cell hkX (by intro h; have h : fb = sb := h; omega) HKG.out.2
                    have hba : Below X1.heap.size X1 (X1.alloc (.cells #[.int .i64 (j : Int)] 3)) := (Below.refl _ X1).alloc (Nat.le_refl _) _
                    have HX := Lib.hid (And.intro hsX (And.intro hkX (And.intro (hqX.below hba) (And.intro hba (show (X1.alloc (.cells #[.int .i64 (j : Int)] 3)).cell? ⟨X1.heap.size, 0, none⟩ = some (.int .i64 (j : Int)) from cell_of_row _ _ 0 _ _ (0, 0) (heap_alloc_new X1 _))))))
                    have hWl : W.length ≤ 65536 := by have := HW.out.2.2.1.cnt; omega
                    clear hsX hX1 hkX hqX hba hfbg
                    go_wp2_with (at_builtin; refine app_queue rfl _ _ rfl (sb + 1) wo wcap W.length W rfl rfl HX.out.2.2.1 (j : Int) X1.heap.size rfl HX.out.2.2.2.2 (by omega) (by have := HX.out.2.2.2.1.size; omega) ?_; rintro ao5 cap5 w5 r1 r2 r3; have Q5 := Lib.hid (And.intro r1 (And.intro r2 r3)); clear r1 r2 r3)
                    go_roundw
                    case rel =>
                      have hok : comeOk c S (j : Int) ⟨k, min (k : Int) 1, []⟩ = true := decide_eq_true ⟨by omega, by omega, by show min (k : Int) 1 ≤ 10000; omega, .inl HS.out⟩
                      have eS : comeS S (j : Int) ⟨k, min (k : Int) 1, []⟩ = fun z => if z = (j : Int) then some ⟨k, min (k : Int) 1, []⟩ else S z := by unfold comeS; rw [if_pos HS.out]
                      have eW : comeW S W (j : Int) = W ++ [(j : Int)] := by unfold comeW; rw [if_pos HS.out]
                      have hwk := (HW.out.2.2.1.come hok ⟨by omega, by omega, by show 0 ≤ min (k : Int) 1; omega, by show min (k : Int) 1 ≤ 10000; omega, hltk, fun u hu => (by cases hu), by show 0 + c.ins.length ≤ c.ins.length; omega⟩ (fun F hF => (HW.out.2.2.1.start HA2.out.1 F hF).2.2.2)).started (fun a ha => by rw [HA2.out.1] at ha; cases ha; exact comeS_at hok)
                      rw [eW] at hwk
                      have hsz5 := Q5.out.2.1.size
                      have hsza := HX.out.2.2.2.1.size
                      have hk5 : Keeps (fun b => blk wo = some b) X1 w5 := (Keeps.of_below HX.out.2.2.2.1).trans' Q5.out.2.1
                      have hO : ∀ b, (b ≠ sb ∧ b < wr.heap.size ∧ blk wo ≠ some b) → (b ≠ sb ∧ b < w5.heap.size ∧ blk ao5 ≠ some b) := fun b hb => ⟨hb.1, by omega, fun h => by
                        rcases Q5.out.2.2 b h with h' | h'
                        · exact hb.2.2 h'
                        · omega⟩
                      refine ⟨k + 1, ao5, cap5, _, W ++ [(j : Int)], by omega, by simp, by simp, ?_, Q5.out.1, hwk, ?_⟩
                      · rw [eS]
                        exact (HX.out.1.keeps hk5 (fun h => by have := (HW.out.2.1.2.2.1 sb h).1; omega) (fun b hb h => hb.2.2 h)).mono hO (fun b hb => hb.1)
                      · exact (HW.out.2.2.2.1.trans' ((Keeps.of_below HQ1.out.2.1).trans' (HX.out.2.1.mono (fun _ _ h => .inl h)))).trans' (hk5.mono (fun b _ h => .inr (HW.out.2.1.2.2.1 b h).1))
                    case measure => simp [intOf]; omega
                  | some f =>
                    obtain ⟨po, pcap, hspv, hrange⟩ := (HQ1.out.1.yes j f hj hS).val
                    have kj : P1.cell? ⟨sb, j * 4, none⟩ = some (.bool true) := hrange 0 _ rfl
                    have HS := Lib.hid (And.intro hS (And.intro hspv hrange))
                    clear hS hspv hrange
                    go_wp2_with fail
                    clear hP1 hP0 q2 qf kg kf kj
                    refine seq_start (by kernel_rfl) ?_
                    refine seq_take 0 (v := ?_) rfl (by kernel_rfl) (fun _ _ _ h => h) (by rfl) (fun w' hw' => ?_) ?_
                    rotate_left
                    · go_simp; try with_reducible rfl
                    try simp only [List.getElem_toArray, List.getElem_cons_succ, List.getElem_cons_zero, Act.put, List.setIfInBounds_toArray, List.set_cons_zero, List.set_cons_succ]
                    refine seq_take 1 (v := ?_) rfl (by kernel_rfl) (fun _ _ _ h => h) (by rfl) (fun w' hw' => ?_) ?_
                    rotate_left
                    · go_simp; try with_reducible rfl
                    try simp only [List.getElem_toArray, List.getElem_cons_succ, List.getElem_cons_zero, Act.put, List.setIfInBounds_toArray, List.set_cons_zero, List.set_cons_succ]
                    refine seq_take 2 rfl (by kernel_rfl) (fun _ _ _ h => h) (by rfl) (seq_ldII rfl rfl ((show P1.drew.cell? ⟨g, 2, none⟩ = _ from HKG.out.1))) ?_
                    try simp only [List.getElem_toArray, List.getElem_cons_succ, List.getElem_cons_zero, Act.put, List.setIfInBounds_toArray, List.set_cons_zero, List.set_cons_succ]
                    refine seq_take 3 (v := ?_) rfl (by kernel_rfl) (fun _ _ _ h => h) (by rfl) (fun w' hw' => ?_) ?_
                    rotate_left
                    · go_simp; try with_reducible rfl
                    try simp only [List.getElem_toArray, List.getElem_cons_succ, List.getElem_cons_zero, Act.put, List.setIfInBounds_toArray, List.set_cons_zero, List.set_cons_succ]
                    refine seq_take 4 (v := ?_) rfl (by kernel_rfl) (fun _ _ _ h => h) (by rfl) (fun w' hw' => ?_) ?_
                    rotate_left
                    · go_simp; try with_reducible rfl
                    try simp only [List.getElem_toArray, List.getElem_cons_succ, List.getElem_cons_zero, Act.put, List.setIfInBounds_toArray, List.set_cons_zero, List.set_cons_succ]
                    refine seq_take 5 rfl (by kernel_rfl) (fun _ _ _ h => h) (by rfl) (seq_ldi rfl rfl ((show P1.drew.cell? ⟨fb, ff + k, none⟩ = _ from HKG.out.2))) ?_
                    try simp only [List.getElem_toArray, List.getElem_cons_succ, List.getElem_cons_zero, Act.put, List.setIfInBounds_toArray, List.set_cons_zero, List.set_cons_succ]
                    refine seq_take 6 (v := ?_) rfl (by kernel_rfl) (fun _ _ _ h => h) (by rfl) (fun w' hw' => ?_) ?_
                    rotate_left
                    · go_simp; try with_reducible rfl
                    try simp only [List.getElem_toArray, List.getElem_cons_succ, List.getElem_cons_zero, Act.put, List.setIfInBounds_toArray, List.set_cons_zero, List.set_cons_succ]
                    refine seq_take 7 rfl (by kernel_rfl) (fun _ _ _ h => h) (by rfl) (seq_ldSp rfl rfl ((show P1.drew.rangeAt sb (j * 4) _ from HS.out.2.2))) ?_
                    try simp only [List.getElem_toArray, List.getElem_cons_succ, List.getElem_cons_zero, Act.put, List.setIfInBounds_toArray, List.set_cons_zero, List.set_cons_succ]
                    refine seq_take 8 rfl (by kernel_rfl) (fun _ _ _ h => h) (by rfl) (seq_ldSp rfl rfl ((show P1.drew.rangeAt V.heap.size 0 _ from HQ1.out.2.2.2))) ?_
                    try simp only [List.getElem_toArray, List.getElem_cons_succ, List.getElem_cons_zero, Act.put, List.setIfInBounds_toArray, List.set_cons_zero, List.set_cons_succ]
                    refine seq_run 9 rfl (by kernel_rfl) (by rfl) (fun KK hKK => ?_)
                    go_wp2_with fail
                    have hfl2 := (HW.out.2.2.1.range _ _ HS.out.1).len
                    refine (rsame_any f ⟨k, min (k : Int) 1, []⟩ _ _ _ (fun _ => True) (by omega) (by show 0 ≤ 1000000; omega) P1.drew (HS.out.2.1.below (Below.refl _ P1).drew) ⟨none, 0, rfl, Nat.le_refl _, by decide, At.nil _ _, fun b hb => trivial⟩).mono ?_
                    rintro e w2 ⟨rfl, hb2⟩
                    by_cases hfg : f = ⟨k, min (k : Int) 1, []⟩
                    · rw [decide_eq_true hfg]
                      have HFG := Lib.hid (And.intro hfg hb2)
                      clear hfg hb2 hfl2
                      go_wp2_with fail
                      refine ⟨HFG.out.2, ?_⟩
                      refine seq_take 10 (v := ?_) rfl (by kernel_rfl) (fun _ _ _ h => h) (by rfl) (fun w' hw' => ?_) ?_
                      rotate_left
                      · go_simp; try with_reducible rfl
                      try simp only [List.getElem_toArray, List.getElem_cons_succ, List.getElem_cons_zero, Act.put, List.setIfInBounds_toArray, List.set_cons_zero, List.set_cons_succ]
                      refine seq_done (by kernel_rfl) ?_
                      go_wp2_with fail
                      go_roundw
                      case rel =>
                        have hok : comeOk c S (j : Int) ⟨k, min (k : Int) 1, []⟩ = true := decide_eq_true ⟨by omega, by omega, by show min (k : Int) 1 ≤ 10000; omega, .inr (by rw [HS.out.1, HFG.out.1])⟩
                        have hne : S (j : Int) ≠ none := by rw [HS.out.1]; simp
                        have hwk := (HW.out.2.2.1.come hok ⟨by omega, by omega, by show 0 ≤ min (k : Int) 1; omega, by show min (k : Int) 1 ≤ 10000; omega, hltk, fun u hu => (by cases hu), by show 0 + c.ins.length ≤ c.ins.length; omega⟩ (fun F hF => (HW.out.2.2.1.start HA2.out.1 F hF).2.2.2)).started (fun a ha => by rw [HA2.out.1] at ha; cases ha; exact comeS_at hok)
                        rw [show comeS S (j : Int) ⟨k, min (k : Int) 1, []⟩ = S by unfold comeS; rw [if_neg hne], show comeW S W (j : Int) = W by unfold comeW; rw [if_neg hne]] at hwk
                        have hbw : Below wr.heap.size wr w2 := HQ1.out.2.1.trans ((((Below.refl _ P1).drew).trans HFG.out.2).mono HQ1.out.2.1.size)
                        have hsw := hbw.size
                        exact ⟨k + 1, wo, wcap, S, W, by omega, rfl, by simp, (HW.out.1.below hbw).mono (fun b hb => ⟨hb.1, by omega, hb.2.2⟩) (fun b hb => hb.1), HW.out.2.1.below hbw, hwk, HW.out.2.2.2.1.trans' (Keeps.of_below hbw)⟩
                      case measure => simp [intOf]; omega
                    · rw [decide_eq_false hfg]
                      have HFG := Lib.hid (And.intro hfg hb2)
                      clear hfg hb2 hfl2
                      go_wp2_with fail
                      refine ⟨HFG.out.2, ?_⟩
                      refine seq_take 10 (v := ?_) rfl (by kernel_rfl) (fun _ _ _ h => h) (by rfl) (fun w' hw' => ?_) ?_
                      rotate_left
                      · go_simp; try with_reducible rfl
                      try simp only [List.getElem_toArray, List.getElem_cons_succ, List.getElem_cons_zero, Act.put, List.setIfInBounds_toArray, List.set_cons_zero, List.set_cons_succ]
                      refine seq_done (by kernel_rfl) ?_
                      go_wp2_with fail
                      go_ret
                      have hbw : Below wr.heap.size wr w2 := HQ1.out.2.1.trans ((((Below.refl _ P1).drew).trans HFG.out.2).mono HQ1.out.2.1.size)
                      refine ⟨HW.out.2.2.2.2.1.trans (hbw.mono HW.out.2.2.2.2.1.size), .inr ⟨HW.out.2.2.1.come_no (show comeOk c S (j : Int) ⟨k, min (k : Int) 1, []⟩ = false from decide_eq_false (fun hc => ?_)) (HW.out.2.2.1.start HA2.out.1) HL.out.1, rfl⟩⟩
                      rcases hc.2.2.2 with h | h
                      · rw [HS.out.1] at h; cases h
                      · rw [HS.out.1] at h; exact HFG.out.1 (Option.some.inj h)
              -- END C
            · obtain rfl : k = c.funs.length := by omega
              have hd4 : decide ((c.funs.length : Int) < (c.funs.length : Int)) = false := decide_eq_false (by omega)
              have HWT := Lib.hid (show RInv w7 c L sb c.funs.length c.ins.length wr wo wcap S W from ⟨HW.out.1, HW.out.2.1, HW.out.2.2.1, HW.out.2.2.2.1⟩)
              clear HW hsbr hsr k0
              go_upto_block 6 with (fail)
              clear k2
              go_wp2_with fail
              obtain ⟨w8, hw8⟩ : ∃ w8, w8 = wr := ⟨_, rfl⟩
              subst hw8
              go_loopw [9] (fun v9 wr => ∃ n, ∃ wo wcap S W, v9 = .slice wo W.length wcap ∧ RInv w7 c L sb c.funs.length n wr wo wcap S W) (fun v9 wr => leastN (fun n => ∃ wo wcap S W, v9 = .slice wo W.length wcap ∧ RInv w7 c L sb c.funs.length n wr wo wcap S W))
              case atStart => exact ⟨_, _, _, _, _, rfl, HWT.out⟩
              case round =>
                have hsp0 := leastN_spec hrel
                generalize hn : leastN _ = n at hsp0
                obtain ⟨wo, wcap, S, W, rfl, hsp, hq, hwk, hkr⟩ := hsp0
                have HN := Lib.hid hn
                have hrg : wr.heap[g]? = _ := (hkr.block g (by omega) (fun h => by omega)).trans H7.out.2.1
                have hlr : wr.heap[lb]? = _ := (hkr.block lb (by omega) (fun h => by omega)).trans H7.out.2.2.1
                have hsr := hkr.size
                have hbr : Below w.heap.size w wr := H7.out.2.2.2.1.trans (hkr.below (fun i hi h => by have := H7.out.2.2.2.2.2; omega) (by have := H7.out.2.2.2.1.size; omega))
                have hmr : CodeMem wr (fun b => b < g) c io so fo := H7.out.2.2.2.2.1.keeps hkr (fun b hb h => by omega)
                have HW := Lib.hid (And.intro hsp (And.intro hq (And.intro hwk (And.intro hkr (And.intro hbr (And.intro hrg (And.intro hmr hlr)))))))
                have hsbr : sb < wr.heap.size := by omega
                clear hsp hq hwk hkr hrg hbr hmr hlr hn hrel
                cases W with
                | nil =>
                  go_wp2_with fail
                  go_ret
                  exact ⟨HW.out.2.2.2.2.1, .inl ⟨HW.out.2.2.1.ord HP.out HL.out.1, rfl⟩⟩
                | cons z W =>
                  obtain ⟨hn1, hwk1, f, hf⟩ := HW.out.2.2.1.pop
                  have hin := HW.out.2.2.1.range z f hf
                  obtain ⟨zn, rfl⟩ : ∃ zn : Nat, z = (zn : Int) := ⟨z.toNat, by have := hin.lo; omega⟩
                  have hzl : zn < c.ins.length := by have := hin.hi; omega
                  obtain ⟨qb, qo, rfl, q0⟩ := HW.out.2.1.head
                  obtain ⟨po, pcap, hspv, hrange⟩ := (HW.out.1.yes zn f hzl hf).val
                  have hgl : g < wr.heap.size := by omega
                  have hstep := rstep_any (w := wr.drew) (O := fun b => b ≠ sb ∧ b < wr.heap.size ∧ blk (some ⟨qb, qo, none⟩) ≠ some b) (icap := icap) (scap := scap) (fcap := fcap) (lcap := L.length) ((HW.out.2.2.2.2.2.2.1.mono (E := fun b => b < wr.heap.size) (fun b hb => by omega)).below (Below.refl _ wr).drew) HP.out (L := L) HL.out.1.1 (frees_r64 HL.out.1 (fun x hx => (HW.out.2.2.2.2.2.2.1.insR x hx).2.2)) (At.blkrow (show wr.drew.heap[lb]? = _ from HW.out.2.2.2.2.2.2.2)) zn hzl f hin.h0 hin.h1 hin.fn (by have := hin.len; omega) hin.op _ (fun b hb => hb.2.1) (hspv.below (Below.refl _ wr).drew)
                  have HWS := Lib.hid (work_step HL.out.1 HP.out hwk1 hf (List.getElem?_eq_getElem hzl) (by rw [Nat.sub_add_cancel hn1]; exact hin))
                  have hcl : f.op.length ≤ 65536 := by have := hin.len; omega
                  have hSl : ∀ y f', S y = some f' → f'.op.length ≤ 70000 := fun y f' hy => by have := (HW.out.2.2.1.range y f' hy).len; omega
                  have hWl : W.length ≤ 65536 := by have := HW.out.2.2.1.cnt; rw [List.length_cons] at this; have := hin.len; omega
                  have HZ := Lib.hid (And.intro hf (And.intro hrange (And.intro hstep (And.intro hSl hn1))))
                  have HG4 := Lib.hid (show wr.drew.rangeAt g 0 _ from range_row (cell_of_row wr _ 0 _ _ (0, 0) HW.out.2.2.2.2.2.1) (cell_of_row wr _ 1 _ _ (0, 0) HW.out.2.2.2.2.2.1) (cell_of_row wr _ 2 _ _ (0, 0) HW.out.2.2.2.2.2.1) (cell_of_row wr _ 3 _ _ (0, 0) HW.out.2.2.2.2.2.1))
                  clear hn1 hwk1 hf hin hspv hrange hstep hSl
                  go_wp2_with (refine op_tailI rfl _ _ rfl (some ⟨qb, qo, none⟩) (W.length + 1) wcap 1 W.length rfl rfl (by omega) (by omega) ?_)
                  clear q0
                  refine seq_start (by kernel_rfl) ?_
                  refine seq_take 0 rfl (by kernel_rfl) (fun _ _ _ h => h) (by rfl) (seq_ldCo rfl rfl (HG4.out)) ?_
                  try simp only [List.getElem_toArray, List.getElem_cons_succ, List.getElem_cons_zero, Act.put, List.setIfInBounds_toArray, List.set_cons_zero, List.set_cons_succ]
                  refine seq_take 1 (v := ?_) rfl (by kernel_rfl) (fun _ _ _ h => h) (by rfl) (fun w' hw' => ?_) ?_
                  rotate_left
                  · go_simp; try with_reducible rfl
                  try simp only [List.getElem_toArray, List.getElem_cons_succ, List.getElem_cons_zero, Act.put, List.setIfInBounds_toArray, List.set_cons_zero, List.set_cons_succ]
                  refine seq_take 2 (v := ?_) rfl (by kernel_rfl) (fun _ _ _ h => h) (by rfl) (fun w' hw' => ?_) ?_
                  rotate_left
                  · go_simp; try with_reducible rfl
                  try simp only [List.getElem_toArray, List.getElem_cons_succ, List.getElem_cons_zero, Act.put, List.setIfInBounds_toArray, List.set_cons_zero, List.set_cons_succ]
                  refine seq_take 3 (v := ?_) rfl (by kernel_rfl) (fun _ _ _ h => h) (by rfl) (fun w' hw' => ?_) ?_
                  rotate_left
                  · go_simp; try with_reducible rfl
                  try simp only [List.getElem_toArray, List.getElem_cons_succ, List.getElem_cons_zero, Act.put, List.setIfInBounds_toArray, List.set_cons_zero, List.set_cons_succ]
                  refine seq_take 4 (v := ?_) rfl (by kernel_rfl) (fun _ _ _ h => h) (by rfl) (fun w' hw' => ?_) ?_
                  rotate_left
                  · go_simp; try with_reducible rfl
                  try simp only [List.getElem_toArray, List.getElem_cons_succ, List.getElem_cons_zero, Act.put, List.setIfInBounds_toArray, List.set_cons_zero, List.set_cons_succ]
                  refine seq_take 5 rfl (by kernel_rfl) (fun _ _ _ h => h) (by rfl) (seq_ldSp rfl rfl ((show wr.drew.rangeAt sb (zn * 4) _ from HZ.out.2.1))) ?_
                  try simp only [List.getElem_toArray, List.getElem_cons_succ, List.getElem_cons_zero, Act.put, List.setIfInBounds_toArray, List.set_cons_zero, List.set_cons_succ]
                  refine seq_take 6 (v := ?_) rfl (by kernel_rfl) (fun _ _ _ h => h) (by rfl) (fun w' hw' => ?_) ?_
                  rotate_left
                  · go_simp; try with_reducible rfl
                  try simp only [List.getElem_toArray, List.getElem_cons_succ, List.getElem_cons_zero, Act.put, List.setIfInBounds_toArray, List.set_cons_zero, List.set_cons_succ]
                  refine seq_run 7 rfl (by kernel_rfl) (by rfl) (fun KK hKK => ?_)
                  go_wp2_with fail
                  refine HZ.out.2.2.1.mono ?_
                  rintro e w9 ⟨hb9, hres⟩
                  have hb9' : Below wr.heap.size wr w9 := (Below.refl _ wr).drew.trans (hb9.mono (by simp))
                  have hs9 := hb9'.size
                  have HB9 := Lib.hid (And.intro hb9' (HW.out.2.2.2.2.1.trans (hb9'.mono HW.out.2.2.2.2.1.size)))
                  rcases hres with ⟨ao, acap, hok, h24, rfl, hways⟩ | ⟨hno, rfl⟩
                  case inr =>
                    have HNO := Lib.hid (And.intro hb9 hno)
                    clear hb9 hb9' hno
                    go_wp2_with fail
                    refine ⟨HNO.out.1, ?_⟩
                    refine seq_take 8 (v := ?_) rfl (by kernel_rfl) (fun _ _ _ h => h) (by rfl) (fun w' hw' => ?_) ?_
                    rotate_left
                    · go_simp; try with_reducible rfl
                    try simp only [List.getElem_toArray, List.getElem_cons_succ, List.getElem_cons_zero, Act.put, List.setIfInBounds_toArray, List.set_cons_zero, List.set_cons_succ]
                    refine seq_take 9 (v := ?_) rfl (by kernel_rfl) (fun _ _ _ h => h) (by rfl) (fun w' hw' => ?_) ?_
                    rotate_left
                    · go_simp; try with_reducible rfl
                    try simp only [List.getElem_toArray, List.getElem_cons_succ, List.getElem_cons_zero, Act.put, List.setIfInBounds_toArray, List.set_cons_zero, List.set_cons_succ]
                    refine seq_take 10 (v := ?_) rfl (by kernel_rfl) (fun _ _ _ h => h) (by rfl) (fun w' hw' => ?_) ?_
                    rotate_left
                    · go_simp; try with_reducible rfl
                    try simp only [List.getElem_toArray, List.getElem_cons_succ, List.getElem_cons_zero, Act.put, List.setIfInBounds_toArray, List.set_cons_zero, List.set_cons_succ]
                    refine seq_take 11 (v := ?_) rfl (by kernel_rfl) (fun _ _ _ h => h) (by rfl) (fun w' hw' => ?_) ?_
                    rotate_left
                    · go_simp; try with_reducible rfl
                    try simp only [List.getElem_toArray, List.getElem_cons_succ, List.getElem_cons_zero, Act.put, List.setIfInBounds_toArray, List.set_cons_zero, List.set_cons_succ]
                    refine seq_take 12 (v := ?_) rfl (by kernel_rfl) (fun _ _ _ h => h) (by rfl) (fun w' hw' => ?_) ?_
                    rotate_left
                    · go_simp; try with_reducible rfl
                    try simp only [List.getElem_toArray, List.getElem_cons_succ, List.getElem_cons_zero, Act.put, List.setIfInBounds_toArray, List.set_cons_zero, List.set_cons_succ]
                    refine seq_done (by kernel_rfl) ?_
                    go_wp2_with fail
                    go_ret
                    refine ⟨HB9.out.2, .inr ⟨HWS.out.2 ?_, rfl⟩⟩
                    rcases HNO.out.2 with h | ⟨h1, h2⟩
                    · exact .inl h
                    · cases hfi : (fitsP flC c L c.ins[zn] f).1 with
                      | false => exact .inl rfl
                      | true =>
                        refine .inr ⟨rfl, ?_⟩
                        have hco : comeOk c S (c.ins[zn]).a { f with h := f.h + 1 } = false := decide_eq_false (fun hc => h2 ⟨hc.1, hc.2.1⟩)
                        unfold waysP
                        rw [h1]
                        simp only [runWays, hco]
                        rfl
                  obtain ⟨ws, hws⟩ : ∃ ws, waysP (zn : Int) c.ins[zn] f (fitsP flC c L c.ins[zn] f).2 = ws := ⟨_, rfl⟩
                  rw [hws] at hways ⊢
                  have HK9 := Lib.hid (And.intro hb9 (And.intro hok (And.intro h24 (And.intro hways hws))))
                  clear hb9 hb9' hok h24 hways hws
                  go_wp2_with fail
                  refine ⟨HK9.out.1, ?_⟩
                  refine seq_take 8 (v := ?_) rfl (by kernel_rfl) (fun _ _ _ h => h) (by rfl) (fun w' hw' => ?_) ?_
                  rotate_left
                  · go_simp; try with_reducible rfl
                  try simp only [List.getElem_toArray, List.getElem_cons_succ, List.getElem_cons_zero, Act.put, List.setIfInBounds_toArray, List.set_cons_zero, List.set_cons_succ]
                  refine seq_take 9 (v := ?_) rfl (by kernel_rfl) (fun _ _ _ h => h) (by rfl) (fun w' hw' => ?_) ?_
                  rotate_left
                  · go_simp; try with_reducible rfl
                  try simp only [List.getElem_toArray, List.getElem_cons_succ, List.getElem_cons_zero, Act.put, List.setIfInBounds_toArray, List.set_cons_zero, List.set_cons_succ]
                  refine seq_take 10 (v := ?_) rfl (by kernel_rfl) (fun _ _ _ h => h) (by rfl) (fun w' hw' => ?_) ?_
                  rotate_left
                  · go_simp; try with_reducible rfl
                  try simp only [List.getElem_toArray, List.getElem_cons_succ, List.getElem_cons_zero, Act.put, List.setIfInBounds_toArray, List.set_cons_zero, List.set_cons_succ]
                  refine seq_take 11 (v := ?_) rfl (by kernel_rfl) (fun _ _ _ h => h) (by rfl) (fun w' hw' => ?_) ?_
                  rotate_left
                  · go_simp; try with_reducible rfl
                  try simp only [List.getElem_toArray, List.getElem_cons_succ, List.getElem_cons_zero, Act.put, List.setIfInBounds_toArray, List.set_cons_zero, List.set_cons_succ]
                  refine seq_take 12 (v := ?_) rfl (by kernel_rfl) (fun _ _ _ h => h) (by rfl) (fun w' hw' => ?_) ?_
                  rotate_left
                  · go_simp; try with_reducible rfl
                  try simp only [List.getElem_toArray, List.getElem_cons_succ, List.getElem_cons_zero, Act.put, List.setIfInBounds_toArray, List.set_cons_zero, List.set_cons_succ]
                  refine seq_done (by kernel_rfl) ?_
                  go_upto_block 8 with (fail)
                  go_wp2_with fail
                  obtain ⟨wa, hwa⟩ : ∃ wa, wa = wr := ⟨_, rfl⟩
                  subst hwa
                  go_loopw [9, 15] (fun v9 v15 wq => ∃ i wo' wcap' S' W', i ≤ ws.length ∧ v9 = .slice wo' W'.length wcap' ∧ v15 = .int .i64 (i : Int) ∧ runWays c (ws.take i) S W = some (S', W') ∧ SpotsAt wq sb c.ins.length (fun b => b ≠ sb ∧ b < wq.heap.size ∧ blk wo' ≠ some b) S' ∧ QueueAt wq (sb + 1) wo' wcap' W' ∧ Keeps (fun b => b = sb ∨ sb + 1 ≤ b) w7 wq ∧ (∀ i' wy, ws[i']? = some wy → WayAt wq (fun b => b ≠ sb ∧ b < wq.heap.size ∧ blk wo' ≠ some b) ao i' wy) ∧ (∀ y f', S' y = some f' → f'.op.length ≤ 70000) ∧ W'.length ≤ W.length + i) (fun _ v15 _ => ws.length - (intOf v15).toNat)
                  case atStart =>
                    refine ⟨0, tailOf (some ⟨qb, qo, none⟩) wcap 1, wcap - 1, S, W, by omega, rfl, rfl, rfl, (HW.out.1.below HB9.out.1).mono (fun b hb => ⟨hb.1, by omega, by rw [blk_tail]; exact hb.2.2⟩) (fun b hb => hb.1), HW.out.2.1.tail.below HB9.out.1, HW.out.2.2.2.1.trans' (Keeps.of_below HB9.out.1), fun i' wy h => (HK9.out.2.2.2.1 i' wy h).mono (fun b hb => ?_), HZ.out.2.2.2.1, by omega⟩
                    rcases hb with hb | hb
                    · exact ⟨hb.1, by omega, by rw [blk_tail]; exact hb.2.2⟩
                    · have hb1 : wa.heap.size ≤ b := hb.1
                      refine ⟨by omega, hb.2, fun h => ?_⟩
                      rw [blk_tail] at h
                      have := (HW.out.2.1.2.2.1 b h).2
                      omega
                  case round =>
                    obtain ⟨i, wo', wcap', S', W', hi, rfl, rfl, hrun, hsp, hq, hkr, hways, hSl, hWl2⟩ := hrel
                    have hsr2 := hkr.size
                    have hrg : wr.heap[g]? = _ := (hkr.block g (by omega) (fun h => by omega)).trans H7.out.2.1
                    have hbr : Below w.heap.size w wr := H7.out.2.2.2.1.trans (hkr.below (fun i hi h => by have := H7.out.2.2.2.2.2; omega) (by have := H7.out.2.2.2.1.size; omega))
                    have HI := Lib.hid (And.intro hrun (And.intro hsp (And.intro hq (And.intro hkr (And.intro hways (And.intro hSl (And.intro hrg hbr)))))))
                    have hsbr2 : sb < wr.heap.size := by omega
                    have k0 : wr.cell? ⟨g, 0, none⟩ = some (.slice io c.ins.length icap) := cell_of_row _ _ 0 _ _ (0, 0) hrg
                    clear hrun hsp hq hkr hways hSl hrg hbr
                    by_cases hlti : i < ws.length
                    · skip
                      -- CUT E
                      have hd9 : decide ((i : Int) < (ws.length : Int)) = true := decide_eq_true (by omega)
                      have hwi : ws[i]? = some ws[i] := List.getElem?_eq_getElem hlti
                      have hfew : ws.length ≤ 2 := by rw [← HK9.out.2.2.2.2]; exact ways_few
                      obtain ⟨yb, yo, bo, bcap, rfl, hyO, y0, y1, y2, y3, y4, hb1, hb2, hbat, hbO⟩ := HI.out.2.2.2.2.1 i _ hwi
                      have hwl : (ws[i]).2.op.length ≤ 65537 := by have := ways_len _ (by rw [HK9.out.2.2.2.2]; exact List.getElem_mem hlti); omega
                      have hww := (HWS.out.2)
                      have HFL := Lib.hid (show comeOk c S' (ws[i]).1 (ws[i]).2 = false → ¬ Ord flC c from fun hno => HWS.out.2 (.inr ⟨HK9.out.2.1, by rw [HK9.out.2.2.2.2]; exact runWays_fail hlti HI.out.1 hno⟩))
                      have HSN := Lib.hid (runWays_snoc c (ws.take i) ws[i] S W S' W' HI.out.1)
                      have HTK := Lib.hid (show ws.take (i + 1) = ws.take i ++ [ws[i]] from List.take_succ_eq_append_getElem hlti)
                      obtain ⟨wy, hwy⟩ : ∃ wy, ws[i] = wy := ⟨_, rfl⟩
                      rw [hwy] at y0 y2 y3 y4 hb1 hbat hwl HFL HSN HTK
                      obtain ⟨a, gf⟩ := wy
                      simp only at y0 y2 y3 y4 hb1 hbat hwl
                      have HBR := Lib.hid (And.intro hb1 (And.intro hb2 (And.intro hbat (And.intro hbO hyO))))
                      obtain ⟨T, hT⟩ : ∃ T, betw a 0 ((c.ins.length : Int) - 1) = T := ⟨_, rfl⟩
                      have HA2 := Lib.hid hT
                      clear hT hwy hwi hb1 hb2 hbat hbO hyO hww
                      go_upto_region 42 with (fail)
                      obtain ⟨P1, hP1⟩ : ∃ P1, wr.alloc (.cells #[.int .i64 a, .bool true, .int .i64 (gf.fn : Int), .int .i64 gf.h, .slice bo gf.op.length bcap] 68) = P1 := ⟨_, rfl⟩
                      have hbP : Below wr.heap.size wr P1 := by rw [← hP1]; exact (Below.refl _ wr).alloc (Nat.le_refl _) _
                      have hrP : P1.heap[wr.heap.size]? = some (.cells #[.int .i64 a, .bool true, .int .i64 (gf.fn : Int), .int .i64 gf.h, .slice bo gf.op.length bcap] 68 (0, 0)) := by rw [← hP1]; exact heap_alloc_new wr _
                      have hsP : wr.heap.size < P1.heap.size := by rw [← hP1]; simp
                      rw [hP1]
                      obtain ⟨pp, hpp⟩ : ∃ pp, wr.heap.size = pp := ⟨_, rfl⟩
                      have hkg : P1.cell? ⟨g, 0, none⟩ = some (.slice io c.ins.length icap) := (World.cell?_of_block (a := ⟨g, 0, none⟩) (hbP.block g (by omega))).trans k0
                      rw [hpp] at hrP ⊢
                      have r0 : P1.cell? ⟨pp, 0, none⟩ = some (.int .i64 a) := cell_of_row _ _ 0 _ _ (0, 0) hrP
                      have r3 : P1.cell? ⟨pp, 3, none⟩ = some (.int .i64 gf.h) := cell_of_row _ _ 3 _ _ (0, 0) hrP
                      have HQ1 := Lib.hid (And.intro (HI.out.2.1.below hbP) (And.intro hbP (And.intro hrP (And.intro (show P1.rangeAt pp 1 [.bool true, .int .i64 (gf.fn : Int), .int .i64 gf.h, .slice bo gf.op.length bcap] from range_row (cell_of_row _ _ 1 _ _ (0, 0) hrP) (cell_of_row _ _ 2 _ _ (0, 0) hrP) (cell_of_row _ _ 3 _ _ (0, 0) hrP) (cell_of_row _ _ 4 _ _ (0, 0) hrP)) (And.intro hpp (And.intro hkg (And.intro r0 r3)))))))
                      have hppl : pp < P1.heap.size := by omega
                      have hspp : sb < pp := by omega
                      have HBQ := Lib.hid (HI.out.2.2.2.2.2.2.2.trans (hbP.mono HI.out.2.2.2.2.2.2.2.size))
                      clear hP1 hbP hrP hpp y0 y1 y2 y3 y4 k0
                      go_wp2_with fail
                      refine (between_any a 0 ((c.ins.length : Int) - 1) P1).mono ?_
                      rintro e w2 ⟨rfl, rfl⟩
                      rw [HA2.out]
                      cases T with
                      | false =>
                        go_wp2_with fail
                        go_ret
                        refine ⟨HBQ.out, .inr ⟨HFL.out (decide_eq_false (fun hc => ?_)), rfl⟩⟩
                        have h2 := HA2.out
                        rw [show betw a 0 ((c.ins.length : Int) - 1) = true from decide_eq_true ⟨hc.1, by have := hc.2.1; (try simp only at this); omega⟩] at h2
                        cases h2
                      | true =>
                      by_cases hgh : gf.h ≤ 10000
                      case neg =>
                        have hd10 : decide (10000 < gf.h) = true := decide_eq_true (by omega)
                        go_wp2_with fail
                        go_ret
                        exact ⟨HBQ.out, .inr ⟨HFL.out (decide_eq_false (fun hc => by have := hc.2.2.1; (try simp only at this); omega)), rfl⟩⟩
                      have hd10 : decide (10000 < gf.h) = false := decide_eq_false (by omega)
                      have hin := of_decide_eq_true HA2.out
                      obtain ⟨j, rfl⟩ : ∃ j : Nat, a = (j : Int) := ⟨a.toNat, by omega⟩
                      have hj : j < c.ins.length := by omega
                      have HGH := Lib.hid hgh
                      clear hin hgh
                      cases hS : S' (j : Int) with
                      | some f' =>
                        obtain ⟨po', pcap', hspv, hrange⟩ := (HQ1.out.1.yes j f' hj hS).val
                        have kj : P1.cell? ⟨sb, j * 4, none⟩ = some (.bool true) := hrange 0 _ rfl
                        have hfl2 := HI.out.2.2.2.2.2.1 _ _ hS
                        have HS := Lib.hid (And.intro hS (And.intro hspv hrange))
                        clear hS hspv hrange
                        go_wp2_with fail
                        clear kj r0 r3 hkg
                        refine seq_start (by kernel_rfl) ?_
                        refine seq_take 0 (v := ?_) rfl (by kernel_rfl) (fun _ _ _ h => h) (by rfl) (fun w' hw' => ?_) ?_
                        rotate_left
                        · go_simp; try with_reducible rfl
                        try simp only [List.getElem_toArray, List.getElem_cons_succ, List.getElem_cons_zero, Act.put, List.setIfInBounds_toArray, List.set_cons_zero, List.set_cons_succ]
                        refine seq_take 1 (v := ?_) rfl (by kernel_rfl) (fun _ _ _ h => h) (by rfl) (fun w' hw' => ?_) ?_
                        rotate_left
                        · go_simp; try with_reducible rfl
                        try simp only [List.getElem_toArray, List.getElem_cons_succ, List.getElem_cons_zero, Act.put, List.setIfInBounds_toArray, List.set_cons_zero, List.set_cons_succ]
                        refine seq_take 2 rfl (by kernel_rfl) (fun _ _ _ h => h) (by rfl) (seq_ldi rfl rfl ((show P1.drew.cell? ⟨pp, 0, none⟩ = _ from HQ1.out.2.2.2.2.2.2.1))) ?_
                        try simp only [List.getElem_toArray, List.getElem_cons_succ, List.getElem_cons_zero, Act.put, List.setIfInBounds_toArray, List.set_cons_zero, List.set_cons_succ]
                        refine seq_take 3 (v := ?_) rfl (by kernel_rfl) (fun _ _ _ h => h) (by rfl) (fun w' hw' => ?_) ?_
                        rotate_left
                        · go_simp; try with_reducible rfl
                        try simp only [List.getElem_toArray, List.getElem_cons_succ, List.getElem_cons_zero, Act.put, List.setIfInBounds_toArray, List.set_cons_zero, List.set_cons_succ]
                        refine seq_take 4 rfl (by kernel_rfl) (fun _ _ _ h => h) (by rfl) (seq_ldSp rfl rfl ((show P1.drew.rangeAt sb (j * 4) _ from HS.out.2.2))) ?_
                        try simp only [List.getElem_toArray, List.getElem_cons_succ, List.getElem_cons_zero, Act.put, List.setIfInBounds_toArray, List.set_cons_zero, List.set_cons_succ]
                        refine seq_take 5 (v := ?_) rfl (by kernel_rfl) (fun _ _ _ h => h) (by rfl) (fun w' hw' => ?_) ?_
                        rotate_left
                        · go_simp; try with_reducible rfl
                        try simp only [List.getElem_toArray, List.getElem_cons_succ, List.getElem_cons_zero, Act.put, List.setIfInBounds_toArray, List.set_cons_zero, List.set_cons_succ]
                        refine seq_take 6 rfl (by kernel_rfl) (fun _ _ _ h => h) (by rfl) (seq_ldSp rfl rfl ((show P1.drew.rangeAt pp 1 _ from HQ1.out.2.2.2.1))) ?_
                        try simp only [List.getElem_toArray, List.getElem_cons_succ, List.getElem_cons_zero, Act.put, List.setIfInBounds_toArray, List.set_cons_zero, List.set_cons_succ]
                        refine seq_run 7 rfl (by kernel_rfl) (by rfl) (fun KK hKK => ?_)
                        go_wp2_with fail
                        refine (rsame_any f' gf _ _ _ (fun _ => True) (by omega) (by omega) P1.drew (HS.out.2.1.below (Below.refl _ P1).drew) ⟨bo, bcap, rfl, HBR.out.1, HBR.out.2.1, HBR.out.2.2.1.below (HQ1.out.2.1.trans ((Below.refl _ P1).drew.mono HQ1.out.2.1.size)), fun b hb => trivial⟩).mono ?_
                        rintro e w2 ⟨rfl, hb2⟩
                        have hbw : Below wr.heap.size wr w2 := HQ1.out.2.1.trans ((((Below.refl _ P1).drew).trans hb2).mono HQ1.out.2.1.size)
                        have HBW2 := Lib.hid hbw
                        have hsw := hbw.size
                        clear hbw
                        by_cases hfg : f' = gf
                        · rw [decide_eq_true hfg]
                          have HFG := Lib.hid (And.intro hfg hb2)
                          clear hfg hb2
                          go_wp2_with fail
                          refine ⟨HFG.out.2, ?_⟩
                          refine seq_take 8 (v := ?_) rfl (by kernel_rfl) (fun _ _ _ h => h) (by rfl) (fun w' hw' => ?_) ?_
                          rotate_left
                          · go_simp; try with_reducible rfl
                          try simp only [List.getElem_toArray, List.getElem_cons_succ, List.getElem_cons_zero, Act.put, List.setIfInBounds_toArray, List.set_cons_zero, List.set_cons_succ]
                          refine seq_done (by kernel_rfl) ?_
                          go_wp2_with fail
                          go_roundw
                          case rel =>
                            have hok : comeOk c S' (j : Int) gf = true := decide_eq_true ⟨by omega, by omega, HGH.out, .inr (by rw [HS.out.1, HFG.out.1])⟩
                            have hne : S' (j : Int) ≠ none := by rw [HS.out.1]; simp
                            have hrn := HSN.out
                            rw [← HTK.out, if_pos hok, show comeS S' (j : Int) gf = S' by unfold comeS; rw [if_neg hne], show comeW S' W' (j : Int) = W' by unfold comeW; rw [if_neg hne]] at hrn
                            exact ⟨i + 1, wo', wcap', S', W', by omega, rfl, by simp, hrn, (HI.out.2.1.below HBW2.out).mono (fun b hb => ⟨hb.1, by omega, hb.2.2⟩) (fun b hb => hb.1), HI.out.2.2.1.below HBW2.out, HI.out.2.2.2.1.trans' (Keeps.of_below HBW2.out), fun i' wy h => ((HI.out.2.2.2.2.1 i' wy h).keeps (X := fun _ => False) (Keeps.of_below HBW2.out) (fun _ _ h => h)).mono (fun b hb => ⟨hb.1, by omega, hb.2.2⟩), HI.out.2.2.2.2.2.1, by omega⟩
                          case measure => simp [intOf]; omega
                        · rw [decide_eq_false hfg]
                          have HFG := Lib.hid (And.intro hfg hb2)
                          clear hfg hb2
                          go_wp2_with fail
                          refine ⟨HFG.out.2, ?_⟩
                          refine seq_take 8 (v := ?_) rfl (by kernel_rfl) (fun _ _ _ h => h) (by rfl) (fun w' hw' => ?_) ?_
                          rotate_left
                          · go_simp; try with_reducible rfl
                          try simp only [List.getElem_toArray, List.getElem_cons_succ, List.getElem_cons_zero, Act.put, List.setIfInBounds_toArray, List.set_cons_zero, List.set_cons_succ]
                          refine seq_done (by kernel_rfl) ?_
                          go_wp2_with fail
                          go_ret
                          refine ⟨HI.out.2.2.2.2.2.2.2.trans (HBW2.out.mono HI.out.2.2.2.2.2.2.2.size), .inr ⟨HFL.out (decide_eq_false (fun hc => ?_)), rfl⟩⟩
                          rcases hc.2.2.2 with h | h
                          · rw [HS.out.1] at h; cases h
                          · rw [HS.out.1] at h; exact HFG.out.1 (Option.some.inj h)
                      | none =>
                        have kj : P1.cell? ⟨sb, j * 4, none⟩ = some (.bool false) := HQ1.out.1.no j hj hS
                        have HS := Lib.hid hS
                        have p1 : P1.cell? ⟨pp, 1, none⟩ = some (.bool true) := HQ1.out.2.2.2.1 0 _ rfl
                        have p2 : P1.cell? ⟨pp, 2, none⟩ = some (.int .i64 (gf.fn : Int)) := HQ1.out.2.2.2.1 1 _ rfl
                        have p4 : P1.cell? ⟨pp, 4, none⟩ = some (.slice bo gf.op.length bcap) := HQ1.out.2.2.2.1 3 _ rfl
                        clear hS
                        go_upto_region 48 with (refine wpList_store_mid rfl 62 _ _ rfl sb (j * 4) #[.bool true, .int .i64 (gf.fn : Int), .int .i64 gf.h, .slice bo gf.op.length bcap] rfl rfl (HQ1.out.1.there j hj) (by kernel_rfl) (spot_one _ _ _ _ _) ?_)
                        have hatP : At P1 bo (intsV gf.op) := HBR.out.2.2.1.below HQ1.out.2.1
                        have hsX := HQ1.out.1.put j hj gf bo bcap HBR.out.1 HBR.out.2.1 hatP (fun b hb => HBR.out.2.2.2.1 b hb)
                        obtain ⟨X1, hX1⟩ : ∃ X1, P1.setCells sb (j * 4) (spotRow gf bo bcap) = X1 := ⟨_, rfl⟩
                        have hkX : Keeps (fun b => b = sb) P1 X1 := by rw [← hX1]; exact Keeps.setCells sb _ _ _
                        rw [hX1] at hsX
                        rw [show P1.setCells sb (j * 4) (#[Value.bool true, .int .i64 (gf.fn : Int), .int .i64 gf.h, .slice bo gf.op.length bcap] : Array Value).toList = X1 from hX1]
                        have hqX : QueueAt X1 (sb + 1) wo' wcap' W' := (HI.out.2.2.1.below HQ1.out.2.1).keeps hkX (fun b hb h => by have := (HI.out.2.2.1.2.2.1 b hb).1; omega)
                        have hsP1 := HQ1.out.2.1.size
                        have hsX1 := hkX.size
                        have r0X : X1.cell? ⟨pp, 0, none⟩ = some (.int .i64 (j : Int)) := keeps_cell hkX (by intro h; have h : pp = sb := h; omega) r0
                        have hba : Below X1.heap.size X1 (X1.alloc (.cells #[.int .i64 (j : Int)] 3)) := (Below.refl _ X1).alloc (Nat.le_refl _) _
                        have HX := Lib.hid (And.intro hsX (And.intro hkX (And.intro (hqX.below hba) (And.intro hba (show (X1.alloc (.cells #[.int .i64 (j : Int)] 3)).cell? ⟨X1.heap.size, 0, none⟩ = some (.int .i64 (j : Int)) from cell_of_row _ _ 0 _ _ (0, 0) (heap_alloc_new X1 _))))))
                        clear hsX hX1 hkX hqX hba hatP kj r0 r3 hkg p1 p2 p4
                        go_wp2_with (at_builtin; refine app_queue rfl _ _ rfl (sb + 1) wo' wcap' W'.length W' rfl rfl HX.out.2.2.1 (j : Int) X1.heap.size rfl HX.out.2.2.2.2 (by omega) (by have := HX.out.2.2.2.1.size; omega) ?_; rintro ao5 cap5 w5 r1 r2 r3; have Q5 := Lib.hid (And.intro r1 (And.intro r2 r3)); clear r1 r2 r3)
                        go_roundw
                        case rel =>
                          have hok : comeOk c S' (j : Int) gf = true := decide_eq_true ⟨by omega, by omega, HGH.out, .inl HS.out⟩
                          have eS : comeS S' (j : Int) gf = fun z => if z = (j : Int) then some gf else S' z := by unfold comeS; rw [if_pos HS.out]
                          have eW : comeW S' W' (j : Int) = W' ++ [(j : Int)] := by unfold comeW; rw [if_pos HS.out]
                          have hrn := HSN.out
                          rw [← HTK.out, if_pos hok, eS, eW] at hrn
                          have hsz5 := Q5.out.2.1.size
                          have hsza := HX.out.2.2.2.1.size
                          have hk5 : Keeps (fun b => blk wo' = some b) X1 w5 := (Keeps.of_below HX.out.2.2.2.1).trans' Q5.out.2.1
                          have hO : ∀ b, (b ≠ sb ∧ b < wr.heap.size ∧ blk wo' ≠ some b) → (b ≠ sb ∧ b < w5.heap.size ∧ blk ao5 ≠ some b) := fun b hb => ⟨hb.1, by omega, fun h => by
                            rcases Q5.out.2.2 b h with h' | h'
                            · exact hb.2.2 h'
                            · omega⟩
                          have hkall : Keeps (fun b => b = sb ∨ blk wo' = some b) wr w5 := ((Keeps.of_below HQ1.out.2.1).trans' (HX.out.2.1.mono (fun _ _ h => .inl h))).trans' (hk5.mono (fun _ _ h => .inr h))
                          refine ⟨i + 1, ao5, cap5, _, W' ++ [(j : Int)], by omega, by simp, by simp, hrn, ?_, Q5.out.1, HI.out.2.2.2.1.trans' (hkall.mono (fun b _ h => h.imp id (fun h => (HI.out.2.2.1.2.2.1 b h).1))), fun i' wy h => ?_, fun y f'' hy => ?_, by rw [List.length_append, List.length_singleton]; omega⟩
                          · exact (HX.out.1.keeps hk5 (fun h => by have := (HI.out.2.2.1.2.2.1 sb h).1; omega) (fun b hb h => hb.2.2 h)).mono hO (fun b hb => hb.1)
                          · exact ((HI.out.2.2.2.2.1 i' wy h).keeps hkall (fun b hb h => h.elim hb.1 hb.2.2)).mono hO
                          · try simp only at hy
                            split at hy
                            · cases hy; omega
                            · exact HI.out.2.2.2.2.2.1 y f'' hy
                        case measure => simp [intOf]; omega
                      -- END E
                    · obtain rfl : i = ws.length := by omega
                      have hd9 : decide ((ws.length : Int) < (ws.length : Int)) = false := decide_eq_false (by omega)
                      have hr := HI.out.1
                      rw [List.take_length, ← HK9.out.2.2.2.2] at hr
                      have HRV := Lib.hid (show RInv w7 c L sb c.funs.length (n - 1) wr wo' wcap' S' W' from ⟨HI.out.2.1, HI.out.2.2.1, HWS.out.1 S' W' HK9.out.2.1 hr, HI.out.2.2.2.1⟩)
                      clear hr k0
                      go_wp2_with fail
                      go_roundw
                      case rel => exact ⟨_, _, _, _, _, rfl, HRV.out⟩
                      case measure =>
                        have h1 := leastN_le (p := fun n => ∃ wo wcap S W, Value.slice wo' W'.length wcap' = .slice wo W.length wcap ∧ RInv w7 c L sb c.funs.length n wr wo wcap S W) ⟨_, _, _, _, rfl, HRV.out⟩
                        have h3 := HN.out
                        have h2 := HZ.out.2.2.2.2
                        omega
end Go.Proofs.YtnhdefaagicejaaDoor
