/- THE LAW WalPlaces: a log asks for three sectors that the disk has; the sectors beside it are left alone. -/
import Derived.Test.YtnonhmjfhcmpgaaDoorWalTab
import Derived.Test.YtnonhmjfhcmpgaaDoorWalQ
import Derived.Deep.CutRange
namespace Go.Proofs.YtnonhmjfhcmpgaaDoor.walPlaces
open Go.ChangeShapes Go.WideShapes Go.ChangeAt Go.RowKit Go.ChangeMaps

/-- The disk while it is filled. -/
def FX (W w : World) (d gx i : Nat) : Prop := OwnX W w d (fillS i) (fun j => j = gx) ∧ At w (some ⟨gx, 0, none⟩) (bytesV x99)
/-- .. with a log. -/
def GX (W w : World) (d g gx f cnt n : Nat) : Prop := ∃ s l recs, SysX W w d g s l (fun j => j = gx) ∧ PG s l recs ∧ s.steps ≤ n ∧ l.age ≤ n ∧ l.f = f ∧ l.cnt = cnt ∧ At w (some ⟨gx, 0, none⟩) (bytesV x99)

set_option maxRecDepth 100000 in
set_option maxHeartbeats 4000000 in
theorem walk (f c : Int) (hf0 : -9223372036854775808 ≤ f) (hf1 : f ≤ 9223372036854775807) (hc0 : -9223372036854775808 ≤ c) (hc1 : c ≤ 9223372036854775807) (bo : Option Addr) (bcap : Nat) (b0 : List UInt8) (hbc : b0.length ≤ bcap) (hbm : bcap ≤ 9223372036854775807) (W : World) (hB0 : 0 < W.heap.size) (hb0 : At W bo (bytesV b0)) (ht : Tab W) :
    Calls Tryd.prog 3 #[.int .i64 f, .int .i64 c, .slice bo b0.length bcap] W (Says W (.bool true)) := by
  have HT := Lib.hid ht
  have HBT := Lib.hid (hb0.takeB 5000)
  have HBW := Lib.hid (fun (hne : b0.take 5000 ≠ []) (j : Nat) (hj : blk bo = some j) => show j < W.heap.size from by
    obtain ⟨j', hj', hlt'⟩ := (hb0.takeB 5000).lt (by intro h; apply hne; simpa [bytesV] using h)
    rw [hj] at hj'
    cases hj'
    exact hlt')
  have HR := Lib.hid (And.intro hf0 (And.intro hf1 (And.intro hc0 hc1)))
  clear hb0 ht hf0 hf1 hc0 hc1
  have hbl : (b0.take 5000).length = min b0.length 5000 := by rw [List.length_take]; omega
  obtain ⟨n, hn⟩ : ∃ n, min b0.length 5000 = n := ⟨_, rfl⟩
  rw [hn] at hbl
  have hmin : min ((b0.length : Nat) : Int) 5000 = (n : Int) := by omega
  have hn1 : n ≤ 5000 := by omega
  have hn2 : n ≤ bcap := by omega
  have HL := Lib.hid hbl
  have HMIN := Lib.hid hmin
  clear hbl hn hmin
  generalize b0.take 5000 = b at *
  have HF := Lib.hid (show ∀ k, k < 512 → (List.replicate k (153 : UInt8) ++ List.replicate (512 - k) 0).set k 153 = List.replicate (k + 1) (153 : UInt8) ++ List.replicate (512 - (k + 1)) (0 : UInt8) by
    intro k hk
    rw [List.set_append, if_neg (by simp), List.length_replicate, Nat.sub_self, show 512 - k = (512 - (k + 1)) + 1 by omega, List.replicate_succ, List.set_cons_zero, List.replicate_succ', List.append_assoc]
    rfl)
  go_enter Tryd.func3, Tryd.ntmps3
  go_wp2_with fail
  refine (new_any 20 (by decide) (by decide) W).mono ?_
  rintro e w1 ⟨d, M, I, rfl, hd, hb1⟩
  have H1 := Lib.hid (And.intro (show OwnX W w1 d (fillS 0) (fun _ => False) from ⟨M, I, hd, hb1, fun _ h => h.elim⟩) hb1)
  have hs1 := hb1.size
  clear hd hb1
  go_wp2_with (refine op_make rfl _ _ rfl 512 rfl rfl (by decide) ?_; rintro w2 q1 q2)
  have H2 := Lib.hid (And.intro q1 (grown_below q2))
  clear q1 q2
  generalize hg : w1.heap.size = gx at *
  have HG := Lib.hid hg
  clear hg
  go_loopw [10] (fun j wr => ∃ k : Nat, k ≤ 512 ∧ j = .int .i64 (k : Int) ∧ wr.ownsRow gx 5 1 (.slice (some ⟨gx, 0, none⟩) 512 512) 512 (bytesV (List.replicate k 153 ++ List.replicate (512 - k) 0)) ∧ Below gx w1 wr) (fun j _ => 512 - (intOf j).toNat)
  case atStart => exact ⟨0, by omega, rfl, by simpa using H2.out.1, H2.out.2⟩
  case round =>
    obtain ⟨k, hk, rfl, hown, hbel⟩ := hrel
    have H := Lib.hid (And.intro hown hbel)
    clear hown hbel
    by_cases hlt : k < 512
    · have hcell : ∃ u : Nat, wr.cell? ⟨gx, k, none⟩ = some (.int .u8 (u : Int)) := by
        refine ⟨_, (H.out.1.cellAt k (by omega)).trans (bytesV_get _ k (by simp; omega))⟩
      obtain ⟨u, hcell⟩ := hcell
      have hfr : wr.frozen? ⟨gx, k, none⟩ = false := H.out.1.frozenAt k
      have HS := Lib.hid (HF.out k hlt)
      go_wp2_with fail
      go_roundw
      case rel =>
        refine ⟨k + 1, by omega, by simp, ?_, H.out.2.setCell (Nat.le_refl _) _⟩
        rw [← HS.out, bytesV_set]
        exact (H.out.1.stored k _).1
      case measure => simp [intOf]; omega
    · obtain rfl : k = 512 := by omega
      have hown := H.out.1
      rw [show 512 - 512 = 0 from rfl, List.replicate_zero, List.append_nil] at hown
      have hxlt : gx < wr.heap.size := (hown.lt gx rfl).2
      have hX : OwnX W wr d (fillS 0) (fun j => j = gx) := H1.out.1.grow _ (by rw [HG.out]; exact H.out.2) (fun j hj => .inr (.inl ⟨by rw [HG.out, hj]; exact Nat.le_refl _, by rw [hj]; exact hxlt⟩))
      have hbw := hX.bel
      have HX := Lib.hid (And.intro hX (At.own hown))
      have hsw := hbw.size
      have HBW2 := Lib.hid hbw
      clear hown hX hbw hlt hk
      go_wp2_with fail
      refine (logs_any wr (by omega) (HT.out.below HBW2.out)).mono ?_
      rintro e w3 ⟨rfl, hb3⟩
      have H3 := Lib.hid (And.intro (show FX W w3 d gx 0 from ⟨HX.out.1.grow _ hb3 (fun j hj => .inl hj), HX.out.2.below hb3⟩) hb3)
      have hs3 := hb3.size
      clear hb3
      go_wp2_with fail
      refine (formatNil_any w3 0 5).mono ?_
      rintro e w4 ⟨rfl, hb4⟩
      have H4 := Lib.hid (show FX W w4 d gx 0 from ⟨H3.out.1.1.grow _ hb4 (fun j hj => .inl hj), H3.out.1.2.below hb4⟩)
      clear hb4
      go_wp2_with fail
      go_loopw [11] (fun v wr => ∃ i : Nat, i ≤ 20 ∧ v = .int .i64 (i : Int) ∧ FX W wr d gx i) (fun v _ => 20 - (intOf v).toNat)
      case atStart => exact ⟨0, by omega, rfl, H4.out⟩
      case round =>
        obtain ⟨i, hi, rfl, hfx⟩ := hrel
        have HX2 := Lib.hid hfx
        clear hfx
        by_cases hlt : i < 20
        · go_wp2_with fail
          obtain ⟨M, I, h1, h6, h7⟩ := HX2.out.1
          have hfw := fillS_write i hlt
          refine (write_any wr h1 (by simp [fillS]; omega) (by simp [fillS]; omega) (i : Int) (some ⟨gx, 0, none⟩) 512 x99 x99_length HX2.out.2 (fun j hj => by cases hj; exact (h7 gx rfl).1) h6.size).mono ?_
          rintro e w5 ⟨rfl, hu⟩
          rw [hfw] at hu ⊢
          obtain ⟨hx5, hst5⟩ := OwnX.step h1 h6 h7 hu
          have H5 := Lib.hid (show FX W w5 d gx (i + 1) from ⟨hx5, hst5.at HX2.out.2 (fun j hj _ => by cases hj; rfl)⟩)
          clear hu hx5 hst5 h1 h6 h7 hfw
          go_wp2_with fail
          go_roundw
          case rel => exact ⟨i + 1, by omega, by simp, H5.out⟩
          case measure => simp [intOf]; omega
        · obtain rfl : i = 20 := by omega
          clear hlt hi
          go_wp2_with fail
          have hr20 := HR.out
          by_cases hright : 0 ≤ f ∧ 3 ≤ c ∧ c ≤ 20 ∧ f ≤ 20 - c
          · obtain ⟨fn, hfn⟩ : ∃ fn : Nat, f = (fn : Int) := ⟨f.toNat, by omega⟩
            obtain ⟨cn, hcn⟩ : ∃ cn : Nat, c = (cn : Int) := ⟨c.toNat, by omega⟩
            subst hfn hcn
            have hc3 : 3 ≤ cn := by omega
            have hfc : fn + cn ≤ 20 := by omega
            clear hright hr20
            obtain ⟨M, I, h1, h6, h7⟩ := HX2.out.1
            obtain ⟨p1, t1⟩ := pg_format fn cn hc3 hfc
            refine (format_any wr h1 rfl rfl (by simp [fillS]) (by simp [fillS]) fn cn hc3 (by simp [fillS]; omega) (by simp [fillS]) (HT.out.below h6) hB0 h6.size).mono ?_
            rintro e w5 ⟨rfl, hu⟩
            obtain ⟨hx5, hst5⟩ := OwnX.step h1 h6 h7 hu
            have H5 := Lib.hid (And.intro hx5 (And.intro (show At w5 (some ⟨gx, 0, none⟩) (bytesV x99) from hst5.at HX2.out.2 (fun j hj _ => by cases hj; rfl)) (And.intro p1 t1)))
            clear hu hx5 hst5 h1 h6 h7 p1 t1
            generalize (formatP fn cn (fillS 20)).2 = s5 at *
            go_wp2_with fail
            obtain ⟨M, I, h1, h6, h7⟩ := H5.out.1
            have hp := H5.out.2.2.1
            have hs6 := h6.size
            refine (open_log w5 h1 hp.off hp.W (by rw [hp.len]; decide) fn cn 1 2 [] hp.inv hc3 (by rw [hp.len]; exact hfc) (by decide) (HT.out.below h6)).mono ?_
            rintro e w6 ⟨g, ro, rcap, rfl, hlog, hgg, _, hb⟩
            have hsb := hb.size
            have H6 := Lib.hid (show GX W w6 d g gx fn cn 60 from ⟨s5, ⟨fn, cn, 1, 0, 2⟩, [], ⟨M, I, h1.below hb, hlog, fun hm => by have := (h1.lt g hm).2; omega, fun hm => by have := (h1.ltI g hm).2; omega, by omega, h6.trans (hb.mono hs6), fun j hj => ⟨(h7 j hj).1, (h7 j hj).2.1, by have := (h7 j hj).2.2; omega, by have := (h7 j hj).2.2; omega⟩⟩, hp, H5.out.2.2.2, by show (1 : Nat) ≤ 60; omega, rfl, rfl, H5.out.2.1.below hb⟩)
            clear hlog hgg hb h1 h6 h7 hp hs6 hsb
            have d1 : decide ((fn : Int) < 0) = false := decide_eq_false (by omega)
            have d2 : decide ((cn : Int) < 3) = false := decide_eq_false (by omega)
            have d3 : decide (20 < (cn : Int)) = false := decide_eq_false (by omega)
            have d4 : decide (20 - (cn : Int) < (fn : Int)) = false := decide_eq_false (by omega)
            go_upto_region 21 with (refine op_min2 rfl _ _ _ rfl .i64 _ _ (n : Int) rfl rfl HMIN.out ?_)
            clear d1 d2 d3 d4
            obtain ⟨s6, l6, recs6, hsx, hp6, hs6, ha6, hf6, hc6, hx6⟩ := H6.out
            have hbel6 := hsx.bel
            refine (append_pg hsx hp6 hB0 HT.out (by omega) (by omega) bo n bcap b HL.out.symm (by rw [HL.out]; exact hn1) (by rw [HL.out]; exact hn2) (HBT.out.below hbel6) (fun j hj hne => .inl (HBW.out hne j hj))).mono ?_
            rintro e w7 ⟨z, s7, l7, recs7, rfl, hz, hs7, hst7, hp7, ht7, hag7, hf7, hc7⟩
            have H7 := Lib.hid (show GX W w7 d g gx fn cn 82 from ⟨s7, l7, recs7, hs7, hp7, by omega, by omega, by omega, by omega, hst7.at hx6 (fun j hj _ => by cases hj; rfl)⟩)
            clear hsx hp6 hs6 ha6 hf6 hc6 hx6 hbel6 hs7 hst7 hp7 ht7 hag7 hf7 hc7
            go_upto_region 21 with (fail)
            go_cut [113] from 103 to 144 (fun v113 w' => v113 = .bool false ∧ GX W w' d g gx fn cn 102)
            case first =>
              obtain ⟨s8, l8, recs8, hsx, hp8, hs8, ha8, hf8, hc8, hx8⟩ := H7.out
              obtain ⟨e1, p1, t1⟩ := pg_trunc hp8
              have hroom := hp8.room
              have HC := Lib.hid (truncate_sysX hsx hB0 HT.out (by omega) (by rw [hp8.W]; decide) (by omega) (by omega))
              have HD := Lib.hid (And.intro p1 (And.intro hs8 (And.intro ha8 (And.intro hf8 (And.intro hc8 (And.intro hx8 (And.intro t1 e1)))))))
              clear hsx hp8 hs8 ha8 hf8 hc8 hx8 e1 p1 t1 hroom
              rcases hz with rfl | rfl
              · go_wp2_with fail
                refine HC.out.mono ?_
                rintro e w9 ⟨rfl, h9, hst9⟩
                obtain ⟨p1, hs8, ha8, hf8, hc8, hx8, t1, e1⟩ := HD.out
                rw [e1] at h9 ⊢
                have H9 := Lib.hid (show GX W w9 d g gx fn cn 102 from ⟨_, _, [], h9, p1, by omega, by simp [truncL]; omega, hf8, hc8, hst9.at hx8 (fun j hj _ => by cases hj; rfl)⟩)
                clear h9 hst9 p1 hs8 ha8 hf8 hc8 hx8 t1 e1
                go_wp2_with fail
                go_meet
                case rel => exact ⟨rfl, H9.out⟩
              · go_wp2_with fail
                refine HC.out.mono ?_
                rintro e w9 ⟨rfl, h9, hst9⟩
                obtain ⟨p1, hs8, ha8, hf8, hc8, hx8, t1, e1⟩ := HD.out
                rw [e1] at h9 ⊢
                have H9 := Lib.hid (show GX W w9 d g gx fn cn 102 from ⟨_, _, [], h9, p1, by omega, by simp [truncL]; omega, hf8, hc8, hst9.at hx8 (fun j hj _ => by cases hj; rfl)⟩)
                clear h9 hst9 p1 hs8 ha8 hf8 hc8 hx8 t1 e1
                go_wp2_with fail
                go_meet
                case rel => exact ⟨rfl, H9.out⟩
            case rest =>
              obtain ⟨rfl, hgx⟩ := hcut
              obtain ⟨s8, l8, recs8, hsx, hp8, hs8, ha8, hf8, hc8, hx8⟩ := hgx
              have H8 := Lib.hid (And.intro hsx (And.intro hp8 (And.intro hf8 (And.intro hc8 hx8))))
              clear hsx hp8 hs8 ha8 hf8 hc8 hx8
              go_wp2_with fail
              go_loopw [16] (fun v wr => ∃ i : Nat, i ≤ 20 ∧ v = .int .i64 (i : Int) ∧ Below wc.heap.size wc wr) (fun v _ => 20 - (intOf v).toNat)
              case atStart => exact ⟨0, by omega, rfl, Below.refl _ _⟩
              case round =>
                obtain ⟨i, hi, rfl, hbr⟩ := hrel
                have HB := Lib.hid hbr
                clear hbr
                by_cases hlt : i < 20
                · go_wp2_with fail
                  obtain ⟨M, I, h1, _⟩ := (H8.out.1.below HB.out).own
                  obtain ⟨r, hr, hrx⟩ := H8.out.2.1.read i hlt
                  refine (read_any wr h1 (i : Int)).mono ?_
                  rintro e w9 ⟨ao, cap, rfl, hown, hb9⟩
                  rw [hr] at hown ⊢
                  simp only at hown ⊢
                  rw [H8.out.2.2.1, H8.out.2.2.2.1] at hrx
                  have HA := Lib.hid (And.intro (At.own hown) (And.intro ((H8.out.2.2.2.2.below HB.out).below hb9) (HB.out.trans (hb9.mono HB.out.size))))
                  clear hown hb9 h1 hr
                  have hx99 : 512 = x99.length := x99_length.symm
                  have HX99 := Lib.hid hx99
                  clear hx99
                  by_cases hin : fn ≤ i ∧ i < fn + cn
                  · clear hrx
                    have d1 : decide ((i : Int) < (fn : Int)) = false := decide_eq_false (by omega)
                    have d2 : decide ((fn : Int) + (cn : Int) ≤ (i : Int)) = false := decide_eq_false (by omega)
                    go_wp2_with fail
                    go_roundw
                    case rel => exact ⟨i + 1, by omega, by simp, HA.out.2.2⟩
                    case measure => simp [intOf]; omega
                  · obtain rfl := hrx (by omega)
                    clear hrx
                    by_cases hin2 : i < fn
                    · have d1 : decide ((i : Int) < (fn : Int)) = true := decide_eq_true (by omega)
                      clear hin
                      go_wp2_with (first | refine conv_str rfl _ rfl ao _ cap rfl x99 HA.out.1 rfl ?_ | refine conv_str rfl _ rfl (some ⟨gx, 0, none⟩) 512 512 rfl x99 HA.out.2.1 HX99.out ?_)
                      go_roundw
                      case rel => exact ⟨i + 1, by omega, by simp, HA.out.2.2⟩
                      case measure => simp [intOf]; omega
                    · have d1 : decide ((i : Int) < (fn : Int)) = false := decide_eq_false (by omega)
                      have d2 : decide ((fn : Int) + (cn : Int) ≤ (i : Int)) = true := decide_eq_true (by omega)
                      clear hin
                      go_wp2_with (first | refine conv_str rfl _ rfl ao _ cap rfl x99 HA.out.1 rfl ?_ | refine conv_str rfl _ rfl (some ⟨gx, 0, none⟩) 512 512 rfl x99 HA.out.2.1 HX99.out ?_)
                      go_roundw
                      case rel => exact ⟨i + 1, by omega, by simp, HA.out.2.2⟩
                      case measure => simp [intOf]; omega
                · obtain rfl : i = 20 := by omega
                  go_wp2_with fail
                  go_returns
                  exact ⟨rfl, (H8.out.1.below HB.out).bel⟩
          · obtain ⟨M, I, h1, h6, h7⟩ := HX2.out.1
            have hrb : rightB (fillS 20).L.length f c = false := decide_eq_false (by
              rw [show (fillS 20).L.length = 20 by simp [fillS]]
              exact hright)
            refine (formatBad_any wr h1 (by simp [fillS]) f c hr20.1 hr20.2.1 hr20.2.2.1 hr20.2.2.2 hrb).mono ?_
            rintro e w5 ⟨rfl, hb5⟩
            have H5 := Lib.hid (And.intro (h1.below hb5) (h6.trans (hb5.mono h6.size)))
            clear h1 h6 h7 hb5
            go_wp2_with fail
            refine (openBad_any w5 H5.out.1 (by simp [fillS]) f c hr20.1 hr20.2.1 hr20.2.2.1 hr20.2.2.2 hrb).mono ?_
            rintro e w6 ⟨rfl, hb6⟩
            have H6 := Lib.hid (H5.out.2.trans (hb6.mono H5.out.2.size))
            clear hb6 hrb
            by_cases c1 : f < 0
            · have d1 : decide (f < 0) = true := decide_eq_true c1
              clear hright hr20
              go_wp2_with fail
              go_returns
              exact ⟨rfl, H6.out⟩
            · have d1 : decide (f < 0) = false := decide_eq_false c1
              by_cases c2 : c < 3
              · have d2 : decide (c < 3) = true := decide_eq_true c2
                clear hright hr20 c1
                go_wp2_with fail
                go_returns
                exact ⟨rfl, H6.out⟩
              · have d2 : decide (c < 3) = false := decide_eq_false c2
                by_cases c3 : 20 < c
                · have d3 : decide (20 < c) = true := decide_eq_true c3
                  clear hright hr20 c1
                  go_wp2_with fail
                  go_returns
                  exact ⟨rfl, H6.out⟩
                · have d3 : decide (20 < c) = false := decide_eq_false c3
                  have d4 : decide (20 - c < f) = true := decide_eq_true (by omega)
                  have hc0 : 3 ≤ c := by omega
                  have hc20 : c ≤ 20 := by omega
                  clear hright hr20 c1
                  go_wp2_with fail
                  go_returns
                  exact ⟨rfl, H6.out⟩

theorem own : ownKnob Tryd.prog.godebug = none := by kernel_rfl
theorem laidOut : laidOutB Tryd.prog = true := by kernel_rfl
theorem readable : ∀ t ∈ Tryd.f3.params.toList, Tryd.prog.readableRec t = true ∧ t < Tryd.prog.types.size := by
  rw [Tryd.params3]
  intro t ht
  simp at ht
  rcases ht with rfl | rfl
  · exact ⟨by kernel_rfl, of_decide_eq_true (by kernel_rfl)⟩
  · exact ⟨by kernel_rfl, of_decide_eq_true (by kernel_rfl)⟩

theorem laid_met (os : Os) : laidMet Tryd.prog Rows.walPlacesRow.laid ((laidWorld os).forCall (fun _ _ => 0) ⟨#[], #[.int .i64 0, .int .i64 0, .slice none 0 0], []⟩).memory :=
  laidMet_of_run' 8 (by kernel_rfl) (by kernel_rfl)
theorem reads (os : Os) {H : Type} (enc : TypeId × Value → H) : DataW.whole enc Tryd.prog ((laidWorld os).forCall (fun _ _ => 0) ⟨#[], #[.int .i64 0, .int .i64 0, .slice none 0 0], []⟩).memory Tryd.f3.params.toList Rows.walPlacesSpec.vars false (#[.int .i64 0, .int .i64 0, .slice none 0 0] : Array Value).toList 8 = some ([.lit (.int .i64 0), .lit (.int .i64 0), .nil], [], []) := by kernel_rfl
set_option maxRecDepth 100000 in
theorem lifted (os : Os) (started : os.Started) (H : Type) (enc : TypeId × Value → H) (F : Stop.Interp) :
    ReturnsInHanded {} Tryd.checked os 3 .any ((OpenSpec.ofChange Rows.walPlacesSpec).preRow enc Tryd.prog Tryd.f3 Rows.walPlacesRow.domain false Rows.walPlacesRow.laid) (((OpenSpec.ofChange Rows.walPlacesSpec).at F).post enc Tryd.prog Tryd.f3 false true false false) := by
  have hx := reads os enc
  refine returnsInHanded_of_row (C := Tryd.checked) (s := OpenSpec.ofChange Rows.walPlacesSpec) own started (by kernel_rfl) Tryd.func3
    (witness_row_at (enc := enc) (C := Tryd.checked) false (laidWorld os) #[.int .i64 0, .int .i64 0, .slice none 0 0] rfl (by kernel_rfl) (by kernel_rfl) (by kernel_rfl)
      (OpenSpec.preRow_of_cond 8 hx (by kernel_rfl) (fun k hk => by cases hk) (by kernel_rfl) (laid_met os))) ?_
  intro W base args ds gs before hval0 hW _ _ _ hL _ _
  have ht : Tab W := table_of hL
  have hval : ∀ (j : Nat) t v, Tryd.f3.params[j]? = some t → args[j]? = some v → Value.okWide Tryd.prog W .any base t v := hval0
  have hW' := hW
  obtain ⟨p, q, hA0, hV, rfl, hfz, hnd⟩ := hW
  have hA : DataW.TrodAll enc Tryd.prog W 0 (fun _ => true) true Tryd.f3.params.toList args.toList ds p := hA0
  rw [Tryd.params3] at hA hval
  obtain ⟨v0, v1, v2, d0, d1, d2, p0, p1, p2, rfl, rfl, rfl, h0, h1, h2⟩ := trodAll_three hA
  obtain ⟨rfl, rfl⟩ := trodVars_none hV
  obtain ⟨z, rfl, rfl, rfl, wc⟩ := open_int Tryd.underlying3 (hval 0 3 v0 rfl rfl) h0
  obtain ⟨z1, rfl, rfl, rfl, wc1⟩ := open_int Tryd.underlying3 (hval 1 3 v1 rfl rfl) h1
  obtain ⟨bo, cap, b, rfl, hc, hm, hat⟩ := open_bytes Tryd.underlying22 Tryd.underlying5 cellsU8 (hval 2 22 v2 rfl rfl) h2
  have hz : -9223372036854775808 ≤ z ∧ z ≤ 9223372036854775807 := by simpa [Lit.wf, IntKind.min, IntKind.max, IntKind.signed, IntKind.bits] using wc
  have hz1 : -9223372036854775808 ≤ z1 ∧ z1 ≤ 9223372036854775807 := by simpa [Lit.wf, IntKind.min, IntKind.max, IntKind.signed, IntKind.bits] using wc1
  refine (walk z z1 hz.1 hz.2 hz1.1 hz1.2 bo cap b hc hm W (World.block_lt_of_cell? (a := ⟨0, 0, none⟩) W (ht 0 (by decide))) hat ht).mono fun e W' ⟨he, hb⟩ => ?_
  subst he
  exact ⟨_, rfl, post_law laidOut rfl rfl Tryd.underlying4 readable rfl rfl rfl hW' hb⟩

theorem said : Rows.WalPlacesSaid :=
  OpenClaim.holds_of_cond 3 Tryd.f3 rfl rfl rfl rfl rfl rfl rfl ⟨rfl, rfl, rfl, rfl, rfl⟩ rfl rfl rfl rfl rfl (by kernel_rfl) Tryd.func3 (by kernel_rfl)
    (of_decide_eq_true (by kernel_rfl)) (by unfold Func.isWrapper; first | (rw [if_pos (by decide +kernel)]; kernel_rfl) | (rw [if_neg (by decide +kernel)]; exact ⟨rfl, rfl⟩))
    (fun os started H enc _ F => by rw [OpenClaim.pre_eq_preRow]; exact lifted os started H enc F)

/-- No parameter wants a stand-in; the program's own looks are off. -/
theorem plain (f : FuncId) (fn : Func) (hf : Tryd.pinned.checked.prog.funcNamed "scriptor/scriptorlaw05.WalPlaces" = some f) (hfn : Tryd.pinned.checked.prog.funcs[f]? = some fn) :
    false = Tryd.pinned.checked.prog.looks [] ∧ ∀ (j : Nat) t, fn.params[j]? = some t → Tryd.pinned.checked.prog.wantsStandIn t = false := by
  obtain rfl : f = 3 := Option.some.inj ((show Tryd.prog.funcNamed "scriptor/scriptorlaw05.WalPlaces" = some 3 by kernel_rfl).symm.trans hf) |>.symm
  obtain rfl : fn = Tryd.f3 := (Option.some.inj (Tryd.func3.symm.trans hfn)).symm
  refine ⟨by kernel_rfl, fun j t ht => ?_⟩
  have hall : ∀ t ∈ Tryd.f3.params.toList, Tryd.prog.wantsStandIn t = false := by
    rw [Tryd.params3]
    intro t ht
    simp at ht
    rcases ht with rfl | rfl
    · kernel_rfl
    · kernel_rfl
  exact hall t (Array.mem_toList_iff.2 (Array.mem_of_getElem? ht))

theorem card : Rows.WalPlacesCardSaid :=
  Claim7.holds_tied_plain_at .later [] _ _ _ _ said (fun _ h => by cases h) (by kernel_rfl) (fun _ h => by cases h) walPlaces_row_tie rfl ⟨rfl, rfl⟩ (by kernel_rfl) rfl plain (by kernel_rfl)
end Go.Proofs.YtnonhmjfhcmpgaaDoor.walPlaces
