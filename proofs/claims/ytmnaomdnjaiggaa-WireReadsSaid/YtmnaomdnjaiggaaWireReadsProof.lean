/- THE LAW WireReads: of all bytes, in every row of calls, reading answers what the chapter says. -/
import Derived.Test.YtmnaomdnjaiggaaRows
import Derived.Test.YtmnaomdnjaiggaaRefIn
import Derived.Test.YtmnaomdnjaiggaaKeeps
import Derived.Test.YtmnaomdnjaiggaaLaw
import Derived.ChangeMaps5
namespace Go.Proofs.Ytmnaomdnjaiggaa.wireReads
open Go.ChangeShapes Go.WideShapes Go.ChangeAt Go.RowKit Go.ChangeMaps

theorem own : ownKnob Try.prog.godebug = none := by kernel_rfl
theorem laidOut : laidOutB Try.prog = true := by kernel_rfl
theorem readable : ∀ t ∈ Try.f7.params.toList, Try.prog.readableRec t = true ∧ t < Try.prog.types.size := by
  rw [Try.params7]
  intro t ht
  simp at ht
  rcases ht with rfl | rfl
  · exact ⟨by kernel_rfl, of_decide_eq_true (by kernel_rfl)⟩
  · exact ⟨by kernel_rfl, of_decide_eq_true (by kernel_rfl)⟩

/-- What the two readers' region makes. -/
def IsIn (B : Nat) (L : List UInt8) (o : Option Nat) (v : Value) (w : World) : Prop := ∃ g, v = .pointer (some ⟨g, 0, none⟩) ∧ B ≤ g ∧ InAt w g (L, 0) ∧ o ≠ some g ∧ ∀ ao cap, w.cell? ⟨g, 0, none⟩ = some (.slice ao L.length cap) → blk ao = none ∨ blk ao ≠ o
def IsRef (B : Nat) (L : List UInt8) (o : Option Nat) (v : Value) (w : World) : Prop := ∃ g, v = .pointer (some ⟨g, 0, none⟩) ∧ B ≤ g ∧ RefAt w g (L, 0) ∧ o ≠ some g
def Phi (B : Nat) (L : List UInt8) (o : Option Nat) (k : Nat) (v : Value) (w : World) : Prop := match k with
  | 1 => IsIn B L o v w
  | 5 => IsRef B L o v w
  | 6 => IsIn B L o v w
  | _ => IsRef B L o v w
theorem IsIn.mono {B : Nat} {L : List UInt8} {o : Option Nat} {v : Value} {w w' : World} (h : IsIn B L o v w) (hb : Below w.heap.size w w') : IsIn B L o v w' := by
  obtain ⟨g, rfl, hg, hin, ho, hc⟩ := h
  refine ⟨g, rfl, hg, hin.below hb, ho, fun ao cap h => hc ao cap ?_⟩
  rw [← h]
  exact (World.cell?_of_block (a := ⟨g, 0, none⟩) (hb.block g hin.lt)).symm
theorem IsRef.mono {B : Nat} {L : List UInt8} {o : Option Nat} {v : Value} {w w' : World} (h : IsRef B L o v w) (hb : Below w.heap.size w w') : IsRef B L o v w' := by
  obtain ⟨g, rfl, hg, hin, ho⟩ := h
  exact ⟨g, rfl, hg, hin.below hb, ho⟩
theorem Phi_mono (B : Nat) (L : List UInt8) (o : Option Nat) : ∀ k v w w', Phi B L o k v w → Below w.heap.size w w' → Phi B L o k v w' := by
  intro k v w w' h hb
  unfold Phi at h ⊢
  split at h
  · exact h.mono hb
  · exact h.mono hb
  · exact h.mono hb
  · exact h.mono hb

/-- The reader stands apart from a row. -/
def Clear (w : World) (g gm : Nat) (o : Option Nat) (L : List UInt8) : Prop :=
  InAt w g (L, 0) ∧ RefAt w gm (L, 0) ∧ o ≠ some g ∧ o ≠ some gm ∧ ∀ ao cap, w.cell? ⟨g, 0, none⟩ = some (.slice ao L.length cap) → blk ao = none ∨ blk ao ≠ o
theorem Clear.store {w : World} {g gm gc : Nat} {L : List UInt8} (h : Clear w g gm (some gc) L) (j : Nat) (v : Value) : Clear (w.setCell ⟨gc, j, none⟩ v) g gm (some gc) L := by
  obtain ⟨h1, h2, h3, h4, h5⟩ := h
  have hg := setCell_grown w gc j v
  have hne : g ≠ gc := by rintro rfl; exact h3 rfl
  have hne2 : gm ≠ gc := by rintro rfl; exact h4 rfl
  refine ⟨h1.kept hg hne fun ao cap hc _ e => ?_, h2.kept hg hne2, h3, h4, fun ao cap hc => h5 ao cap ?_⟩
  · rcases h5 ao cap hc with h | h
    · rw [h] at e; cases e
    · exact h e
  · rw [← hc]
    exact (World.cell?_of_block (a := ⟨g, 0, none⟩) (hg.block g h1.lt (by simp; omega))).symm

theorem fake_mod (a : Int) : ∃ q : Nat, q < 4 ∧ wrap64 ((IntKind.u64.wrap a).tmod 4) = (q : Int) := by
  have h0 : 0 ≤ IntKind.u64.wrap a := by rw [IntKind.wrap_u64]; omega
  rw [Int.tmod_eq_emod_of_nonneg h0]
  refine ⟨(IntKind.u64.wrap a % 4).toNat, by omega, ?_⟩
  unfold wrap64
  omega

set_option maxRecDepth 100000 in
set_option maxHeartbeats 4000000 in
theorem walk (ao ro : Option Addr) (l : List UInt8) (T : List (Int × Int × Int)) (cap rcap : Nat) (hc : l.length ≤ cap) (hrm : T.length ≤ 9223372036854775807) (w : World) (hat : At w ao (bytesV l)) (htt : RowsAt w ro 3 (T.map fun t => [.int .i64 t.1, .int .i64 t.2.1, .int .i64 t.2.2])) :
    Calls Try.prog 7 #[.slice ao l.length cap, .slice ro T.length rcap] w (Says w (.bool true)) := by
  have HAT := Lib.hid (And.intro hat htt)
  clear hat htt
  go_enter Try.func7, Try.ntmps7
  go_wp2_with (first | (go_at_call 19; refine (none_any _).mono ?_; rintro e w' ⟨rfl, rfl⟩) | (go_at_call 20; refine (fail_none 1 _).mono ?_; rintro e w' ⟨⟨v, rfl⟩, rfl⟩) | (go_at_call 14; refine (num_none _ _ _).mono ?_; rintro e w' ⟨rfl, rfl⟩) | (go_at_call 15; refine (err_none _).mono ?_; rintro e w' ⟨rfl, rfl⟩) | (go_at_call 18; refine (end_none _).mono ?_; rintro e w' ⟨rfl, rfl⟩) | (go_at_call 16; refine (left_none _).mono ?_; rintro e w' ⟨rfl, rfl⟩) | (go_at_call 17; refine (str_none _ _).mono ?_; rintro e w' ⟨rfl, rfl⟩))
  refine (wires_any w).mono ?_
  rintro e w1 ⟨rfl, hb1⟩
  have hsz1 := hb1.size
  have H1 := Lib.hid hb1
  clear hb1
  by_cases hl : 3000 < l.length
  · go_wp2_with (first | (go_at_call 19; refine (none_any _).mono ?_; rintro e w' ⟨rfl, rfl⟩) | (go_at_call 20; refine (fail_none 1 _).mono ?_; rintro e w' ⟨⟨v, rfl⟩, rfl⟩) | (go_at_call 14; refine (num_none _ _ _).mono ?_; rintro e w' ⟨rfl, rfl⟩) | (go_at_call 15; refine (err_none _).mono ?_; rintro e w' ⟨rfl, rfl⟩) | (go_at_call 18; refine (end_none _).mono ?_; rintro e w' ⟨rfl, rfl⟩) | (go_at_call 16; refine (left_none _).mono ?_; rintro e w' ⟨rfl, rfl⟩) | (go_at_call 17; refine (str_none _ _).mono ?_; rintro e w' ⟨rfl, rfl⟩))
    refine (wires_any w1).mono ?_
    rintro e w2 ⟨rfl, hb2⟩
    have H2 := Lib.hid (H1.out.trans (hb2.mono hsz1))
    clear hb2
    go_wp2_with (first | (go_at_call 19; refine (none_any _).mono ?_; rintro e w' ⟨rfl, rfl⟩) | (go_at_call 20; refine (fail_none 1 _).mono ?_; rintro e w' ⟨⟨v, rfl⟩, rfl⟩) | (go_at_call 14; refine (num_none _ _ _).mono ?_; rintro e w' ⟨rfl, rfl⟩) | (go_at_call 15; refine (err_none _).mono ?_; rintro e w' ⟨rfl, rfl⟩) | (go_at_call 18; refine (end_none _).mono ?_; rintro e w' ⟨rfl, rfl⟩) | (go_at_call 16; refine (left_none _).mono ?_; rintro e w' ⟨rfl, rfl⟩) | (go_at_call 17; refine (str_none _ _).mono ?_; rintro e w' ⟨rfl, rfl⟩))
    go_ret
    exact ⟨rfl, H2.out⟩
  · have hl' : decide (3000 < (l.length : Int)) = false := by simp; omega
    go_wp2_with (first | (first | (go_at_call 19; refine (none_any _).mono ?_; rintro e w' ⟨rfl, rfl⟩) | (go_at_call 20; refine (fail_none 1 _).mono ?_; rintro e w' ⟨⟨v, rfl⟩, rfl⟩) | (go_at_call 14; refine (num_none _ _ _).mono ?_; rintro e w' ⟨rfl, rfl⟩) | (go_at_call 15; refine (err_none _).mono ?_; rintro e w' ⟨rfl, rfl⟩) | (go_at_call 18; refine (end_none _).mono ?_; rintro e w' ⟨rfl, rfl⟩) | (go_at_call 16; refine (left_none _).mono ?_; rintro e w' ⟨rfl, rfl⟩) | (go_at_call 17; refine (str_none _ _).mono ?_; rintro e w' ⟨rfl, rfl⟩)) | (at_builtin; refine app_bytes rfl _ _ rfl w1.heap.size (some ⟨w1.heap.size, 0, none⟩) 0 [] 0 rfl (by exact World.ownsRow_lit w1 #[] 0 (Nat.le_refl _) (by decide) rfl) ao _ cap l rfl ((HAT.out.1.below H1.out).below ((Below.refl _ _).alloc (Nat.le_refl _) _)) rfl (by omega) (by simp) ?_; rintro co capc w2 ⟨q1, q2, q3⟩))
    have hb2 : Below w1.heap.size w1 w2 := ((Below.refl _ w1).alloc (Nat.le_refl _) _).trans (below_grown (B := w1.heap.size) (w := w1.alloc (.cells #[] 5)) (ao := some ⟨w1.heap.size, 0, none⟩) (m := 0) (cap := 0) (e := 5) (size := 1) (n := 0) (xs := []) (World.ownsRow_lit w1 #[] 0 (Nat.le_refl _) (by decide) rfl) (by simp) q2)
    simp only [List.nil_append] at q1
    have hsz2 := hb2.size
    have hco : ∀ g, blk co = some g → g < w2.heap.size := fun g hg => (q1.lt g (by rw [own_slice]; exact hg)).2
    have H2 := Lib.hid (And.intro q1 (H1.out.trans (hb2.mono hsz1)))
    have HCO := Lib.hid hco
    clear q1 q2 q3 hb2 hco
    have hat0 : At w2 ao (bytesV l) := HAT.out.1.below H2.out.2
    have hatc : At w2 co (bytesV l) := At.own H2.out.1
    have HA2 := Lib.hid (And.intro hat0 hatc)
    clear hat0 hatc
    refine seq_start (by kernel_rfl) ?_
    refine seq_take 0 (v := ?v0_1) rfl (by kernel_rfl) (fun _ _ _ h => h) (by rfl) (fun w' hw' => ?hy0_1) ?_
    case hy0_1 => go_simp; try with_reducible rfl
    try simp only [List.getElem_toArray, List.getElem_cons_succ, List.getElem_cons_zero, Act.put, List.setIfInBounds_toArray, List.set_cons_zero, List.set_cons_succ]
    refine seq_take 2 (v := ?v2_2) rfl (by kernel_rfl) (fun _ _ _ h => h) (by rfl) (fun w' hw' => ?hy2_2) ?_
    case hy2_2 => go_simp; try with_reducible rfl
    try simp only [List.getElem_toArray, List.getElem_cons_succ, List.getElem_cons_zero, Act.put, List.setIfInBounds_toArray, List.set_cons_zero, List.set_cons_succ]
    refine seq_take 3 rfl (by kernel_rfl) (fun _ _ _ h => h) (by rfl) (seq_conv rfl rfl (HA2.out.1) (by first | rfl | assumption | (symm; assumption) | simp)) ?_
    try simp only [List.getElem_toArray, List.getElem_cons_succ, List.getElem_cons_zero, Act.put, List.setIfInBounds_toArray, List.set_cons_zero, List.set_cons_succ]
    refine seq_take 4 (v := ?v4_3) rfl (by kernel_rfl) (fun _ _ _ h => h) (by rfl) (fun w' hw' => ?hy4_3) ?_
    case hy4_3 => go_simp; try with_reducible rfl
    try simp only [List.getElem_toArray, List.getElem_cons_succ, List.getElem_cons_zero, Act.put, List.setIfInBounds_toArray, List.set_cons_zero, List.set_cons_succ]
    refine seq_inv [1, 5, 6, 7] (Phi w2.heap.size l (blk co)) (by kernel_rfl) (by kernel_rfl) rfl ?mono ?step ?fin
    case mono => exact Phi_mono _ _ _
    case step =>
      refine ⟨stepK_of rfl fun x w3 hb3 hd3 => ?_, stepK_of rfl fun x w3 hb3 hd3 => ?_, stepK_of rfl fun x w3 hb3 hd3 => ?_, stepK_of rfl fun x w3 hb3 hd3 => ?_, trivial⟩
      · clear hd3
        have hsz3 := hb3.size
        simp only [World.size_drew] at hsz3
        have HB3 := Lib.hid (HA2.out.2.below (below_drew hb3))
        clear hb3
        simp only [Fr, List.foldl_cons, List.foldl_nil, List.getElem?_toArray, List.getElem?_cons_succ, List.getElem?_cons_zero, Option.bind_some, Act.put, List.setIfInBounds_toArray, List.set_cons_zero, List.set_cons_succ, List.getElem_toArray, List.getElem_cons_succ, List.getElem_cons_zero]
        refine ⟨by rfl, fun KK hKK => ?_⟩
        go_wp2_with fail
        refine (open_from co l capc (by omega) w3 HB3.out).mono ?_
        rintro y w4 ⟨g, rfl, hg, hin, hb4, hfr⟩
        have H4 := Lib.hid (And.intro hin (And.intro hb4 hfr))
        clear hin hb4 hfr
        go_wp2_with fail
        refine ⟨H4.out.2.1, g, rfl, by omega, H4.out.1, ?_, ?_⟩
        · intro e
          have := HCO.out g e
          omega
        · intro ao cap hc
          by_cases hb : blk ao = none
          · exact .inl hb
          · obtain ⟨b, hb2⟩ := Option.ne_none_iff_exists'.1 hb
            have h1 := H4.out.2.2 ao cap hc b hb2
            refine .inr fun e => ?_
            have := HCO.out b (by rw [← e]; exact hb2)
            omega
      · clear hd3
        have hsz3 := hb3.size
        simp only [World.size_drew] at hsz3
        clear hb3
        simp only [Fr, List.foldl_cons, List.foldl_nil, List.getElem?_toArray, List.getElem?_cons_succ, List.getElem?_cons_zero, Option.bind_some, Act.put, List.setIfInBounds_toArray, List.set_cons_zero, List.set_cons_succ, List.getElem_toArray, List.getElem_cons_succ, List.getElem_cons_zero]
        refine ⟨by rfl, fun KK hKK => ?_⟩
        go_wp2_with fail
        refine ⟨(Below.refl _ _).alloc (Nat.le_refl _) _, w3.heap.size, rfl, by omega, heap_alloc_new w3 _, ?_⟩
        intro e
        have := HCO.out _ e
        omega
      · have hx : IsIn _ _ _ (x 1) w3 := hd3 1 (of_decide_eq_true (by kernel_rfl))
        have HX := Lib.hid hx
        clear hd3 hx
        simp only [Fr, List.foldl_cons, List.foldl_nil, List.getElem?_toArray, List.getElem?_cons_succ, List.getElem?_cons_zero, Option.bind_some, Act.put, List.setIfInBounds_toArray, List.set_cons_zero, List.set_cons_succ, List.getElem_toArray, List.getElem_cons_succ, List.getElem_cons_zero]
        refine ⟨by rfl, fun KK hKK => ?_⟩
        go_wp2_with fail
        exact ⟨Below.refl _ _, HX.out⟩
      · have hx : IsRef _ _ _ (x 5) w3 := hd3 5 (of_decide_eq_true (by kernel_rfl))
        have HX := Lib.hid hx
        clear hd3 hx
        simp only [Fr, List.foldl_cons, List.foldl_nil, List.getElem?_toArray, List.getElem?_cons_succ, List.getElem?_cons_zero, Option.bind_some, Act.put, List.setIfInBounds_toArray, List.set_cons_zero, List.set_cons_succ, List.getElem_toArray, List.getElem_cons_succ, List.getElem_cons_zero]
        refine ⟨by rfl, fun KK hKK => ?_⟩
        go_wp2_with fail
        exact ⟨Below.refl _ _, HX.out⟩
    case fin =>
      intro x w3 hb3 hx
      have hx6 : IsIn _ _ _ (x 6) w3 := hx.mem 6 (by simp)
      have hx7 : IsRef _ _ _ (x 7) w3 := hx.mem 7 (by simp)
      clear hx
      obtain ⟨g, hx6e, hg, hin, hog, hcl⟩ := hx6
      obtain ⟨gm, hx7e, hgm, hrf, hogm⟩ := hx7
      have hb3' := below_drew hb3
      have hsz3 := hb3'.size
      have H3 := Lib.hid (And.intro (show Clear w3 g gm (blk co) l from ⟨hin, hrf, hog, hogm, hcl⟩) (And.intro (owns_below H2.out.1 hb3') (H2.out.2.trans (hb3'.mono (by omega)))))
      clear hb3 hb3' hin hog hcl hrf hogm
      simp only [Fr, List.foldl_cons, List.foldl_nil, List.getElem?_toArray, List.getElem?_cons_succ, List.getElem?_cons_zero, Option.bind_some, Act.put, List.setIfInBounds_toArray, List.set_cons_zero, List.set_cons_succ]
      rw [hx6e, hx7e]
      clear hx6e hx7e
      go_wp2_with fail
      go_loopw [8] (fun j wr => ∃ (k : Nat) (M : List UInt8), k ≤ l.length ∧ j = .int .i64 (k : Int) ∧ Clear wr g gm (blk co) l ∧ wr.ownsRow w1.heap.size 5 1 (.slice co l.length capc) l.length (bytesV M) ∧ Below w.heap.size w wr) (fun j _ => l.length - (intOf j).toNat)
      case atStart => exact ⟨0, l, by omega, rfl, H3.out.1, H3.out.2.1, H3.out.2.2⟩
      case round =>
        obtain ⟨k, M, hk, rfl, hcl, hown, hbel⟩ := hrel
        have hsz := hbel.size
        have H := Lib.hid (And.intro hcl (And.intro hown hbel))
        clear hcl hown hbel
        by_cases hlt : k < l.length
        · obtain ⟨gc, rfl⟩ : ∃ gc, co = some ⟨gc, 0, none⟩ := by
            rcases H.out.2.1.2 with ⟨h, _⟩ | ⟨g', cap', cur, hv, _⟩
            · simp at h; omega
            · cases hv; exact ⟨g', rfl⟩
          have hML : M.length = l.length := by have := H.out.2.1.1; simpa using this
          obtain ⟨z, hcell⟩ : ∃ z : Nat, wr.cell? ⟨gc, k, none⟩ = some (.int .u8 (z : Int)) := by
            refine ⟨(M[k]'(by omega)).toNat, ?_⟩
            rw [H.out.2.1.cellAt k (by omega)]
            exact bytesV_get M k (by omega)
          have hfr : wr.frozen? ⟨gc, k, none⟩ = false := H.out.2.1.frozenAt k
          have hgc : w.heap.size ≤ gc := by have := (H.out.2.1.lt gc rfl).1; omega
          clear hML
          go_wp2_with fail
          go_roundw
          case rel =>
            refine ⟨k + 1, M.set k 170, by omega, by simp, H.out.1.store k _, ?_, H.out.2.2.setCell hgc _⟩
            rw [bytesV_set]
            exact (H.out.2.1.stored k _).1
          case measure => simp [intOf]; omega
        · have hin := H.out.1.1
          have hrf := H.out.1.2.1
          have HI := Lib.hid (And.intro hin (And.intro hrf H.out.2.2))
          clear hin hrf
          go_wp2_with fail
          go_loopw [9] (fun j wr => ∃ (k : Nat) (s : St), k ≤ T.length ∧ k ≤ 60 ∧ j = .int .i64 (k : Int) ∧ InAt wr g s ∧ RefAt wr gm s ∧ Below w.heap.size w wr) (fun j _ => 60 - (intOf j).toNat)
          case atStart => exact ⟨0, (l, 0), by omega, by omega, rfl, HI.out.1, HI.out.2.1, HI.out.2.2⟩
          case round =>
            obtain ⟨k, s, hk, hk60, rfl, hin, hrf, hbel⟩ := hrel
            have hsz := hbel.size
            have hlg := hin.lt
            have hlgm := hrf.lt
            have hgne := hin.ref_ne hrf
            have hra := InAt.ref_at hrf hin
            by_cases hlt : k < T.length ∧ k < 60
            · obtain ⟨hkT, hk6⟩ := hlt
              obtain ⟨b, o, rfl, hcell⟩ := (HAT.out.2.below hbel).cell k (by simpa using hkT)
              rw [List.getElem_map] at hcell
              generalize T[k] = t at *
              obtain ⟨a, b1, b2⟩ := t
              have c0 : wr.cell? ⟨b, o + k * 3, none⟩ = some (.int .i64 a) := by simpa using hcell 0 (.int .i64 a) rfl
              have c1 : wr.cell? ⟨b, o + k * 3 + 1, none⟩ = some (.int .i64 b1) := by have := hcell 1 (.int .i64 b1) rfl; rwa [← Nat.add_assoc] at this
              have c2 : wr.cell? ⟨b, o + k * 3 + 2, none⟩ = some (.int .i64 b2) := by have := hcell 2 (.int .i64 b2) rfl; rwa [← Nat.add_assoc] at this
              have HI := Lib.hid (And.intro hin (And.intro hrf (And.intro hbel hra)))
              clear hcell hin hrf hbel hra
              go_upto_region 15 with (fail)
              obtain ⟨q, hq, hqe⟩ := fake_mod a
              rw [hqe]
              clear hqe
              obtain ⟨wa, hwa⟩ : ∃ wa, wa = wr.alloc (.cells #[.int .i64 a, .int .i64 b1, .int .i64 b2] 48) := ⟨_, rfl⟩
              rw [← hwa]
              have hrow : wa.heap[wr.heap.size]? = some (.cells #[.int .i64 a, .int .i64 b1, .int .i64 b2] 48 (0, 0)) := by rw [hwa]; exact heap_alloc_new wr _
              have hbA : Below wr.heap.size wr wa := by rw [hwa]; exact (Below.refl _ _).alloc (Nat.le_refl _) _
              have hszA : wr.heap.size < wa.heap.size := by rw [hwa]; simp
              have t1 : wa.cell? ⟨wr.heap.size, 1, none⟩ = some (.int .i64 b1) := cell_of_row _ _ 1 _ _ (0, 0) hrow
              have t2 : wa.cell? ⟨wr.heap.size, 2, none⟩ = some (.int .i64 b2) := cell_of_row _ _ 2 _ _ (0, 0) hrow
              have HA := Lib.hid (And.intro (HI.out.1.below hbA) (And.intro (HI.out.2.1.below hbA) (HI.out.2.2.1.trans (hbA.mono hsz))))
              have HT := Lib.hid (And.intro t1 t2)
              have hg0 : w.heap.size ≤ g := by omega
              have hgm0 : w.heap.size ≤ gm := by omega
              generalize wr.heap.size = gt at *
              clear hwa hrow hbA t1 t2 c0 c1 c2
              rcases (show q = 0 ∨ q = 1 ∨ q = 2 ∨ q = 3 by omega) with rfl | rfl | rfl | rfl
              case' inl =>
                clear hq
                go_wp2_with fail
                refine seqx_start (fun i => i = g ∨ i = gm) (by kernel_rfl) ?_
                refine seqx_take 0 (v := ?v0_4) rfl (by kernel_rfl) (fun _ _ _ h => h) (by rfl) (fun w' hw' => ?hy0_4) ?_
                case hy0_4 => go_simp; try with_reducible rfl
                try simp only [List.getElem_toArray, List.getElem_cons_succ, List.getElem_cons_zero, Act.put, List.setIfInBounds_toArray, List.set_cons_zero, List.set_cons_succ]
                refine seqx_take 1 (v := ?v1_5) rfl (by kernel_rfl) (fun _ _ _ h => h) (by rfl) (fun w' hw' => ?hy1_5) ?_
                case hy1_5 => go_simp; try with_reducible rfl
                try simp only [List.getElem_toArray, List.getElem_cons_succ, List.getElem_cons_zero, Act.put, List.setIfInBounds_toArray, List.set_cons_zero, List.set_cons_succ]
                refine seqx_take 2 rfl (by kernel_rfl) (fun _ _ _ h => h) (by rfl) (fun w' hw' => (seq_ldi rfl rfl (keeps_cell hw' (by (intro h; first | exact h | (simp at h; omega) | omega)) (HT.out.1))) w' (Below.refl _ _)) ?_
                try simp only [List.getElem_toArray, List.getElem_cons_succ, List.getElem_cons_zero, Act.put, List.setIfInBounds_toArray, List.set_cons_zero, List.set_cons_succ]
                refine seqx_take 3 (v := ?v3_6) rfl (by kernel_rfl) (fun _ _ _ h => h) (by rfl) (fun w' hw' => ?hy3_6) ?_
                case hy3_6 => go_simp; try with_reducible rfl
                try simp only [List.getElem_toArray, List.getElem_cons_succ, List.getElem_cons_zero, Act.put, List.setIfInBounds_toArray, List.set_cons_zero, List.set_cons_succ]
                refine seqx_take 4 rfl (by kernel_rfl) (fun _ _ _ h => h) (by rfl) (fun w' hw' => (seq_ldi rfl rfl (keeps_cell hw' (by (intro h; first | exact h | (simp at h; omega) | omega)) (HT.out.2))) w' (Below.refl _ _)) ?_
                try simp only [List.getElem_toArray, List.getElem_cons_succ, List.getElem_cons_zero, Act.put, List.setIfInBounds_toArray, List.set_cons_zero, List.set_cons_succ]
                refine seqx_take 6 (v := ?v6_7) rfl (by kernel_rfl) (fun _ _ _ h => h) (by rfl) (fun w' hw' => ?hy6_7) ?_
                case hy6_7 => go_simp; try with_reducible rfl
                try simp only [List.getElem_toArray, List.getElem_cons_succ, List.getElem_cons_zero, Act.put, List.setIfInBounds_toArray, List.set_cons_zero, List.set_cons_succ]
                refine seqx_take 7 (v := ?v7_8) rfl (by kernel_rfl) (fun _ _ _ h => h) (by rfl) (fun w' hw' => ?hy7_8) ?_
                case hy7_8 => go_simp; try with_reducible rfl
                try simp only [List.getElem_toArray, List.getElem_cons_succ, List.getElem_cons_zero, Act.put, List.setIfInBounds_toArray, List.set_cons_zero, List.set_cons_succ]
                refine seqx_take 8 rfl (by kernel_rfl) (fun _ _ _ h => h) (by rfl) (fun w' hw' => (seq_ldi rfl rfl (keeps_cell hw' (by (intro h; first | exact h | (simp at h; omega) | omega)) (HT.out.1))) w' (Below.refl _ _)) ?_
                try simp only [List.getElem_toArray, List.getElem_cons_succ, List.getElem_cons_zero, Act.put, List.setIfInBounds_toArray, List.set_cons_zero, List.set_cons_succ]
                refine seqx_take 9 (v := ?v9_9) rfl (by kernel_rfl) (fun _ _ _ h => h) (by rfl) (fun w' hw' => ?hy9_9) ?_
                case hy9_9 => go_simp; try with_reducible rfl
                try simp only [List.getElem_toArray, List.getElem_cons_succ, List.getElem_cons_zero, Act.put, List.setIfInBounds_toArray, List.set_cons_zero, List.set_cons_succ]
                refine seqx_take 10 rfl (by kernel_rfl) (fun _ _ _ h => h) (by rfl) (fun w' hw' => (seq_ldi rfl rfl (keeps_cell hw' (by (intro h; first | exact h | (simp at h; omega) | omega)) (HT.out.2))) w' (Below.refl _ _)) ?_
                try simp only [List.getElem_toArray, List.getElem_cons_succ, List.getElem_cons_zero, Act.put, List.setIfInBounds_toArray, List.set_cons_zero, List.set_cons_succ]
                refine seqx_run 5 rfl (by kernel_rfl) (by rfl) (fun KK hKK => ?_)
                go_wp2_with fail
                refine (inum_any g s b1 b2 wa.drew HA.out.1).mono ?_
                rintro x w5 ⟨rfl, hin5, hgr5⟩
                have hrf5 := (show RefAt wa.drew gm s from HA.out.2.1).kept hgr5 (Ne.symm hgne)
                have hsz5 := hgr5.size
                have H5 := Lib.hid (And.intro hin5 (And.intro hrf5 (And.intro (HA.out.2.2.drew.grown hgr5 (by simp; omega) (fun k hk => by cases hk; exact hg0)) hgr5)))
                simp only [World.size_drew] at hsz5
                clear hin5 hrf5 hgr5
                generalize hR : numR b1 b2 s = R at *
                obtain ⟨z, s6⟩ := R
                have HR := Lib.hid hR
                clear hR
                go_wp2_with fail
                refine ⟨Keeps.of_grown H5.out.2.2.2 (.inl rfl), ?_⟩
                refine seqx_run 11 rfl (by kernel_rfl) (by rfl) (fun KK hKK => ?_)
                go_wp2_with fail
                refine (rnum_any gm s b1 b2 w5 H5.out.2.1).mono ?_
                rintro x w6 ⟨rfl, hrf6, hgr6⟩
                have hin6 := H5.out.1.kept hgr6 hgne (InAt.ref_at H5.out.2.1 H5.out.1)
                have HS := Lib.hid (show InAt w6 g s6 ∧ RefAt w6 gm s6 ∧ Below w.heap.size w w6 from ⟨hin6, by rw [HR.out] at hrf6; exact hrf6, H5.out.2.2.1.grown hgr6 (by omega) (fun k hk => by cases hk; exact hgm0)⟩)
                have HG6 := Lib.hid hgr6
                rw [HR.out]
                clear hrf6 hin6 hgr6
                go_wp2_with fail
                refine ⟨Keeps.of_grown HG6.out (.inr rfl), ?_⟩
                refine seqx_take 12 (v := ?v12_10) rfl (by kernel_rfl) (fun _ _ _ h => h) (by rfl) (fun w' hw' => ?hy12_10) ?_
                case hy12_10 => go_simp; try with_reducible rfl
                try simp only [List.getElem_toArray, List.getElem_cons_succ, List.getElem_cons_zero, Act.put, List.setIfInBounds_toArray, List.set_cons_zero, List.set_cons_succ]
                refine seqx_done (by kernel_rfl) ?_
                go_upto_region 29 with (fail)
              case' inr.inl =>
                clear hq
                go_wp2_with fail
                refine seqx_start (fun i => i = g ∨ i = gm) (by kernel_rfl) ?_
                refine seqx_take 0 (v := ?v0_11) rfl (by kernel_rfl) (fun _ _ _ h => h) (by rfl) (fun w' hw' => ?hy0_11) ?_
                case hy0_11 => go_simp; try with_reducible rfl
                try simp only [List.getElem_toArray, List.getElem_cons_succ, List.getElem_cons_zero, Act.put, List.setIfInBounds_toArray, List.set_cons_zero, List.set_cons_succ]
                refine seqx_take 1 (v := ?v1_12) rfl (by kernel_rfl) (fun _ _ _ h => h) (by rfl) (fun w' hw' => ?hy1_12) ?_
                case hy1_12 => go_simp; try with_reducible rfl
                try simp only [List.getElem_toArray, List.getElem_cons_succ, List.getElem_cons_zero, Act.put, List.setIfInBounds_toArray, List.set_cons_zero, List.set_cons_succ]
                refine seqx_take 2 rfl (by kernel_rfl) (fun _ _ _ h => h) (by rfl) (fun w' hw' => (seq_ldi rfl rfl (keeps_cell hw' (by (intro h; first | exact h | (simp at h; omega) | omega)) (HT.out.1))) w' (Below.refl _ _)) ?_
                try simp only [List.getElem_toArray, List.getElem_cons_succ, List.getElem_cons_zero, Act.put, List.setIfInBounds_toArray, List.set_cons_zero, List.set_cons_succ]
                refine seqx_take 4 (v := ?v4_13) rfl (by kernel_rfl) (fun _ _ _ h => h) (by rfl) (fun w' hw' => ?hy4_13) ?_
                case hy4_13 => go_simp; try with_reducible rfl
                try simp only [List.getElem_toArray, List.getElem_cons_succ, List.getElem_cons_zero, Act.put, List.setIfInBounds_toArray, List.set_cons_zero, List.set_cons_succ]
                refine seqx_take 5 (v := ?v5_14) rfl (by kernel_rfl) (fun _ _ _ h => h) (by rfl) (fun w' hw' => ?hy5_14) ?_
                case hy5_14 => go_simp; try with_reducible rfl
                try simp only [List.getElem_toArray, List.getElem_cons_succ, List.getElem_cons_zero, Act.put, List.setIfInBounds_toArray, List.set_cons_zero, List.set_cons_succ]
                refine seqx_take 6 rfl (by kernel_rfl) (fun _ _ _ h => h) (by rfl) (fun w' hw' => (seq_ldi rfl rfl (keeps_cell hw' (by (intro h; first | exact h | (simp at h; omega) | omega)) (HT.out.1))) w' (Below.refl _ _)) ?_
                try simp only [List.getElem_toArray, List.getElem_cons_succ, List.getElem_cons_zero, Act.put, List.setIfInBounds_toArray, List.set_cons_zero, List.set_cons_succ]
                refine seqx_run 3 rfl (by kernel_rfl) (by rfl) (fun KK hKK => ?_)
                go_wp2_with fail
                refine (istr_any g s b1 wa.drew HA.out.1).mono ?_
                rintro x w5 ⟨rfl, hin5, hgr5⟩
                have hrf5 := (show RefAt wa.drew gm s from HA.out.2.1).kept hgr5 (Ne.symm hgne)
                have hsz5 := hgr5.size
                have H5 := Lib.hid (And.intro hin5 (And.intro hrf5 (And.intro (HA.out.2.2.drew.grown hgr5 (by simp; omega) (fun k hk => by cases hk; exact hg0)) hgr5)))
                simp only [World.size_drew] at hsz5
                clear hin5 hrf5 hgr5
                generalize hR : strR b1 s = R at *
                obtain ⟨z, s6⟩ := R
                have HR := Lib.hid hR
                clear hR
                go_wp2_with fail
                refine ⟨Keeps.of_grown H5.out.2.2.2 (.inl rfl), ?_⟩
                refine seqx_run 7 rfl (by kernel_rfl) (by rfl) (fun KK hKK => ?_)
                go_wp2_with fail
                refine (rstr_any gm s b1 w5 H5.out.2.1).mono ?_
                rintro x w6 ⟨rfl, hrf6, hgr6⟩
                have hin6 := H5.out.1.kept hgr6 hgne (InAt.ref_at H5.out.2.1 H5.out.1)
                have HS := Lib.hid (show InAt w6 g s6 ∧ RefAt w6 gm s6 ∧ Below w.heap.size w w6 from ⟨hin6, by rw [HR.out] at hrf6; exact hrf6, H5.out.2.2.1.grown hgr6 (by omega) (fun k hk => by cases hk; exact hgm0)⟩)
                have HG6 := Lib.hid hgr6
                rw [HR.out]
                clear hrf6 hin6 hgr6
                go_wp2_with fail
                refine ⟨Keeps.of_grown HG6.out (.inr rfl), ?_⟩
                refine seqx_take 8 (v := ?v8_15) rfl (by kernel_rfl) (fun _ _ _ h => h) (by rfl) (fun w' hw' => ?hy8_15) ?_
                case hy8_15 => go_simp; try with_reducible rfl
                try simp only [List.getElem_toArray, List.getElem_cons_succ, List.getElem_cons_zero, Act.put, List.setIfInBounds_toArray, List.set_cons_zero, List.set_cons_succ]
                refine seqx_done (by kernel_rfl) ?_
                go_upto_region 29 with (fail)
              case' inr.inr.inl =>
                clear hq
                have hT1 := HT.out.1
                go_upto_region 23 with (fail)
                obtain ⟨r, hr, hre⟩ := cutmod0 b1 18 (by omega) (by omega)
                have hre' : wrap64 ((IntKind.u64.wrap b1).tmod 18) = (r : Int) := hre
                have hwr : wrap64 (1 + (r : Int)) = 1 + (r : Int) := by unfold wrap64; omega
                rw [hre', hwr]
                have hf := fail_any g s (1 + r) wa HA.out.1
                rw [show (((1 + r : Nat)) : Int) = 1 + (r : Int) by omega] at hf
                have HF := Lib.hid hf
                clear hre hre' hT1 hf hwr
                go_wp2_with fail
                refine HF.out.mono ?_
                rintro x w5 ⟨v5, rfl, hin5, hgr5⟩
                have hrf5 := HA.out.2.1.kept hgr5 (Ne.symm hgne)
                have hsz5 := hgr5.size
                have H5 := Lib.hid (And.intro hin5 (And.intro hrf5 (HA.out.2.2.grown hgr5 (by omega) (fun k hk => by cases hk; exact hg0))))
                have d1 := hrf5.c1
                have df := hrf5.fz 1
                clear hin5 hrf5 hgr5
                by_cases hs0 : s.2 = 0
                case' pos =>
                  have hs0' : ((s.2 : Int) == 0) = true := by simp [hs0]
                  have hfe : failR (1 + r) s = (s.1, 1 + r) := by rw [failR, if_pos hs0]
                  obtain ⟨s6, hs6⟩ : ∃ s6, s6 = failR (1 + r) s := ⟨_, rfl⟩
                  obtain ⟨w6, hw6⟩ : ∃ w6, w6 = w5.setCell ⟨gm, 1, none⟩ (.int .i64 (1 + (r : Int))) := ⟨_, rfl⟩
                  have hg6 := setCell_grown w5 gm 1 (.int .i64 (1 + (r : Int)))
                  have hin6 := H5.out.1.kept hg6 hgne (InAt.ref_at H5.out.2.1 H5.out.1)
                  have hrf6 := H5.out.2.1.setE (1 + r)
                  rw [show (((1 + r : Nat)) : Int) = 1 + (r : Int) by omega] at hrf6
                  rw [← hw6] at hg6 hin6 hrf6
                  rw [← hfe, ← hs6] at hrf6
                  rw [← hs6] at hin6
                  have HS := Lib.hid (show InAt w6 g s6 ∧ RefAt w6 gm s6 ∧ Below w.heap.size w w6 from ⟨hin6, hrf6, H5.out.2.2.grown hg6 (by omega) (fun k hk => by cases hk; exact hgm0)⟩)
                  have HW6 := Lib.hid hw6
                  clear hs0 hfe hs6 hw6 hg6 hin6 hrf6
                  go_upto_region 29 with (fail)
                  rw [← HW6.out]
                case' neg =>
                  have hs0' : ((s.2 : Int) == 0) = false := by simp; omega
                  have hfe : failR (1 + r) s = s := by rw [failR, if_neg hs0]
                  obtain ⟨s6, hs6⟩ : ∃ s6, s6 = s := ⟨_, rfl⟩
                  obtain ⟨w6, hw6⟩ : ∃ w6, w6 = w5 := ⟨_, rfl⟩
                  have HS := Lib.hid (show InAt w6 g s6 ∧ RefAt w6 gm s6 ∧ Below w.heap.size w w6 from ⟨by rw [hw6, hs6]; have := H5.out.1; rw [hfe] at this; exact this, by rw [hw6, hs6]; exact H5.out.2.1, by rw [hw6]; exact H5.out.2.2⟩)
                  have HW6 := Lib.hid hw6
                  clear hs0 hfe hs6 hw6
                  go_upto_region 29 with (fail)
                  rw [← HW6.out]
              case' inr.inr.inr =>
                clear hq
                have d0 := HA.out.2.1.c0
                have hsl : (ByteArray.mk s.1.toArray).size = s.1.length := by rw [ByteArray.size]; simp
                go_wp2_with fail
                refine seq_start (by kernel_rfl) ?_
                refine seq_take 0 (v := ?v0_16) rfl (by kernel_rfl) (fun _ _ _ h => h) (by rfl) (fun w' hw' => ?hy0_16) ?_
                case hy0_16 => go_simp; try with_reducible rfl
                try simp only [List.getElem_toArray, List.getElem_cons_succ, List.getElem_cons_zero, Act.put, List.setIfInBounds_toArray, List.set_cons_zero, List.set_cons_succ]
                refine seq_take 2 (v := ?v2_17) rfl (by kernel_rfl) (fun _ _ _ h => h) (by rfl) (fun w' hw' => ?hy2_17) ?_
                case hy2_17 => go_simp; try with_reducible rfl
                try simp only [List.getElem_toArray, List.getElem_cons_succ, List.getElem_cons_zero, Act.put, List.setIfInBounds_toArray, List.set_cons_zero, List.set_cons_succ]
                refine seq_take 3 (v := ?v3_18) rfl (by kernel_rfl) (fun _ _ _ h => h) (by rfl) (fun w' hw' => ?hy3_18) ?_
                case hy3_18 => go_simp; try with_reducible rfl
                try simp only [List.getElem_toArray, List.getElem_cons_succ, List.getElem_cons_zero, Act.put, List.setIfInBounds_toArray, List.set_cons_zero, List.set_cons_succ]
                refine seq_take 4 (v := ?v4_19) rfl (by kernel_rfl) (fun _ _ _ h => h) (by rfl) (fun w' hw' => ?hy4_19) ?_
                case hy4_19 => go_simp; try with_reducible rfl
                try simp only [List.getElem_toArray, List.getElem_cons_succ, List.getElem_cons_zero, Act.put, List.setIfInBounds_toArray, List.set_cons_zero, List.set_cons_succ]
                refine seq_take 5 rfl (by kernel_rfl) (fun _ _ _ h => h) (by rfl) (seq_lds rfl rfl (HA.out.2.1.c0)) ?_
                try simp only [List.getElem_toArray, List.getElem_cons_succ, List.getElem_cons_zero, Act.put, List.setIfInBounds_toArray, List.set_cons_zero, List.set_cons_succ]
                refine seq_take 6 (v := ?v6_20) rfl (by kernel_rfl) (fun _ _ _ h => h) (by rfl) (fun w' hw' => ?hy6_20) ?_
                case hy6_20 => go_simp; try with_reducible rfl
                try simp only [List.getElem_toArray, List.getElem_cons_succ, List.getElem_cons_zero, Act.put, List.setIfInBounds_toArray, List.set_cons_zero, List.set_cons_succ]
                refine seq_run 1 rfl (by kernel_rfl) (by rfl) (fun KK hKK => ?_)
                go_wp2_with fail
                refine (left_any g s wa.drew HA.out.1).mono ?_
                rintro x w5 ⟨rfl, rfl⟩
                go_wp2_with fail
                refine ⟨Below.refl _ _, ?_⟩
                refine seq_take 7 (v := ?v7_21) rfl (by kernel_rfl) (fun _ _ _ h => h) (by rfl) (fun w' hw' => ?hy7_21) ?_
                case hy7_21 => go_simp; try with_reducible rfl
                try simp only [List.getElem_toArray, List.getElem_cons_succ, List.getElem_cons_zero, Act.put, List.setIfInBounds_toArray, List.set_cons_zero, List.set_cons_succ]
                refine seq_done (by kernel_rfl) ?_
                obtain ⟨s6, hs6⟩ : ∃ s6, s6 = s := ⟨_, rfl⟩
                obtain ⟨w6, hw6⟩ : ∃ w6, w6 = wa.drew := ⟨_, rfl⟩
                have HS := Lib.hid (show InAt w6 g s6 ∧ RefAt w6 gm s6 ∧ Below w.heap.size w w6 from ⟨by rw [hw6, hs6]; exact HA.out.1, by rw [hw6, hs6]; exact HA.out.2.1, by rw [hw6]; exact HA.out.2.2.drew⟩)
                have HW6 := Lib.hid hw6
                clear hs6 hw6 d0
                go_upto_region 29 with (fail)
                rw [← HW6.out]
              all_goals
                go_wp2_with fail
                refine seq_start (by kernel_rfl) ?_
                refine seq_take 0 (v := ?v0_22) rfl (by kernel_rfl) (fun _ _ _ h => h) (by rfl) (fun w' hw' => ?hy0_22) ?_
                case hy0_22 => go_simp; try with_reducible rfl
                try simp only [List.getElem_toArray, List.getElem_cons_succ, List.getElem_cons_zero, Act.put, List.setIfInBounds_toArray, List.set_cons_zero, List.set_cons_succ]
                refine seq_take 2 (v := ?v2_23) rfl (by kernel_rfl) (fun _ _ _ h => h) (by rfl) (fun w' hw' => ?hy2_23) ?_
                case hy2_23 => go_simp; try with_reducible rfl
                try simp only [List.getElem_toArray, List.getElem_cons_succ, List.getElem_cons_zero, Act.put, List.setIfInBounds_toArray, List.set_cons_zero, List.set_cons_succ]
                refine seq_take 3 (v := ?v3_24) rfl (by kernel_rfl) (fun _ _ _ h => h) (by rfl) (fun w' hw' => ?hy3_24) ?_
                case hy3_24 => go_simp; try with_reducible rfl
                try simp only [List.getElem_toArray, List.getElem_cons_succ, List.getElem_cons_zero, Act.put, List.setIfInBounds_toArray, List.set_cons_zero, List.set_cons_succ]
                refine seq_take 4 (v := ?v4_25) rfl (by kernel_rfl) (fun _ _ _ h => h) (by rfl) (fun w' hw' => ?hy4_25) ?_
                case hy4_25 => go_simp; try with_reducible rfl
                try simp only [List.getElem_toArray, List.getElem_cons_succ, List.getElem_cons_zero, Act.put, List.setIfInBounds_toArray, List.set_cons_zero, List.set_cons_succ]
                refine seq_take 5 rfl (by kernel_rfl) (fun _ _ _ h => h) (by rfl) (seq_lde rfl rfl (HS.out.2.1.c1)) ?_
                try simp only [List.getElem_toArray, List.getElem_cons_succ, List.getElem_cons_zero, Act.put, List.setIfInBounds_toArray, List.set_cons_zero, List.set_cons_succ]
                refine seq_run 1 rfl (by kernel_rfl) (by rfl) (fun KK hKK => ?_)
                go_wp2_with fail
                refine (err_any g s6 w6.drew HS.out.1).mono ?_
                rintro x w7 ⟨rfl, rfl⟩
                go_wp2_with fail
                refine ⟨Below.refl _ _, ?_⟩
                refine seq_take 6 (v := ?v6_26) rfl (by kernel_rfl) (fun _ _ _ h => h) (by rfl) (fun w' hw' => ?hy6_26) ?_
                case hy6_26 => go_simp; try with_reducible rfl
                try simp only [List.getElem_toArray, List.getElem_cons_succ, List.getElem_cons_zero, Act.put, List.setIfInBounds_toArray, List.set_cons_zero, List.set_cons_succ]
                refine seq_done (by kernel_rfl) ?_
                go_wp2_with fail
                go_roundw
                case rel => exact ⟨k + 1, s6, by omega, by omega, by simp, HS.out.1, HS.out.2.1, HS.out.2.2.drew⟩
                case measure => simp [intOf]; omega
            · have HI := Lib.hid (And.intro hin (And.intro hrf hbel))
              clear hin hrf hbel hra
              have hg0 : w.heap.size ≤ g := by omega
              have hgm0 : w.heap.size ≤ gm := by omega
              by_cases hkT : k < T.length
              case' pos => have h60 : k = 60 := by omega
              case' neg => have h60 : k = T.length := by omega
              all_goals
                subst h60
                go_wp2_with fail
                refine seqx_start (fun i => i = g ∨ i = gm) (by kernel_rfl) ?_
                refine seqx_take 0 (v := ?v0_27) rfl (by kernel_rfl) (fun _ _ _ h => h) (by rfl) (fun w' hw' => ?hy0_27) ?_
                case hy0_27 => go_simp; try with_reducible rfl
                try simp only [List.getElem_toArray, List.getElem_cons_succ, List.getElem_cons_zero, Act.put, List.setIfInBounds_toArray, List.set_cons_zero, List.set_cons_succ]
                refine seqx_take 2 (v := ?v2_28) rfl (by kernel_rfl) (fun _ _ _ h => h) (by rfl) (fun w' hw' => ?hy2_28) ?_
                case hy2_28 => go_simp; try with_reducible rfl
                try simp only [List.getElem_toArray, List.getElem_cons_succ, List.getElem_cons_zero, Act.put, List.setIfInBounds_toArray, List.set_cons_zero, List.set_cons_succ]
                refine seqx_run 1 rfl (by kernel_rfl) (by rfl) (fun KK hKK => ?_)
                go_wp2_with fail
                refine (end_any g s wr.drew HI.out.1).mono ?_
                rintro x w5 ⟨rfl, hin5, hgr5⟩
                have hrf5 := (show RefAt wr.drew gm s from HI.out.2.1).kept hgr5 (Ne.symm hgne)
                have hsz5 := hgr5.size
                have H5 := Lib.hid (And.intro hin5 (And.intro hrf5 (And.intro (HI.out.2.2.drew.grown hgr5 (by simp; omega) (fun k hk => by cases hk; exact hg0)) hgr5)))
                simp only [World.size_drew] at hsz5
                clear hin5 hrf5 hgr5
                generalize hR : endR s = s6 at *
                have HR := Lib.hid hR
                clear hR
                go_wp2_with fail
                refine ⟨Keeps.of_grown H5.out.2.2.2 (.inl rfl), ?_⟩
                refine seqx_run 3 rfl (by kernel_rfl) (by rfl) (fun KK hKK => ?_)
                go_wp2_with fail
                refine (rend_any gm s w5 H5.out.2.1).mono ?_
                rintro x w6 ⟨rfl, hrf6, hgr6⟩
                have hin6 := H5.out.1.kept hgr6 hgne (InAt.ref_at H5.out.2.1 H5.out.1)
                have HS := Lib.hid (show InAt w6 g s6 ∧ RefAt w6 gm s6 ∧ Below w.heap.size w w6 from ⟨hin6, by rw [HR.out] at hrf6; exact hrf6, H5.out.2.2.1.grown hgr6 (by omega) (fun k hk => by cases hk; exact hgm0)⟩)
                have HG6 := Lib.hid hgr6
                rw [HR.out]
                clear hrf6 hin6 hgr6
                go_wp2_with fail
                refine ⟨Keeps.of_grown HG6.out (.inr rfl), ?_⟩
                refine seqx_take 4 (v := ?v4_29) rfl (by kernel_rfl) (fun _ _ _ h => h) (by rfl) (fun w' hw' => ?hy4_29) ?_
                case hy4_29 => go_simp; try with_reducible rfl
                try simp only [List.getElem_toArray, List.getElem_cons_succ, List.getElem_cons_zero, Act.put, List.setIfInBounds_toArray, List.set_cons_zero, List.set_cons_succ]
                refine seqx_take 5 (v := ?v5_30) rfl (by kernel_rfl) (fun _ _ _ h => h) (by rfl) (fun w' hw' => ?hy5_30) ?_
                case hy5_30 => go_simp; try with_reducible rfl
                try simp only [List.getElem_toArray, List.getElem_cons_succ, List.getElem_cons_zero, Act.put, List.setIfInBounds_toArray, List.set_cons_zero, List.set_cons_succ]
                refine seqx_take 6 (v := ?v6_31) rfl (by kernel_rfl) (fun _ _ _ h => h) (by rfl) (fun w' hw' => ?hy6_31) ?_
                case hy6_31 => go_simp; try with_reducible rfl
                try simp only [List.getElem_toArray, List.getElem_cons_succ, List.getElem_cons_zero, Act.put, List.setIfInBounds_toArray, List.set_cons_zero, List.set_cons_succ]
                refine seqx_take 8 (v := ?v8_32) rfl (by kernel_rfl) (fun _ _ _ h => h) (by rfl) (fun w' hw' => ?hy8_32) ?_
                case hy8_32 => go_simp; try with_reducible rfl
                try simp only [List.getElem_toArray, List.getElem_cons_succ, List.getElem_cons_zero, Act.put, List.setIfInBounds_toArray, List.set_cons_zero, List.set_cons_succ]
                refine seqx_take 9 (v := ?v9_33) rfl (by kernel_rfl) (fun _ _ _ h => h) (by rfl) (fun w' hw' => ?hy9_33) ?_
                case hy9_33 => go_simp; try with_reducible rfl
                try simp only [List.getElem_toArray, List.getElem_cons_succ, List.getElem_cons_zero, Act.put, List.setIfInBounds_toArray, List.set_cons_zero, List.set_cons_succ]
                refine seqx_take 10 (v := ?v10_34) rfl (by kernel_rfl) (fun _ _ _ h => h) (by rfl) (fun w' hw' => ?hy10_34) ?_
                case hy10_34 => go_simp; try with_reducible rfl
                try simp only [List.getElem_toArray, List.getElem_cons_succ, List.getElem_cons_zero, Act.put, List.setIfInBounds_toArray, List.set_cons_zero, List.set_cons_succ]
                refine seqx_narrow (fun _ => False) (fun _ h => h.elim) ?_
                refine seqx_take 11 rfl (by kernel_rfl) (fun _ _ _ h => h) (by rfl) (fun w' hw' => (seq_lde rfl rfl (keeps_cell hw' (by (intro h; first | exact h | (simp at h; omega) | omega)) (HS.out.2.1.c1))) w' (Below.refl _ _)) ?_
                try simp only [List.getElem_toArray, List.getElem_cons_succ, List.getElem_cons_zero, Act.put, List.setIfInBounds_toArray, List.set_cons_zero, List.set_cons_succ]
                refine seqx_run 7 rfl (by kernel_rfl) (by rfl) (fun KK hKK => ?_)
                go_wp2_with fail
                refine (err_any g s6 w6 HS.out.1).mono ?_
                rintro x w7 ⟨rfl, rfl⟩
                go_wp2_with fail
                refine ⟨Keeps.refl _ _, ?_⟩
                refine seqx_take 12 (v := ?v12_35) rfl (by kernel_rfl) (fun _ _ _ h => h) (by rfl) (fun w' hw' => ?hy12_35) ?_
                case hy12_35 => go_simp; try with_reducible rfl
                try simp only [List.getElem_toArray, List.getElem_cons_succ, List.getElem_cons_zero, Act.put, List.setIfInBounds_toArray, List.set_cons_zero, List.set_cons_succ]
                refine seqx_take 13 (v := ?v13_36) rfl (by kernel_rfl) (fun _ _ _ h => h) (by rfl) (fun w' hw' => ?hy13_36) ?_
                case hy13_36 => go_simp; try with_reducible rfl
                try simp only [List.getElem_toArray, List.getElem_cons_succ, List.getElem_cons_zero, Act.put, List.setIfInBounds_toArray, List.set_cons_zero, List.set_cons_succ]
                refine seqx_take 14 (v := ?v14_37) rfl (by kernel_rfl) (fun _ _ _ h => h) (by rfl) (fun w' hw' => ?hy14_37) ?_
                case hy14_37 => go_simp; try with_reducible rfl
                try simp only [List.getElem_toArray, List.getElem_cons_succ, List.getElem_cons_zero, Act.put, List.setIfInBounds_toArray, List.set_cons_zero, List.set_cons_succ]
                refine seqx_done (by kernel_rfl) ?_
                go_wp2_with fail
                go_ret
                exact ⟨by simp, HS.out.2.2⟩

set_option maxRecDepth 100000 in
theorem lifted (os : Os) (started : os.Started) (H : Type) (enc : TypeId × Value → H) :
    ReturnsInHanded {} Try.checked os 7 .any (Rows.wireReadsSpec.pre6 enc Try.prog Try.f7 Rows.wireReadsRow.domain false) (Rows.wireReadsSpec.post enc Try.prog Try.f7 false true false false) := by
  refine returnsInHanded_of_change (C := Try.checked) own started (by kernel_rfl) Try.func7
    (ChangeSpec.witness6 (enc := enc) (C := Try.checked) false ⟨#[], #[.slice none 0 0, .slice none 0 0], []⟩ 8 (by kernel_rfl) (by kernel_rfl) (by kernel_rfl) (by kernel_rfl)) ?_
  intro W base args ds gs before hval0 hW hcnd _
  have hval : ∀ (j : Nat) t v, Try.f7.params[j]? = some t → args[j]? = some v → Value.okWide Try.prog W .any base t v := hval0
  have hW' := hW
  obtain ⟨p, q, hA0, hV, rfl, hfz, hnd⟩ := hW
  have hA : DataW.TrodAll enc Try.prog W 0 (fun _ => true) true Try.f7.params.toList args.toList ds p := hA0
  rw [Try.params7] at hA hval
  obtain ⟨v0, v1, d0, d1, p0, p1, rfl, rfl, rfl, h0, h1⟩ := trodAll_two hA
  obtain ⟨rfl, rfl⟩ := trodVars_none hV
  obtain ⟨ao, cap, l, rfl, hc, hm, hat⟩ := open_bytes Try.underlying23 Try.underlying5 cellsU8 (hval 0 23 v0 rfl rfl) h0
  obtain ⟨ro, rcap, rows, rfl, hrc, hrm, htt, hrows⟩ := open_rows Try.underlying41 (k := 3) (by kernel_rfl) (by decide) (hval 1 41 v1 rfl rfl) h1
  obtain ⟨T, rfl, -⟩ := rows_map (α := Int × Int × Int) (p := fun _ => True) (f := fun t => [.int .i64 t.1, .int .i64 t.2.1, .int .i64 t.2.2]) (rows := rows) (by
    intro r hr
    obtain ⟨hl, n, y, hy⟩ := hrows r hr
    obtain ⟨m0, y0, h0⟩ := row_field Try.underlying48 hy 0 _ rfl
    obtain ⟨m1, y1, h1⟩ := row_field Try.underlying48 hy 1 _ rfl
    obtain ⟨m2, y2, h2⟩ := row_field Try.underlying48 hy 2 _ rfl
    obtain ⟨z0, e0, _⟩ := int_range Try.underlying3 h0
    obtain ⟨z1, e1, _⟩ := int_range Try.underlying3 h1
    obtain ⟨z2, e2, _⟩ := int_range Try.underlying3 h2
    match r, hl with
    | [x0, x1, x2], _ =>
      have hc1 : Try.prog.cellsOf 3 = 1 := by kernel_rfl
      simp [hc1] at e0 e1 e2
      exact ⟨(z0, z1, z2), by simp [e0, e1, e2], trivial⟩)
  rw [List.length_map] at *
  refine (walk ao ro l T cap rcap hc (by omega) W hat htt).mono fun e W' ⟨he, hb⟩ => ?_
  subst he
  exact ⟨_, rfl, post_law laidOut rfl rfl Try.underlying4 readable rfl rfl rfl hW' hb⟩

theorem proved : Rows.WireReadsSaid :=
  OpenClaim.holds_of_wide 7 Try.f7 rfl rfl rfl rfl rfl rfl rfl ⟨rfl, rfl, rfl, rfl, rfl⟩ rfl rfl rfl rfl rfl (by kernel_rfl) Try.func7 (by kernel_rfl)
    (of_decide_eq_true (by kernel_rfl)) (by unfold Func.isWrapper; first | (rw [if_pos (by decide +kernel)]; kernel_rfl) | (rw [if_neg (by decide +kernel)]; exact ⟨rfl, rfl⟩))
    (fun os started H enc _ => lifted os started H enc)
end Go.Proofs.Ytmnaomdnjaiggaa.wireReads
