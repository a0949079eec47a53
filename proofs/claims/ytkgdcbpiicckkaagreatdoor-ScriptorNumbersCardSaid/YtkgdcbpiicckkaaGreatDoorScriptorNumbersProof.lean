/- THE LAW ScriptorNumbers: numbers and floats that are written as digits, as bytes, and closed with a sum, come back; with one bit turned they don't. -/
import Derived.Test.YtkgdcbpiicckkaaGreatDoorRows
import Derived.Test.YtkgdcbpiicckkaaGreatDoorNumQ
import Derived.Test.YtkgdcbpiicckkaaGreatDoorKeeps
import Derived.Test.YtkgdcbpiicckkaaGreatDoorWalIn2
import Derived.Test.YtkgdcbpiicckkaaGreatDoorLaw2
import Derived.Test.YtkgdcbpiicckkaaGreatDoorNumTab
namespace Go.Proofs.YtkgdcbpiicckkaaGreatDoor.scriptorNumbers
set_option linter.unusedSimpArgs false
set_option linter.unusedVariables false
open Go.ChangeShapes Go.WideShapes Go.ChangeAt Go.RowKit

theorem str_list (u : List UInt8) (hu : u.length ≤ 1000000) (w : World) : Calls Tryz.prog 4 #[.string ⟨u.toArray⟩] w (NewBytes w (strB u)) := by
  have hs : (ByteArray.mk u.toArray).size = u.length := by rw [ByteArray.size]; simp
  have h := str_any ⟨u.toArray⟩ (by omega) w
  rw [hs] at h
  exact h
theorem take_snoc' {α : Type} (l : List α) (k : Nat) (h : k < l.length) : l.take (k + 1) = l.take k ++ [l[k]] := List.take_succ_eq_append_getElem h
theorem opens_close (L : List UInt8) : opens (L ++ four (crc L)) = some L := by
  have h : (L ++ four (crc L)).length - 4 = L.length := by rw [List.length_append, four_len]; omega
  rw [opens, h, if_pos ⟨by rw [List.length_append, four_len]; omega, by simp⟩]
  simp
theorem shl_one (j : Nat) (h : j < 8) : (2 ^ j : Int) % 256 = ((2 ^ j : Nat) : Int) := by
  have : ∀ j, j < 8 → (2 ^ j : Int) % 256 = ((2 ^ j : Nat) : Int) := by decide
  exact this j h
theorem cut_mod0 (c : Int) (n : Nat) (h0 : 0 < n) (hn : n ≤ 1000000) : ∃ k : Nat, k < n ∧ wrap64 ((IntKind.u64.wrap c).tmod (n : Int)) = (k : Int) := by
  have h0 : 0 ≤ IntKind.u64.wrap c := by rw [IntKind.wrap_u64]; omega
  have h1 := Int.emod_nonneg (IntKind.u64.wrap c) (show (n : Int) ≠ 0 by omega)
  have h2 := Int.emod_lt_of_pos (IntKind.u64.wrap c) (show 0 < (n : Int) by omega)
  rw [Int.tmod_eq_emod_of_nonneg h0]
  refine ⟨(IntKind.u64.wrap c % (n : Int)).toNat, by omega, ?_⟩
  unfold wrap64
  omega
theorem seq_ldU {o : Oper} {x : Operand} {a : Act} {w : World} (ho : o.op = .load 27 x) {ad : Addr} {v : Value} (hx : a.eval x = .pointer (some ad)) (hc : w.cell? ad = some v) :
    ∀ w', Below w.heap.size w w' → (execOp a.eval o).run Tryz.prog w' = .ok (.value v) w' := by
  intro w' hb
  have hc' := (World.cell?_of_block (hb.block ad.block (World.block_lt_of_cell? (a := ad) w hc))).trans hc
  have hu := Tryz.underlying27
  unfold execOp
  simp only [ho, hx]
  go_simp
theorem ptab_below {w w' : World} (h : PTab w) (hb : Below w.heap.size w w') : PTab w' := by
  unfold PTab Lib.TabIs at h ⊢
  have hg : Tryz.prog.globalNamed "internal/strconv.uint64pow10" = some 2 := by kernel_rfl
  unfold World.var? at h ⊢
  simp only [hg, Option.bind_some] at h ⊢
  have hlt : 2 < w.heap.size := by
    rcases Nat.lt_or_ge 2 w.heap.size with h2 | h2
    · exact h2
    · rw [Array.getElem?_eq_none h2] at h
      simp at h
  rw [hb.block 2 hlt]
  exact h
theorem dtab_below {w w' : World} (h : DTab w) (hb : Below w.heap.size w w') : DTab w' :=
  (World.cell?_of_block (a := ⟨7, 15, none⟩) (hb.block 7 (World.block_lt_of_cell? (a := ⟨7, 15, none⟩) w h))).trans h
set_option maxRecDepth 100000 in
set_option maxHeartbeats 4000000 in
theorem walk {w : World} (no fo : Option Addr) (l f : List Int) (ncap fcap : Nat) (bit : Int) (hc : l.length ≤ ncap) (hfc : f.length ≤ fcap) (hz : ∀ z ∈ f, 0 ≤ z ∧ z < 18446744073709551616) (hat : At w no (l.map (Value.int .i64))) (hft : At w fo (f.map (Value.int .u64))) (ht : Tab w) (hp : PTab w) (hd : DTab w) :
    Calls Tryz.prog 3 #[.slice no l.length ncap, .slice fo f.length fcap, .int .i64 bit] w (Says w (.bool true)) := by
  -- CUT W
  have hmin : min (l.length : Int) 20 = ((l.take 20).length : Int) := by simp; omega
  have hmint : min (f.length : Int) 20 = ((f.take 20).length : Int) := by simp; omega
  have hN : (l.take 20).length ≤ 20 := by simp; omega
  have hT : (f.take 20).length ≤ 20 := by simp; omega
  have hNc : (l.take 20).length ≤ ncap := by simp; omega
  have hTc : (f.take 20).length ≤ fcap := by simp; omega
  have hat' : At w no ((l.take 20).map (Value.int .i64)) := by rw [List.map_take]; exact hat.take 20
  have hft' : At w fo ((f.take 20).map (Value.int .u64)) := by rw [List.map_take]; exact hft.take 20
  have hz' : ∀ z ∈ f.take 20, 0 ≤ z ∧ z < 18446744073709551616 := fun z h => hz z (List.mem_of_mem_take h)
  have HMIN := Lib.hid (And.intro hmin hmint)
  have HAT := Lib.hid (And.intro hat' hft')
  have HZ := Lib.hid hz'
  have HT := Lib.hid (And.intro ht (And.intro hp hd))
  clear hat hft hmin hmint hat' hft' hz hz' ht hp hd
  generalize l.take 20 = N at *
  generalize f.take 20 = F at *
  go_enter Tryz.func3, Tryz.ntmps3
  go_wp2_with fail
  refine seq_start (by kernel_rfl) ?_
  refine seq_take 0 (v := ?_) rfl (by kernel_rfl) (fun _ _ _ h => h) (by rfl) (fun w' hw' => ?_) ?_
  rotate_left
  · go_simp; try with_reducible rfl
  try simp only [List.getElem_toArray, List.getElem_cons_succ, List.getElem_cons_zero, Act.put, List.setIfInBounds_toArray, List.set_cons_zero, List.set_cons_succ]
  refine seq_take 1 (v := ?_) rfl (by kernel_rfl) (fun _ _ _ h => h) (by rfl) (fun w' hw' => ?_) ?_
  rotate_left
  · go_simp; try with_reducible rfl
  try simp only [List.getElem_toArray, List.getElem_cons_succ, List.getElem_cons_zero, Act.put, List.setIfInBounds_toArray, List.set_cons_zero, List.set_cons_succ]
  refine seq_take 2 (v := ?_) rfl (by kernel_rfl) (fun _ _ _ h => h) (by rfl) (fun w' hw' => ?_) ?_
  rotate_left
  · go_simp; try with_reducible rfl
  try simp only [List.getElem_toArray, List.getElem_cons_succ, List.getElem_cons_zero, Act.put, List.setIfInBounds_toArray, List.set_cons_zero, List.set_cons_succ]
  refine seq_take 3 rfl (by kernel_rfl) (fun _ _ _ h => h) (by rfl) (yields_min2 rfl rfl rfl (HMIN.out.1)) ?_
  try simp only [List.getElem_toArray, List.getElem_cons_succ, List.getElem_cons_zero, Act.put, List.setIfInBounds_toArray, List.set_cons_zero, List.set_cons_succ]
  refine seq_take 4 rfl (by kernel_rfl) (fun _ _ _ h => h) (by rfl) (yields_slice_hi rfl (by kernel_rfl) (by kernel_rfl) rfl rfl (hNc)) ?_
  try simp only [List.getElem_toArray, List.getElem_cons_succ, List.getElem_cons_zero, Act.put, List.setIfInBounds_toArray, List.set_cons_zero, List.set_cons_succ]
  refine seq_take 5 (v := ?_) rfl (by kernel_rfl) (fun _ _ _ h => h) (by rfl) (fun w' hw' => ?_) ?_
  rotate_left
  · go_simp; try with_reducible rfl
  try simp only [List.getElem_toArray, List.getElem_cons_succ, List.getElem_cons_zero, Act.put, List.setIfInBounds_toArray, List.set_cons_zero, List.set_cons_succ]
  refine seq_take 6 (v := ?_) rfl (by kernel_rfl) (fun _ _ _ h => h) (by rfl) (fun w' hw' => ?_) ?_
  rotate_left
  · go_simp; try with_reducible rfl
  try simp only [List.getElem_toArray, List.getElem_cons_succ, List.getElem_cons_zero, Act.put, List.setIfInBounds_toArray, List.set_cons_zero, List.set_cons_succ]
  refine seq_take 7 (v := ?_) rfl (by kernel_rfl) (fun _ _ _ h => h) (by rfl) (fun w' hw' => ?_) ?_
  rotate_left
  · go_simp; try with_reducible rfl
  try simp only [List.getElem_toArray, List.getElem_cons_succ, List.getElem_cons_zero, Act.put, List.setIfInBounds_toArray, List.set_cons_zero, List.set_cons_succ]
  refine seq_take 8 rfl (by kernel_rfl) (fun _ _ _ h => h) (by rfl) (yields_min2 rfl rfl rfl (HMIN.out.2)) ?_
  try simp only [List.getElem_toArray, List.getElem_cons_succ, List.getElem_cons_zero, Act.put, List.setIfInBounds_toArray, List.set_cons_zero, List.set_cons_succ]
  refine seq_take 9 rfl (by kernel_rfl) (fun _ _ _ h => h) (by rfl) (yields_slice_hi rfl (by kernel_rfl) (by kernel_rfl) rfl rfl (hTc)) ?_
  try simp only [List.getElem_toArray, List.getElem_cons_succ, List.getElem_cons_zero, Act.put, List.setIfInBounds_toArray, List.set_cons_zero, List.set_cons_succ]
  refine seq_take 10 (v := ?_) rfl (by kernel_rfl) (fun _ _ _ h => h) (by rfl) (fun w' hw' => ?_) ?_
  rotate_left
  · go_simp; try with_reducible rfl
  try simp only [List.getElem_toArray, List.getElem_cons_succ, List.getElem_cons_zero, Act.put, List.setIfInBounds_toArray, List.set_cons_zero, List.set_cons_succ]
  refine seq_take 11 (v := ?_) rfl (by kernel_rfl) (fun _ _ _ h => h) (by rfl) (fun w' hw' => ?_) ?_
  rotate_left
  · go_simp; try with_reducible rfl
  try simp only [List.getElem_toArray, List.getElem_cons_succ, List.getElem_cons_zero, Act.put, List.setIfInBounds_toArray, List.set_cons_zero, List.set_cons_succ]
  refine seq_done (by kernel_rfl) ?_
  go_wp2_with fail
  go_loopw [7, 8] (fun v j wr => ∃ (i : Nat) (X : List UInt8) (bo : Option Addr) (bc : Nat), i ≤ N.length ∧ j = .int .i64 (i : Int) ∧ X = strsB ((N.map numT).take i) ∧ v = .slice bo X.length bc ∧ wr.ownsRow w.heap.size 5 1 (.slice bo X.length bc) X.length (bytesV X) ∧ Below w.heap.size w wr) (fun _ j _ => N.length - (intOf j).toNat)
  case atStart => exact ⟨0, [], none, 0, by omega, rfl, rfl, rfl, World.ownsRow_nil _ _ _ _, (Below.refl _ _).drew⟩
  case round =>
    obtain ⟨i, X, bo, bc, hi, rfl, hX, rfl, hown, hbel⟩ := hrel
    have hXl : X.length ≤ 4200 := by
      rw [hX]
      have := strsB_len ((N.map numT).take i) (fun z h => by
        obtain ⟨n, _, rfl⟩ := List.mem_map.1 (List.mem_of_mem_take h)
        have := numT_len n; omega)
      simp only [List.length_take, List.length_map] at this
      omega
    have hsz := hbel.size
    have H := Lib.hid (And.intro hX (And.intro hown hbel))
    clear hX hown hbel
    by_cases hlt : i < N.length
    · skip
      -- CUT A1
      obtain ⟨b, o, rfl, hcell⟩ := At.exv (HAT.out.1.below H.out.2.2) i (by simpa using hlt)
      rw [List.getElem_map] at hcell
      have hS : X ++ strB (numT N[i]) = strsB ((N.map numT).take (i + 1)) := by
        rw [take_snoc' (N.map numT) i (by simpa using hlt), strsB_snoc, H.out.1, List.getElem_map]
      generalize N[i] = n at *
      have HS := Lib.hid hS
      clear hS
      go_wp2_with fail
      refine (text_any n wr (ptab_below HT.out.2.1 H.out.2.2)).mono ?_
      rintro e w1 ⟨rfl, hb1⟩
      have hnl := numT_len n
      have hnt : Lib.itoa (wrapP n) = numT n := rfl
      rw [hnt]
      generalize numT n = t at *
      have H1 := Lib.hid (And.intro (owns_below H.out.2.1 hb1) (H.out.2.2.trans (hb1.mono hsz)))
      have hsz1 := hb1.size
      clear hb1 hcell hnt
      go_wp2_with fail
      refine (str_list t (by omega) w1).mono ?_
      rintro e w2 ⟨eo, ec, rfl, hown2, hb2⟩
      have hsz2 := hb2.size
      have htl := strB_len t (by omega)
      have H2 := Lib.hid (And.intro (owns_below H1.out.1 hb2) (And.intro (At.own hown2) (H1.out.2.trans (hb2.mono (by omega)))))
      clear hown2 hb2
      go_wp2_with (at_builtin; refine app_bytes rfl _ _ rfl w.heap.size bo bc X _ rfl H2.out.1 eo _ ec _ rfl H2.out.2.1 rfl (by omega) (by omega) ?_; rintro co capc w3 ⟨q1, q2, q3⟩)
      go_roundw
      case rel => exact ⟨i + 1, X ++ strB t, co, capc, by omega, by simp, HS.out, by simp, q1, H2.out.2.2.trans (below_grown H2.out.1 (by omega) q2)⟩
      case measure => simp [intOf]; omega
      -- END A1
    · obtain rfl : i = N.length := by omega
      have hX := H.out.1
      rw [List.take_of_length_le (by simp)] at hX
      have HX := Lib.hid hX
      clear hX
      go_wp2_with fail
      go_loopw [7, 9] (fun v j wr => ∃ (i : Nat) (Y : List UInt8) (bo : Option Addr) (bc : Nat), i ≤ F.length ∧ j = .int .i64 (i : Int) ∧ Y = X ++ strsB ((F.map fltT).take i) ∧ v = .slice bo Y.length bc ∧ wr.ownsRow w.heap.size 5 1 (.slice bo Y.length bc) Y.length (bytesV Y) ∧ Below w.heap.size w wr) (fun _ j _ => F.length - (intOf j).toNat)
      case atStart => exact ⟨0, X, bo, bc, by omega, rfl, by simp [strsB], rfl, H.out.2.1, H.out.2.2⟩
      case round =>
        obtain ⟨i, Y, bo, bc, hi, rfl, hY, rfl, hown, hbel⟩ := hrel
        have hYl : Y.length ≤ 8400 := by
          rw [hY, List.length_append]
          have := strsB_len ((F.map fltT).take i) (fun z h => by
            obtain ⟨n, hn, rfl⟩ := List.mem_map.1 (List.mem_of_mem_take h)
            have := fltT_len n (HZ.out n hn); omega)
          simp only [List.length_take, List.length_map] at this
          omega
        have hsz := hbel.size
        have H := Lib.hid (And.intro hY (And.intro hown hbel))
        clear hY hown hbel
        by_cases hlt : i < F.length
        · skip
          -- CUT A2
          obtain ⟨b, o, rfl, hcell⟩ := At.exv (HAT.out.2.below H.out.2.2) i (by simpa using hlt)
          rw [List.getElem_map] at hcell
          have hS : Y ++ strB (fltT F[i]) = X ++ strsB ((F.map fltT).take (i + 1)) := by
            rw [take_snoc' (F.map fltT) i (by simpa using hlt), strsB_snoc, H.out.1, List.getElem_map, List.append_assoc]
          have hxr := HZ.out F[i] (List.getElem_mem hlt)
          generalize F[i] = x at *
          have HS := Lib.hid hS
          obtain ⟨m, hm, hm64⟩ := ofM_in x.toNat (by omega)
          have hft : fltT x = bitsL m := by rw [fltT, hm, Int.toNat_natCast]
          rw [hft] at HS
          have HM := Lib.hid (And.intro hm hm64)
          have hbl := bitsL_len m hm64
          clear hS hm hm64 hft hxr
          go_wp2_with fail
          refine (go_any x _).mono ?_
          rintro e w1 ⟨rfl, rfl⟩
          go_wp2_with fail
          refine (of_any x.toNat _).mono ?_
          rintro e w1 ⟨rfl, rfl⟩
          rw [HM.out.1]
          go_wp2_with fail
          refine (bits_any m HM.out.2 wr (dtab_below HT.out.2.2 H.out.2.2)).mono ?_
          rintro e w1 ⟨rfl, hb1⟩
          generalize bitsL m = t at *
          have H1 := Lib.hid (And.intro (owns_below H.out.2.1 hb1) (H.out.2.2.trans (hb1.mono hsz)))
          have hsz1 := hb1.size
          clear hb1 hcell
          go_wp2_with fail
          refine (str_list t (by omega) w1).mono ?_
          rintro e w2 ⟨eo, ec, rfl, hown2, hb2⟩
          have hsz2 := hb2.size
          have htl := strB_len t (by omega)
          have H2 := Lib.hid (And.intro (owns_below H1.out.1 hb2) (And.intro (At.own hown2) (H1.out.2.trans (hb2.mono (by omega)))))
          clear hown2 hb2
          go_wp2_with (at_builtin; refine app_bytes rfl _ _ rfl w.heap.size bo bc Y _ rfl H2.out.1 eo _ ec _ rfl H2.out.2.1 rfl (by omega) (by omega) ?_; rintro co capc w3 ⟨q1, q2, q3⟩)
          go_roundw
          case rel => exact ⟨i + 1, Y ++ strB t, co, capc, by omega, by simp, HS.out, by simp, q1, H2.out.2.2.trans (below_grown H2.out.1 (by omega) q2)⟩
          case measure => simp [intOf]; omega
          -- END A2
        · obtain rfl : i = F.length := by omega
          have hY := H.out.1
          rw [List.take_of_length_le (by simp)] at hY
          have HY := Lib.hid hY
          clear hY
          go_wp2_with fail
          refine (close_any bo Y Y.length bc rfl (by omega) wr (At.own H.out.2.1) (HT.out.1.below H.out.2.2)).mono ?_
          rintro e w2 ⟨co, cc, rfl, hown2, hb2⟩
          have hCl : (Y ++ four (crc Y)).length = Y.length + 4 := by rw [List.length_append, four_len]
          obtain ⟨C, hC, hCL, hop, htu⟩ : ∃ C : List UInt8, Y ++ four (crc Y) = C ∧ C.length = Y.length + 4 ∧ opens C = some Y ∧ ∀ (k : Nat) (hk : k / 8 < C.length), opens (C.set (k / 8) (C[k / 8] ^^^ UInt8.ofNat (2 ^ (k % 8)))) = none := ⟨_, rfl, hCl, opens_close Y, fun k hk => Go.Proofs.YtkgdcbpiicckkaaGreatDoor.turned Y k hk⟩
          rw [hCl] at hown2 ⊢
          rw [hC] at hown2
          have hcc : Y.length + 4 ≤ cc := by
            obtain ⟨_, _, e, h⟩ := owns_form hown2
            cases e; exact h
          have hsz2 := hb2.size
          have hlit : (w2.alloc (.cells #[] 5)).ownsRow w2.heap.size 5 1 (.slice (some ⟨w2.heap.size, 0, none⟩) 0 0) 0 (bytesV []) := World.ownsRow_lit w2 #[] 0 (Nat.le_refl _) (by decide) rfl
          have hatl : At (w2.alloc (.cells #[] 5)) co (bytesV C) := (At.own hown2).below ((Below.refl _ w2).alloc (Nat.le_refl _) _)
          have H2 := Lib.hid (And.intro hown2 (H.out.2.2.trans (hb2.mono hsz)))
          have HLIT := Lib.hid (And.intro hlit hatl)
          have HCL := Lib.hid hCL
          have HOP := Lib.hid (And.intro hop htu)
          clear hown2 hb2 hC hCL hCl hop htu hlit hatl
          go_wp2_with fail
          refine (stands_any w2).mono ?_
          rintro e w3 ⟨rfl, rfl⟩
          go_wp2_with (at_builtin; refine app_bytes rfl _ _ rfl w2.heap.size (some ⟨w2.heap.size, 0, none⟩) 0 [] 0 rfl HLIT.out.1 co (Y.length + 4) cc C rfl HLIT.out.2 HCL.out.symm (by omega) (by simp) ?_; rintro eo ec w4 ⟨q1, q2, q3⟩)
          have q1' : w4.ownsRow w2.heap.size 5 1 (.slice eo (Y.length + 4) ec) (Y.length + 4) (bytesV C) := by
            rw [List.nil_append, HCL.out] at q1
            exact q1
          have hb4 : Below w2.heap.size w2 w4 := ((Below.refl _ w2).alloc (Nat.le_refl _) _).trans (below_grown HLIT.out.1 (by simp) q2)
          have hec : Y.length + 4 ≤ ec := by
            obtain ⟨_, _, e, h⟩ := owns_form q1'
            cases e; exact h
          have hsz4 := hb4.size
          obtain ⟨ge, rfl⟩ : ∃ ge, eo = some ⟨ge, 0, none⟩ := by
            rcases q1'.2 with ⟨h, _⟩ | ⟨g', cap', cur, hv, _⟩
            · simp at h
            · cases hv; exact ⟨g', rfl⟩
          have hge : w2.heap.size ≤ ge := (q1'.lt ge rfl).1
          obtain ⟨k, hk, hke⟩ := cut_mod0 bit (8 * (Y.length + 4)) (by omega) (by omega)
          have hke' : wrap64 ((IntKind.u64.wrap bit).tmod (8 * ((Y.length : Int) + 4))) = (k : Int) := by simpa using hke
          have HK := Lib.hid hke'
          have hq : k / 8 < C.length := by rw [HCL.out]; omega
          have HTU := Lib.hid (HOP.out.2 k hq)
          have hr8 : k % 8 < 8 := Nat.mod_lt _ (by decide)
          have hmod : (k : Int).tmod 8 = ((k % 8 : Nat) : Int) := by rw [Int.tmod_eq_emod_of_nonneg (by omega)]; omega
          have hdiv : (k : Int).tdiv 8 = ((k / 8 : Nat) : Int) := by rw [Int.tdiv_eq_ediv_of_nonneg (by omega)]; omega
          have hq2 : k / 8 < Y.length + 4 := by omega
          have hw2 : IntKind.i64.wrap ((k / 8 : Nat) : Int) = ((k / 8 : Nat) : Int) := by rw [IntKind.wrap_i64]; omega
          have hw3 : IntKind.i64.wrap ((k % 8 : Nat) : Int) = ((k % 8 : Nat) : Int) := by rw [IntKind.wrap_i64]; omega
          have hcell : w4.cell? ⟨ge, k / 8, none⟩ = some (.int .u8 ((C[k / 8]).toNat : Int)) := by
            rw [q1'.cellAt _ (by omega)]
            exact bytesV_get C _ hq
          have hfr : w4.frozen? ⟨ge, k / 8, none⟩ = false := q1'.frozenAt _
          have hst := Lib.hid (fun v => q1'.stored (k / 8) v)
          have e3 := shl_one _ hr8
          have hp : 2 ^ (k % 8) < 256 := Nat.lt_of_lt_of_le (Nat.pow_lt_pow_right (a := 2) (by decide) hr8) (by decide)
          have e4 := bits_xor_u8 (C[k / 8]).toNat (2 ^ (k % 8)) (C[k / 8]).toNat_lt hp
          have HU := Lib.hid (show u8v (C[k / 8] ^^^ UInt8.ofNat (2 ^ (k % 8))) = .int .u8 (((C[k / 8]).toNat ^^^ (2 ^ (k % 8)) : Nat) : Int) by
            rw [u8v, UInt8.toNat_xor, UInt8.toNat_ofNat', Nat.mod_eq_of_lt hp])
          have HB4 := Lib.hid hb4
          have HC2 := Lib.hid hcell
          generalize hQ : k / 8 = q at *
          generalize hR : k % 8 = r at *
          have hq3 : (q : Int) < (Y.length : Int) + 4 := by omega
          clear q1 q1' q2 q3 hb4 hke hke' hQ hR
          generalize 2 ^ r = p at *
          go_wp2_with fail
          rw [HK.out]
          refine seql_start [10] (by kernel_rfl) ?_
          refine seql_take 0 (v := ?_) rfl (by kernel_rfl) (fun _ _ _ h => h) (by rfl) (fun w' hw' => ?_) ?_
          rotate_left
          · go_simp; try with_reducible rfl
          try simp only [List.getElem_toArray, List.getElem_cons_succ, List.getElem_cons_zero, Act.put, List.setIfInBounds_toArray, List.set_cons_zero, List.set_cons_succ]
          refine seql_take 1 (v := ?_) rfl (by kernel_rfl) (fun _ _ _ h => h) (by rfl) (fun w' hw' => ?_) ?_
          rotate_left
          · go_simp; try with_reducible rfl
          try simp only [List.getElem_toArray, List.getElem_cons_succ, List.getElem_cons_zero, Act.put, List.setIfInBounds_toArray, List.set_cons_zero, List.set_cons_succ]
          refine seql_take 2 (v := ?_) rfl (by kernel_rfl) (fun _ _ _ h => h) (by rfl) (fun w' hw' => ?_) ?_
          rotate_left
          · go_simp; try with_reducible rfl
          try simp only [List.getElem_toArray, List.getElem_cons_succ, List.getElem_cons_zero, Act.put, List.setIfInBounds_toArray, List.set_cons_zero, List.set_cons_succ]
          refine seql_take 3 (v := ?_) rfl (by kernel_rfl) (fun _ _ _ h => h) (by rfl) (fun w' hw' => ?_) ?_
          rotate_left
          · go_simp; try with_reducible rfl
          try simp only [List.getElem_toArray, List.getElem_cons_succ, List.getElem_cons_zero, Act.put, List.setIfInBounds_toArray, List.set_cons_zero, List.set_cons_succ]
          refine seql_take 4 rfl (by kernel_rfl) (fun _ _ _ h => h) (by rfl) (seq_ld8 rfl rfl (HC2.out)) ?_
          try simp only [List.getElem_toArray, List.getElem_cons_succ, List.getElem_cons_zero, Act.put, List.setIfInBounds_toArray, List.set_cons_zero, List.set_cons_succ]
          refine seql_take 5 (v := ?_) rfl (by kernel_rfl) (fun _ _ _ h => h) (by rfl) (fun w' hw' => ?_) ?_
          rotate_left
          · go_simp; try with_reducible rfl
          try simp only [List.getElem_toArray, List.getElem_cons_succ, List.getElem_cons_zero, Act.put, List.setIfInBounds_toArray, List.set_cons_zero, List.set_cons_succ]
          refine seql_take 6 (v := ?_) rfl (by kernel_rfl) (fun _ _ _ h => h) (by rfl) (fun w' hw' => ?_) ?_
          rotate_left
          · go_simp; try with_reducible rfl
          try simp only [List.getElem_toArray, List.getElem_cons_succ, List.getElem_cons_zero, Act.put, List.setIfInBounds_toArray, List.set_cons_zero, List.set_cons_succ]
          refine seql_take 7 (v := ?_) rfl (by kernel_rfl) (fun _ _ _ h => h) (by rfl) (fun w' hw' => ?_) ?_
          rotate_left
          · go_simp; try with_reducible rfl
          try simp only [List.getElem_toArray, List.getElem_cons_succ, List.getElem_cons_zero, Act.put, List.setIfInBounds_toArray, List.set_cons_zero, List.set_cons_succ]
          refine seql_take 8 (v := ?_) rfl (by kernel_rfl) (fun _ _ _ h => h) (by rfl) (fun w' hw' => ?_) ?_
          rotate_left
          · go_simp; try with_reducible rfl
          try simp only [List.getElem_toArray, List.getElem_cons_succ, List.getElem_cons_zero, Act.put, List.setIfInBounds_toArray, List.set_cons_zero, List.set_cons_succ]
          refine seql_take 9 (v := ?_) rfl (by kernel_rfl) (fun _ _ _ h => h) (by rfl) (fun w' hw' => ?_) ?_
          rotate_left
          · go_simp; try with_reducible rfl
          try simp only [List.getElem_toArray, List.getElem_cons_succ, List.getElem_cons_zero, Act.put, List.setIfInBounds_toArray, List.set_cons_zero, List.set_cons_succ]
          refine seql_last 10 rfl (by kernel_rfl) (by kernel_rfl) (by rfl) (fun KK hKK => ?_)
          go_wp2_with fail
          refine seql_done (by kernel_rfl) ?_
          go_wp2_with fail
          have hfin := (hst.out (.int .u8 (((C[q]).toNat ^^^ p : Nat) : Int))).1
          rw [← HU.out, ← bytesV_set] at hfin
          have hfin' := owns_below hfin ((Below.refl _ _).drew)
          have hb5 : Below w2.heap.size w2 (w4.setCell ⟨ge, q, none⟩ (u8v (C[q] ^^^ UInt8.ofNat p))).drew := (HB4.out.setCell hge _).drew
          rw [← HU.out]
          have hsd : (C.set q (C[q] ^^^ UInt8.ofNat p)).length = Y.length + 4 := by rw [List.length_set, HCL.out]
          generalize C.set q (C[q] ^^^ UInt8.ofNat p) = D at *
          generalize (w4.setCell ⟨ge, q, none⟩ (u8v (C[q] ^^^ UInt8.ofNat p))).drew = w5 at *
          have HD := Lib.hid (And.intro (At.own hfin') (And.intro (H2.out.2.trans (hb5.mono (by have := H2.out.2.size; omega))) (And.intro ((At.own H2.out.1).below hb5) hsd)))
          have hsz5 : w.heap.size ≤ w5.heap.size := HD.out.2.1.size
          clear hfin hfin' hb5 hst hfr HC2 HB4 hcell e3 e4 HU hsd hp hr8 hmod hw3 hq3 hw2 hdiv hq2
          refine (copen_any co C _ cc HCL.out.symm (by omega) hcc w5 HD.out.2.2.1 (HT.out.1.below HD.out.2.1)).mono ?_
          rintro e w6 ⟨hb6, ho⟩
          rw [HOP.out.1] at ho
          obtain ⟨oo, oc, rfl, hown6⟩ := ho
          have hsz6 := hb6.size
          have H6 := Lib.hid (And.intro hown6 (And.intro (HD.out.2.1.trans (hb6.mono hsz5)) (HD.out.1.below hb6)))
          clear hb6 hown6
          go_wp2_with fail
          refine (copen_any (some ⟨ge, 0, none⟩) D _ ec HD.out.2.2.2.symm (by omega) hec w6 H6.out.2.2 (HT.out.1.below H6.out.2.1)).mono ?_
          rintro e w7 ⟨hb7, ho⟩
          rw [HTU.out] at ho
          obtain rfl := ho
          have hsz7 := hb7.size
          have H7 := Lib.hid (And.intro ((At.own H6.out.1).below hb7) (H6.out.2.1.trans (hb7.mono (by omega))))
          clear hb7
          go_wp2_with fail
          refine (open_any oo Y oc (by omega) w7 H7.out.1).mono ?_
          rintro e w8 ⟨g, rfl, hg, hin, hb8⟩
          have hsz8 := hb8.size
          have H8 := Lib.hid (And.intro hin (H7.out.2.trans (hb8.mono (by omega))))
          have hg0 : w.heap.size ≤ g := by omega
          clear hin hb8
          go_wp2_with fail
          have HYB := Lib.hid (show Y = strsB (N.map numT) ++ strsB (F.map fltT) by rw [HY.out, HX.out])
          go_loopw [18] (fun j wi => ∃ (i : Nat), i ≤ N.length ∧ j = .int .i64 (i : Int) ∧ InAt wi g (strsB ((N.map numT).drop i) ++ strsB (F.map fltT), 0) ∧ Below w.heap.size w wi) (fun j _ => N.length - (intOf j).toNat)
          case atStart => exact ⟨0, by omega, rfl, by rw [List.drop_zero, ← HYB.out]; exact H8.out.1, H8.out.2⟩
          case round =>
            obtain ⟨i, hi2, rfl, hin, hbel⟩ := hrel
            have hszi := hbel.size
            by_cases hlt2 : i < N.length
            · rw [List.drop_eq_getElem_cons (by simpa using hlt2), strsB_cons, List.append_assoc, List.getElem_map] at hin
              have HRD := Lib.hid (strR_ok 20 (numT N[i]) (strsB ((N.map numT).drop (i + 1)) ++ strsB (F.map fltT)) (by have := numT_len N[i]; omega) (by have := numT_len N[i]; omega))
              have HI := Lib.hid (And.intro hin hbel)
              clear hin hbel
              go_wp2_with fail
              refine (istr_any g _ 20 _ HI.out.1).mono ?_
              rintro x w9 ⟨rfl, hin9, hgr⟩
              rw [HRD.out] at hin9 ⊢
              have hb9 : Below w.heap.size w w9 := HI.out.2.grown hgr hszi (fun k hk => by cases hk; exact hg0)
              have HI9 := Lib.hid (And.intro hin9 hb9)
              have hwi := wrapP_in N[i]
              have hsz9 := hb9.size
              clear hin9 hb9 hgr HRD
              go_wp2_with fail
              refine (read_any (wrapP N[i]) (by omega) (by omega) w9).mono ?_
              rintro x w10 ⟨rfl, hb10⟩
              have HI10 := Lib.hid (And.intro (HI9.out.1.below hb10) (HI9.out.2.trans (hb10.mono hsz9)))
              obtain ⟨b, o, rfl, hcell⟩ := At.exv (HAT.out.1.below HI10.out.2) i (by simpa using hlt2)
              rw [List.getElem_map] at hcell
              clear hb10 hwi
              go_wp2_with fail
              refine (wrap_any N[i] w10).mono ?_
              rintro x w11 ⟨rfl, rfl⟩
              go_wp2_with fail
              go_roundw
              case rel => exact ⟨i + 1, by omega, by simp, HI10.out.1, HI10.out.2⟩
              case measure => simp [intOf]; omega
            · obtain rfl : i = N.length := by omega
              rw [List.drop_of_length_le (by simp)] at hin
              have HI := Lib.hid (And.intro (show InAt wr g (strsB (F.map fltT), 0) from hin) hbel)
              clear hin hbel
              go_wp2_with fail
              go_loopw [21] (fun j wi => ∃ (i : Nat), i ≤ F.length ∧ j = .int .i64 (i : Int) ∧ InAt wi g (strsB ((F.map fltT).drop i), 0) ∧ Below w.heap.size w wi) (fun j _ => F.length - (intOf j).toNat)
              case atStart => exact ⟨0, by omega, rfl, by rw [List.drop_zero]; exact HI.out.1, HI.out.2⟩
              case round =>
                obtain ⟨i, hi3, rfl, hin, hbel⟩ := hrel
                have hszj := hbel.size
                by_cases hlt3 : i < F.length
                · have hxr := HZ.out F[i] (List.getElem_mem hlt3)
                  obtain ⟨b, o, rfl, hc0⟩ := At.exv HAT.out.2 i (by simpa using hlt3)
                  have hbl : b < w.heap.size := World.block_lt_of_cell? (a := ⟨b, o + i, none⟩) w hc0
                  have hcell : wr.cell? ⟨b, o + i, none⟩ = some (.int .u64 F[i]) := by
                    have := (hbel.cell (p := ⟨b, o + i, none⟩) hbl).trans hc0
                    rw [List.getElem_map] at this
                    exact this
                  rw [List.drop_eq_getElem_cons (by simpa using hlt3), strsB_cons, List.getElem_map] at hin
                  have hrd := strR_ok 16 (fltT F[i]) (strsB ((F.map fltT).drop (i + 1))) (by rw [fltT_len _ hxr]; decide) (by rw [fltT_len _ hxr]; decide)
                  generalize F[i] = x at *
                  obtain ⟨m, hm, hm64⟩ := ofM_in x.toNat (by omega)
                  have hft : fltT x = bitsL m := by rw [fltT, hm, Int.toNat_natCast]
                  rw [hft] at hrd hin
                  have HM := Lib.hid (And.intro hm hm64)
                  have HRD := Lib.hid hrd
                  have HI3 := Lib.hid (And.intro hin hbel)
                  have hgb : b ≠ g := by omega
                  have HCE := Lib.hid (show wr.drew.cell? ⟨b, o + i, none⟩ = some (.int .u64 x) from hcell)
                  clear hin hbel hm hm64 hft hrd hxr hc0 hcell
                  go_wp2_with fail
                  refine seqx_start (fun j => j = g) (by kernel_rfl) ?_
                  refine seqx_take 0 (v := ?_) rfl (by kernel_rfl) (fun _ _ _ h => h) (by rfl) (fun w' hw' => ?_) ?_
                  rotate_left
                  · go_simp; try with_reducible rfl
                  try simp only [List.getElem_toArray, List.getElem_cons_succ, List.getElem_cons_zero, Act.put, List.setIfInBounds_toArray, List.set_cons_zero, List.set_cons_succ]
                  refine seqx_take 2 (v := ?_) rfl (by kernel_rfl) (fun _ _ _ h => h) (by rfl) (fun w' hw' => ?_) ?_
                  rotate_left
                  · go_simp; try with_reducible rfl
                  try simp only [List.getElem_toArray, List.getElem_cons_succ, List.getElem_cons_zero, Act.put, List.setIfInBounds_toArray, List.set_cons_zero, List.set_cons_succ]
                  refine seqx_take 3 (v := ?_) rfl (by kernel_rfl) (fun _ _ _ h => h) (by rfl) (fun w' hw' => ?_) ?_
                  rotate_left
                  · go_simp; try with_reducible rfl
                  try simp only [List.getElem_toArray, List.getElem_cons_succ, List.getElem_cons_zero, Act.put, List.setIfInBounds_toArray, List.set_cons_zero, List.set_cons_succ]
                  refine seqx_take 4 (v := ?_) rfl (by kernel_rfl) (fun _ _ _ h => h) (by rfl) (fun w' hw' => ?_) ?_
                  rotate_left
                  · go_simp; try with_reducible rfl
                  try simp only [List.getElem_toArray, List.getElem_cons_succ, List.getElem_cons_zero, Act.put, List.setIfInBounds_toArray, List.set_cons_zero, List.set_cons_succ]
                  refine seqx_take 5 rfl (by kernel_rfl) (fun _ _ _ h => h) (by rfl) (fun w' hw' => (seq_ldU rfl rfl (keeps_cell hw' (by exact hgb) (HCE.out))) w' (Below.refl _ _)) ?_
                  try simp only [List.getElem_toArray, List.getElem_cons_succ, List.getElem_cons_zero, Act.put, List.setIfInBounds_toArray, List.set_cons_zero, List.set_cons_succ]
                  refine seqx_run 1 rfl (by kernel_rfl) (by rfl) (fun KK hKK => ?_)
                  go_wp2_with fail
                  refine (istr_any g _ 16 _ (HI3.out.1.below ((Below.refl _ _).drew))).mono ?_
                  rintro e w9 ⟨rfl, hin9, hgr⟩
                  rw [HRD.out] at hin9 ⊢
                  have hb9 : Below w.heap.size w w9 := (HI3.out.2.drew).grown hgr hszj (fun k hk => by cases hk; exact hg0)
                  have hsz9 := hb9.size
                  have HK9 := Lib.hid (show Keeps (fun j => j = g) wr.drew w9 from Keeps.of_grown hgr rfl)
                  have HI9 := Lib.hid (And.intro hin9 hb9)
                  clear hin9 hb9 hgr HRD
                  go_wp2_with fail
                  refine ⟨HK9.out, ?_⟩
                  refine seqx_run 6 rfl (by kernel_rfl) (by rfl) (fun KK hKK => ?_)
                  go_wp2_with fail
                  refine (go_any x _).mono ?_
                  rintro e w10 ⟨rfl, rfl⟩
                  go_wp2_with fail
                  refine ⟨Keeps.refl _ _, ?_⟩
                  refine seqx_run 7 rfl (by kernel_rfl) (by rfl) (fun KK hKK => ?_)
                  go_wp2_with fail
                  refine (of_any x.toNat _).mono ?_
                  rintro e w10 ⟨rfl, rfl⟩
                  rw [HM.out.1]
                  go_wp2_with fail
                  refine ⟨Keeps.refl _ _, ?_⟩
                  refine seqx_run 8 rfl (by kernel_rfl) (by rfl) (fun KK hKK => ?_)
                  go_wp2_with fail
                  refine (bits_any m HM.out.2 w9 (dtab_below HT.out.2.2 HI9.out.2)).mono ?_
                  rintro e w10 ⟨rfl, hb10⟩
                  have HB10 := Lib.hid (show Keeps (fun j => j = g) w9 w10 from Keeps.of_below hb10)
                  have HI10 := Lib.hid (And.intro (HI9.out.1.below hb10) (HI9.out.2.trans (hb10.mono hsz9)))
                  clear hb10
                  go_wp2_with fail
                  refine ⟨HB10.out, ?_⟩
                  refine seqx_take 9 (v := ?_) rfl (by kernel_rfl) (fun _ _ _ h => h) (by rfl) (fun w' hw' => ?_) ?_
                  rotate_left
                  · go_simp; try with_reducible rfl
                  try simp only [List.getElem_toArray, List.getElem_cons_succ, List.getElem_cons_zero, Act.put, List.setIfInBounds_toArray, List.set_cons_zero, List.set_cons_succ]
                  refine seqx_done (by kernel_rfl) ?_
                  go_wp2_with fail
                  go_roundw
                  case rel => exact ⟨i + 1, by omega, by simp, HI10.out.1, HI10.out.2⟩
                  case measure => simp [intOf]; omega
                · obtain rfl : i = F.length := by omega
                  rw [List.drop_of_length_le (by simp)] at hin
                  have HI3 := Lib.hid (And.intro (show InAt wr g ([], 0) from hin) hbel)
                  clear hin hbel
                  go_wp2_with fail
                  refine (end_any g _ _ HI3.out.1).mono ?_
                  rintro x w9 ⟨rfl, hin9, hgr⟩
                  have hb9 : Below w.heap.size w w9 := HI3.out.2.grown hgr hszj (fun k hk => by cases hk; exact hg0)
                  have HB9 := Lib.hid hb9
                  have he : (endR (([], 0) : St)).2 = 0 := rfl
                  rw [he]
                  clear hin9 hb9 hgr he
                  go_wp2_with fail
                  go_ret
                  exact ⟨rfl, HB9.out⟩
  -- END W
theorem own : ownKnob Tryz.prog.godebug = none := by kernel_rfl
theorem laidOut : laidOutB Tryz.prog = true := by kernel_rfl
theorem readable : ∀ t ∈ Tryz.f3.params.toList, Tryz.prog.readableRec t = true ∧ t < Tryz.prog.types.size := by
  rw [Tryz.params3]
  intro t ht
  simp at ht
  rcases ht with rfl | rfl | rfl
  · exact ⟨by kernel_rfl, of_decide_eq_true (by kernel_rfl)⟩
  · exact ⟨by kernel_rfl, of_decide_eq_true (by kernel_rfl)⟩
  · exact ⟨by kernel_rfl, of_decide_eq_true (by kernel_rfl)⟩

section
variable {H : Type} {enc : TypeId × Value → H} {P : Program}
/-- A slice of numbers of 64 bits, opened. -/
theorem open_u64sl {w : World} {r : Reach} {b0 : Nat} {t e : TypeId} {v : Value} {d : DataW H} {ps : List MemPlace} (ht : P.underlying t = some (.slice e)) (he : P.underlying e = some (.int .u64)) (hc : P.cellsOf e = 1) (hval : Value.okWide P w r b0 t v) (h : DataW.Trod enc P w 0 (fun _ => true) true t v d ps) :
    ∃ (ao : Option Addr) (cap : Nat) (l : List Int), v = .slice ao l.length cap ∧ l.length ≤ cap ∧ cap ≤ 9223372036854775807 ∧ At w ao (l.map (Value.int .u64)) ∧ ∀ z ∈ l, 0 ≤ z ∧ z < 18446744073709551616 := by
  obtain ⟨ao, cap, vs, rfl, h1, h2, h3, h4⟩ := open_at ht hc hval h
  have : ∀ vs : List Value, (∀ u ∈ vs, ∃ n d' p', DataW.trod enc P w 0 (fun _ => true) true n e [u] = some (d', p')) → ∃ l : List Int, vs = l.map (Value.int .u64) ∧ ∀ z ∈ l, 0 ≤ z ∧ z < 18446744073709551616 := by
    intro vs
    induction vs with
    | nil => exact fun _ => ⟨[], rfl, by simp⟩
    | cons u vs ih =>
      intro hu
      obtain ⟨n, d', p', hd⟩ := hu u (by simp)
      obtain ⟨z, e1, _, hw⟩ := DataW.trod_int he hd
      obtain ⟨l, rfl, hl⟩ := ih fun u' hu' => hu u' (by simp [hu'])
      have hz : 0 ≤ z ∧ z ≤ 18446744073709551615 := by simpa [Lit.wf, IntKind.min, IntKind.max, IntKind.signed, IntKind.bits] using hw
      refine ⟨z :: l, ?_, ?_⟩
      · have e2 : u = .int .u64 z := by simpa using e1
        rw [e2]; rfl
      · intro y hy
        rcases List.mem_cons.1 hy with rfl | hy
        · omega
        · exact hl y hy
  obtain ⟨l, rfl, hl⟩ := this vs h4
  rw [List.length_map] at *
  exact ⟨ao, cap, l, rfl, h1, h2, h3, hl⟩
end

theorem laid_met (os : Os) : laidMet Tryz.prog Rows.scriptorNumbersRow.laid ((laidWorld os).forCall (fun _ _ => 0) ⟨#[], #[.slice none 0 0, .slice none 0 0, .int .i64 0], []⟩).memory :=
  laid_met0 os _
theorem reads (os : Os) {H : Type} (enc : TypeId × Value → H) : DataW.whole enc Tryz.prog ((laidWorld os).forCall (fun _ _ => 0) ⟨#[], #[.slice none 0 0, .slice none 0 0, .int .i64 0], []⟩).memory Tryz.f3.params.toList Rows.scriptorNumbersSpec.vars false (#[.slice none 0 0, .slice none 0 0, .int .i64 0] : Array Value).toList 8 = some ([.nil, .nil, .lit (.int .i64 0)], [], []) := by kernel_rfl
set_option maxRecDepth 100000 in
theorem lifted (os : Os) (started : os.Started) (H : Type) (enc : TypeId × Value → H) (F : Stop.Interp) :
    ReturnsInHanded {} Tryz.checked os 3 .any ((OpenSpec.ofChange Rows.scriptorNumbersSpec).preRow enc Tryz.prog Tryz.f3 Rows.scriptorNumbersRow.domain false Rows.scriptorNumbersRow.laid) (((OpenSpec.ofChange Rows.scriptorNumbersSpec).at F).post enc Tryz.prog Tryz.f3 false true false false) := by
  have hx := reads os enc
  refine returnsInHanded_of_row (C := Tryz.checked) (s := OpenSpec.ofChange Rows.scriptorNumbersSpec) own started (by kernel_rfl) Tryz.func3
    (witness_row_at (enc := enc) (C := Tryz.checked) false (laidWorld os) #[.slice none 0 0, .slice none 0 0, .int .i64 0] rfl (by kernel_rfl) (by kernel_rfl) (by kernel_rfl)
      (OpenSpec.preRow_of_cond 8 hx (by kernel_rfl) (fun k hk => by cases hk) (by kernel_rfl) (laid_met os))) ?_
  intro W base args ds gs before hval0 hW _ _ _ hL _ _
  have ht : Tab W ∧ PTab W ∧ DTab W := tabs_of hL
  have hval : ∀ (j : Nat) t v, Tryz.f3.params[j]? = some t → args[j]? = some v → Value.okWide Tryz.prog W .any base t v := hval0
  have hW' := hW
  obtain ⟨p, q, hA0, hV, rfl, hfz, hnd⟩ := hW
  have hA : DataW.TrodAll enc Tryz.prog W 0 (fun _ => true) true Tryz.f3.params.toList args.toList ds p := hA0
  rw [Tryz.params3] at hA hval
  obtain ⟨v0, v1, v2, d0, d1, d2, p0, p1, p2, rfl, rfl, rfl, h0, h1, h2⟩ := trodAll_three hA
  obtain ⟨rfl, rfl⟩ := trodVars_none hV
  obtain ⟨no, ncap, l, rfl, hc, hm, hat, hz⟩ := open_intsl Tryz.underlying22 Tryz.underlying3 (by kernel_rfl) (hval 0 22 v0 rfl rfl) h0
  obtain ⟨fo, fcap, f, rfl, hfc, hfm, hft, hfu⟩ := open_u64sl Tryz.underlying23 Tryz.underlying27 (by kernel_rfl) (hval 1 23 v1 rfl rfl) h1
  obtain ⟨c, rfl, rfl, rfl, wc⟩ := open_int Tryz.underlying3 (hval 2 3 v2 rfl rfl) h2
  refine (walk no fo l f ncap fcap c hc hfc hfu hat hft ht.1 ht.2.1 ht.2.2).mono fun e W' ⟨he, hb⟩ => ?_
  subst he
  exact ⟨_, rfl, post_law laidOut rfl rfl Tryz.underlying4 readable rfl rfl rfl hW' hb⟩

theorem said : Rows.ScriptorNumbersSaid :=
  OpenClaim.holds_of_cond 3 Tryz.f3 rfl rfl rfl rfl rfl rfl rfl ⟨rfl, rfl, rfl, rfl, rfl⟩ rfl rfl rfl rfl rfl (by kernel_rfl) Tryz.func3 (by kernel_rfl)
    (of_decide_eq_true (by kernel_rfl)) (by unfold Func.isWrapper; first | (rw [if_pos (by decide +kernel)]; kernel_rfl) | (rw [if_neg (by decide +kernel)]; exact ⟨rfl, rfl⟩))
    (fun os started H enc _ F => by rw [OpenClaim.pre_eq_preRow]; exact lifted os started H enc F)

/-- No parameter wants a stand-in; the program's own looks are off. -/
theorem plain (f : FuncId) (fn : Func) (hf : Tryz.pinned.checked.prog.funcNamed "scriptor/scriptortop.ScriptorNumbers" = some f) (hfn : Tryz.pinned.checked.prog.funcs[f]? = some fn) :
    true = Tryz.pinned.checked.prog.looks [] ∧ ∀ (j : Nat) t, fn.params[j]? = some t → Tryz.pinned.checked.prog.wantsStandIn t = false := by
  obtain rfl : f = 3 := Option.some.inj ((show Tryz.prog.funcNamed "scriptor/scriptortop.ScriptorNumbers" = some 3 by kernel_rfl).symm.trans hf) |>.symm
  obtain rfl : fn = Tryz.f3 := (Option.some.inj (Tryz.func3.symm.trans hfn)).symm
  refine ⟨by kernel_rfl, fun j t ht => ?_⟩
  have hall : ∀ t ∈ Tryz.f3.params.toList, Tryz.prog.wantsStandIn t = false := by
    rw [Tryz.params3]
    intro t ht
    simp at ht
    rcases ht with rfl | rfl | rfl
    · kernel_rfl
    · kernel_rfl
    · kernel_rfl
  exact hall t (Array.mem_toList_iff.2 (Array.mem_of_getElem? ht))

theorem card : Rows.ScriptorNumbersCardSaid :=
  Claim7.holds_tied_plain_at .later [] _ _ _ _ said (fun _ h => by cases h) (by kernel_rfl) (fun _ h => by cases h) scriptorNumbers_row_tie rfl ⟨rfl, rfl⟩ (by kernel_rfl) rfl plain (by kernel_rfl)
end Go.Proofs.YtkgdcbpiicckkaaGreatDoor.scriptorNumbers
