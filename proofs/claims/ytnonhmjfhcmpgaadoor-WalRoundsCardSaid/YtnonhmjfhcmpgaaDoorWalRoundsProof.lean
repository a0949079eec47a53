/- THE LAW WalRounds: records of round after round, each truncated: what is opened is always the last round's. -/
import Derived.Test.YtnonhmjfhcmpgaaDoorWalTab
import Derived.Test.YtnonhmjfhcmpgaaDoorWalC
import Derived.Test.YtnonhmjfhcmpgaaDoorWalE
namespace Go.Proofs.YtnonhmjfhcmpgaaDoor.walRounds
open Go.ChangeShapes Go.WideShapes Go.ChangeAt Go.RowKit Go.ChangeMaps

/-- An empty log in order in the midst of the law. -/
def SR (W w : World) (d g : Nat) (age n : Nat) : Prop := ∃ s l, Sysd W w d g s l ∧ PL s l [] ∧ s.left = -1 ∧ s.steps ≤ n ∧ l.age = age ∧ l.at_ = 2

set_option maxRecDepth 100000 in
set_option maxHeartbeats 4000000 in
theorem walk (c : Int) (bo : Option Addr) (bcap : Nat) (b0 : List UInt8) (hbc : b0.length ≤ bcap) (hbm : bcap ≤ 9223372036854775807) (W : World) (hB0 : 0 < W.heap.size) (hb0 : At W bo (bytesV b0)) (ht : Tab W) :
    Calls Tryd.prog 4 #[.int .i64 c, .slice bo b0.length bcap] W (Says W (.bool true)) := by
  have HT := Lib.hid ht
  have HBT := Lib.hid (hb0.takeB 600)
  have HBW := Lib.hid (fun (hne : b0.take 600 ≠ []) (j : Nat) (hj : blk bo = some j) => show j < W.heap.size from by
    obtain ⟨j', hj', hlt'⟩ := (hb0.takeB 600).lt (by intro h; apply hne; simpa [bytesV] using h)
    rw [hj] at hj'
    cases hj'
    exact hlt')
  clear hb0 ht
  have hbl : (b0.take 600).length = min b0.length 600 := by rw [List.length_take]; omega
  obtain ⟨n, hn⟩ : ∃ n, min b0.length 600 = n := ⟨_, rfl⟩
  rw [hn] at hbl
  have hmin : min ((b0.length : Nat) : Int) 600 = (n : Int) := by omega
  have hn1 : n ≤ 600 := by omega
  have hn2 : n ≤ bcap := by omega
  have HL := Lib.hid hbl
  have HMIN := Lib.hid hmin
  clear hbl hn hmin
  generalize b0.take 600 = b at *
  obtain ⟨r, hr, hre⟩ : ∃ r : Nat, r < 12 ∧ wrap64 ((IntKind.u64.wrap c).tmod 12) = (r : Int) := cutmod0 c 12 (by decide) (by decide)
  go_enter Tryd.func4, Tryd.ntmps4
  go_wp2_with fail
  refine (fresh_any W hB0 HT.out).mono ?_
  rintro e w1 ⟨d, g, rfl, hsys1⟩
  have H1 := Lib.hid hsys1
  have hb1 := hsys1.bel
  have hs1 := hb1.size
  have HB1 := Lib.hid hb1
  clear hsys1 hb1
  go_wp2_with fail
  refine (logs_any w1 (by omega) (HT.out.below HB1.out)).mono ?_
  rintro e w2 ⟨rfl, hb2⟩
  have hs2 := hb2.size
  have hst : SR W w2 d g 1 100 := ⟨freshS, freshL, H1.out.below hb2, freshP.1, freshP.2.1, freshP.2.2, rfl, rfl⟩
  have H2 := Lib.hid hst
  clear hb2 hst
  go_wp2_with (refine op_min2 rfl _ _ _ rfl .i64 _ _ (n : Int) rfl rfl HMIN.out ?_)
  rw [hre]
  clear hre
  go_loopw [6, 8] (fun v6 v8 wr => ∃ i g : Nat, i ≤ r ∧ v8 = .int .i64 (i : Int) ∧ v6 = .pointer (some ⟨g, 0, none⟩) ∧ SR W wr d g (i + 1) (100 + 60 * i)) (fun _ v8 _ => 12 - (intOf v8).toNat)
  case atStart => exact ⟨0, g, by omega, rfl, rfl, H2.out⟩
  case round =>
    obtain ⟨i, g, hir, rfl, rfl, s, l, hsys, hpl, hleft, hsteps, hage, hat⟩ := hrel
    have HR := Lib.hid (And.intro hsys (And.intro hpl (And.intro hleft (And.intro hsteps (And.intro hage hat)))))
    have hbel := hsys.bel
    have hszr := hbel.size
    have HBr := Lib.hid hbel
    have hnx := hpl.next
    have hcnt := hpl.cnt
    have hff := hpl.f
    rw [List.length_nil] at hnx
    have hWl := hpl.W
    have HN := Lib.hid (And.intro hnx (And.intro hcnt (And.intro hff (And.intro hWl (And.intro hage (And.intro hat hsteps))))))
    clear hsys hpl hleft hsteps hbel hage hnx hcnt hff hWl hat
    by_cases hlt : i < r
    · have hd1 : decide ((i : Int) < (r : Int)) = true := decide_eq_true (by omega)
      go_wp2_with fail
      have hN := HN.out
      have hnd : needN b.length ≤ 3 := by rw [HL.out]; unfold needN nparts; omega
      obtain ⟨e1, p1, l1, t1⟩ := append_on HR.out.2.1 HR.out.2.2.1 b (by rw [HL.out]; omega) (by omega)
      refine (append_sys (w0 := W) (wp := wr) HR.out.1 (Below.refl _ _) hB0 HT.out (by omega) (by rw [hN.2.2.2.1]; decide) (by omega) (by omega) (by omega) (by omega) bo n bcap b HL.out.symm (by rw [HL.out]; exact hn2) (by rw [HL.out]; omega) (HBT.out.below HBr.out) (fun j hj hne => .inl (HBW.out hne j hj)) (by omega)).mono ?_
      rintro e w5 ⟨rfl, h5⟩
      rw [e1] at h5 ⊢
      have hat5 : (appendL l 0 b).at_ = 2 + needN b.length := by simp [appendL, hN.2.2.2.2.2.1]
      have hage5 : (appendL l 0 b).age = i + 1 := by simp [appendL, hN.2.2.2.2.1]
      have hnx5 : (appendL l 0 b).next = 1 := by simp [appendL, hN.1]
      have hcnt5 := p1.cnt
      have hff5 := p1.f
      have hW5 := p1.W
      have H5 := Lib.hid (And.intro h5 (And.intro p1 l1))
      have N5 := Lib.hid (And.intro hnx5 (And.intro hcnt5 (And.intro hff5 (And.intro hW5 (And.intro hage5 (And.intro hat5 t1))))))
      have hb5 := h5.bel
      have hs5 := hb5.size
      clear h5 e1 p1 l1 t1 hat5 hage5 hnx5 hcnt5 hff5 hW5 hN hb5
      generalize (appendP l.f s l.at_ l.age l.next b).2 = s5 at *
      generalize appendL l 0 b = l5 at *
      go_wp2_with fail
      have hN := N5.out
      have hN0 := HN.out
      have hone : needN [UInt8.ofNat i].length = 2 := by simp [needN, nparts]
      have hu8 : bytesV [UInt8.ofNat i] = [Value.int .u8 (i : Int)] := by rw [u8i i (by omega)]; rfl
      obtain ⟨e1, p1, l1, t1⟩ := append_on H5.out.2.1 H5.out.2.2 [UInt8.ofNat i] (by simp) (by rw [hone]; omega)
      refine (append_sys (w0 := W) (wp := w5) H5.out.1 ((Below.refl _ w5).alloc (Nat.le_refl _) _) hB0 HT.out (by omega) (by rw [hN.2.2.2.1]; decide) (by omega) (by omega) (by omega) (by omega) (some ⟨w5.heap.size, 0, none⟩) 1 1 [UInt8.ofNat i] rfl (by simp) (by simp) (by rw [hu8]; exact At.new w5 _ _ (0, 0)) (fun j hj _ => by cases hj; exact .inr (Nat.le_refl _)) (by rw [hone]; omega)).mono ?_
      rintro e w6 ⟨rfl, h6⟩
      rw [e1] at h6 ⊢
      have hage6 : (appendL l5 0 [UInt8.ofNat i]).age = i + 1 := by simp [appendL, hN.2.2.2.2.1]
      have hff6 := p1.f
      have hW6 := p1.W
      have H6 := Lib.hid (And.intro h6 (And.intro p1 l1))
      have N6 := Lib.hid (And.intro hff6 (And.intro hW6 (And.intro hage6 t1)))
      have hb6 := h6.bel
      have hs6 := hb6.size
      have HN5 := Lib.hid hN
      clear h6 e1 p1 l1 t1 hage6 hff6 hW6 hN hN0 hone hb6 hu8
      generalize (appendP l5.f s5 l5.at_ l5.age l5.next [UInt8.ofNat i]).2 = s6 at *
      generalize appendL l5 0 [UInt8.ofNat i] = l6 at *
      go_wp2_with fail
      have hN6 := N6.out
      refine (open_sys H6.out.1.own HT.out H6.out.2.1 (by omega)).mono ?_
      clear hN6
      rintro e w7 ⟨g7, ro, rcap, rfl, hsys7, hrec, hb67⟩
      have H7 := Lib.hid (And.intro hsys7 hb67)
      have hs7 := hb67.size
      obtain ⟨vs, hat, hall, _⟩ := hrec
      have hl2 : vs.length = 2 := hall.1
      match vs, hl2 with
      | [v1, v2], _ =>
        obtain ⟨ao1, c1, rfl, a1, _⟩ := hall.2 0 v1 b rfl rfl
        obtain ⟨ao2, c2, rfl, a2, _⟩ := hall.2 1 v2 [UInt8.ofNat i] rfl rfl
        obtain ⟨rb, rof, rfl, hc0⟩ := hat.exv 0 (by simp)
        have hc1 := At.cell hat 1 _ rfl
        obtain ⟨eb, eof, rfl, hc2⟩ := a2.exv 0 (by simp [bytesV])
        have hu8 : (bytesV [UInt8.ofNat i])[0]'(by simp [bytesV]) = Value.int .u8 (i : Int) := by rw [u8i i (by omega)]; rfl
        rw [hu8] at hc2
        simp only [List.getElem_cons_zero, Nat.add_zero, List.length_cons, List.length_nil, Nat.zero_add] at hc0 hc1 hc2
        have HA := Lib.hid (And.intro (a1.below (Below.refl _ w7).drew) (And.intro (HBT.out.below (hsys7.bel.drew)) (And.intro (show w7.drew.cell? _ = _ from hc0) (And.intro (show w7.drew.cell? _ = _ from hc1) (show w7.drew.cell? _ = _ from hc2)))))
        clear hsys7 hb67 hall hat a1 a2 hc0 hc1 hc2 hu8
        go_wp2_with fail
        have hnb : n = b.length := HL.out.symm
        refine seql_start [35] (by kernel_rfl) ?_
        refine seql_take 0 (v := ?_) rfl (by kernel_rfl) (fun _ _ _ h => h) (by rfl) (fun w' hw' => ?_) ?_
        rotate_left
        · go_simp; try with_reducible rfl
        try simp only [List.getElem_toArray, List.getElem_cons_succ, List.getElem_cons_zero, Act.put, List.setIfInBounds_toArray, List.set_cons_zero, List.set_cons_succ]
        refine seql_take 1 (v := ?_) rfl (by kernel_rfl) (fun _ _ _ h => h) (by rfl) (fun w' hw' => ?_) ?_
        rotate_left
        · go_simp; try with_reducible rfl
        try simp only [List.getElem_toArray, List.getElem_cons_succ, List.getElem_cons_zero, Act.put, List.setIfInBounds_toArray, List.set_cons_zero, List.set_cons_succ]
        refine seql_take 2 (v := ?_) rfl (by kernel_rfl) (fun _ _ _ h => h) (by rfl) (fun w' hw' => ?_) ?_
        rotate_left
        · go_simp; try with_reducible rfl
        try simp only [List.getElem_toArray, List.getElem_cons_succ, List.getElem_cons_zero, Act.put, List.setIfInBounds_toArray, List.set_cons_zero, List.set_cons_succ]
        refine seql_take 3 (v := ?_) rfl (by kernel_rfl) (fun _ _ _ h => h) (by rfl) (fun w' hw' => ?_) ?_
        rotate_left
        · go_simp; try with_reducible rfl
        try simp only [List.getElem_toArray, List.getElem_cons_succ, List.getElem_cons_zero, Act.put, List.setIfInBounds_toArray, List.set_cons_zero, List.set_cons_succ]
        refine seql_take 4 (v := ?_) rfl (by kernel_rfl) (fun _ _ _ h => h) (by rfl) (fun w' hw' => ?_) ?_
        rotate_left
        · go_simp; try with_reducible rfl
        try simp only [List.getElem_toArray, List.getElem_cons_succ, List.getElem_cons_zero, Act.put, List.setIfInBounds_toArray, List.set_cons_zero, List.set_cons_succ]
        refine seql_take 5 (v := ?_) rfl (by kernel_rfl) (fun _ _ _ h => h) (by rfl) (fun w' hw' => ?_) ?_
        rotate_left
        · go_simp; try with_reducible rfl
        try simp only [List.getElem_toArray, List.getElem_cons_succ, List.getElem_cons_zero, Act.put, List.setIfInBounds_toArray, List.set_cons_zero, List.set_cons_succ]
        refine seql_take 6 (v := ?_) rfl (by kernel_rfl) (fun _ _ _ h => h) (by rfl) (fun w' hw' => ?_) ?_
        rotate_left
        · go_simp; try with_reducible rfl
        try simp only [List.getElem_toArray, List.getElem_cons_succ, List.getElem_cons_zero, Act.put, List.setIfInBounds_toArray, List.set_cons_zero, List.set_cons_succ]
        refine seql_take 7 (v := ?_) rfl (by kernel_rfl) (fun _ _ _ h => h) (by rfl) (fun w' hw' => ?_) ?_
        rotate_left
        · go_simp; try with_reducible rfl
        try simp only [List.getElem_toArray, List.getElem_cons_succ, List.getElem_cons_zero, Act.put, List.setIfInBounds_toArray, List.set_cons_zero, List.set_cons_succ]
        refine seql_take 8 (v := ?_) rfl (by kernel_rfl) (fun _ _ _ h => h) (by rfl) (fun w' hw' => ?_) ?_
        rotate_left
        · go_simp; try with_reducible rfl
        try simp only [List.getElem_toArray, List.getElem_cons_succ, List.getElem_cons_zero, Act.put, List.setIfInBounds_toArray, List.set_cons_zero, List.set_cons_succ]
        refine seql_take 9 (v := ?_) rfl (by kernel_rfl) (fun _ _ _ h => h) (by rfl) (fun w' hw' => ?_) ?_
        rotate_left
        · go_simp; try with_reducible rfl
        try simp only [List.getElem_toArray, List.getElem_cons_succ, List.getElem_cons_zero, Act.put, List.setIfInBounds_toArray, List.set_cons_zero, List.set_cons_succ]
        refine seql_take 10 rfl (by kernel_rfl) (fun _ _ _ h => h) (by rfl) (seq_ldb rfl rfl (HA.out.2.2.1)) ?_
        try simp only [List.getElem_toArray, List.getElem_cons_succ, List.getElem_cons_zero, Act.put, List.setIfInBounds_toArray, List.set_cons_zero, List.set_cons_succ]
        refine seql_take 11 rfl (by kernel_rfl) (fun _ _ _ h => h) (by rfl) (seq_conv rfl rfl (HA.out.1) (by first | rfl | assumption | (symm; assumption) | simp)) ?_
        try simp only [List.getElem_toArray, List.getElem_cons_succ, List.getElem_cons_zero, Act.put, List.setIfInBounds_toArray, List.set_cons_zero, List.set_cons_succ]
        refine seql_take 12 (v := ?_) rfl (by kernel_rfl) (fun _ _ _ h => h) (by rfl) (fun w' hw' => ?_) ?_
        rotate_left
        · go_simp; try with_reducible rfl
        try simp only [List.getElem_toArray, List.getElem_cons_succ, List.getElem_cons_zero, Act.put, List.setIfInBounds_toArray, List.set_cons_zero, List.set_cons_succ]
        refine seql_take 13 rfl (by kernel_rfl) (fun _ _ _ h => h) (by rfl) (seq_conv rfl rfl (HA.out.2.1) (by first | rfl | assumption | (symm; assumption) | simp)) ?_
        try simp only [List.getElem_toArray, List.getElem_cons_succ, List.getElem_cons_zero, Act.put, List.setIfInBounds_toArray, List.set_cons_zero, List.set_cons_succ]
        clear hnb
        refine seql_take 14 (v := ?_) rfl (by kernel_rfl) (fun _ _ _ h => h) (by rfl) (fun w' hw' => ?_) ?_
        rotate_left
        · go_simp; try with_reducible rfl
        try simp only [List.getElem_toArray, List.getElem_cons_succ, List.getElem_cons_zero, Act.put, List.setIfInBounds_toArray, List.set_cons_zero, List.set_cons_succ]
        refine seql_take 15 (v := ?_) rfl (by kernel_rfl) (fun _ _ _ h => h) (by rfl) (fun w' hw' => ?_) ?_
        rotate_left
        · go_simp; try with_reducible rfl
        try simp only [List.getElem_toArray, List.getElem_cons_succ, List.getElem_cons_zero, Act.put, List.setIfInBounds_toArray, List.set_cons_zero, List.set_cons_succ]
        refine seql_take 16 (v := ?_) rfl (by kernel_rfl) (fun _ _ _ h => h) (by rfl) (fun w' hw' => ?_) ?_
        rotate_left
        · go_simp; try with_reducible rfl
        try simp only [List.getElem_toArray, List.getElem_cons_succ, List.getElem_cons_zero, Act.put, List.setIfInBounds_toArray, List.set_cons_zero, List.set_cons_succ]
        refine seql_take 17 (v := ?_) rfl (by kernel_rfl) (fun _ _ _ h => h) (by rfl) (fun w' hw' => ?_) ?_
        rotate_left
        · go_simp; try with_reducible rfl
        try simp only [List.getElem_toArray, List.getElem_cons_succ, List.getElem_cons_zero, Act.put, List.setIfInBounds_toArray, List.set_cons_zero, List.set_cons_succ]
        refine seql_take 18 (v := ?_) rfl (by kernel_rfl) (fun _ _ _ h => h) (by rfl) (fun w' hw' => ?_) ?_
        rotate_left
        · go_simp; try with_reducible rfl
        try simp only [List.getElem_toArray, List.getElem_cons_succ, List.getElem_cons_zero, Act.put, List.setIfInBounds_toArray, List.set_cons_zero, List.set_cons_succ]
        refine seql_take 19 rfl (by kernel_rfl) (fun _ _ _ h => h) (by rfl) (seq_ldb rfl rfl (HA.out.2.2.2.1)) ?_
        try simp only [List.getElem_toArray, List.getElem_cons_succ, List.getElem_cons_zero, Act.put, List.setIfInBounds_toArray, List.set_cons_zero, List.set_cons_succ]
        refine seql_take 20 (v := ?_) rfl (by kernel_rfl) (fun _ _ _ h => h) (by rfl) (fun w' hw' => ?_) ?_
        rotate_left
        · go_simp; try with_reducible rfl
        try simp only [List.getElem_toArray, List.getElem_cons_succ, List.getElem_cons_zero, Act.put, List.setIfInBounds_toArray, List.set_cons_zero, List.set_cons_succ]
        refine seql_take 21 rfl (by kernel_rfl) (fun _ _ _ h => h) (by rfl) (seq_ld8 rfl rfl (HA.out.2.2.2.2)) ?_
        try simp only [List.getElem_toArray, List.getElem_cons_succ, List.getElem_cons_zero, Act.put, List.setIfInBounds_toArray, List.set_cons_zero, List.set_cons_succ]
        refine seql_take 22 (v := ?_) rfl (by kernel_rfl) (fun _ _ _ h => h) (by rfl) (fun w' hw' => ?_) ?_
        rotate_left
        · go_simp; try with_reducible rfl
        try simp only [List.getElem_toArray, List.getElem_cons_succ, List.getElem_cons_zero, Act.put, List.setIfInBounds_toArray, List.set_cons_zero, List.set_cons_succ]
        refine seql_take 23 (v := ?_) rfl (by kernel_rfl) (fun _ _ _ h => h) (by rfl) (fun w' hw' => ?_) ?_
        rotate_left
        · go_simp; try with_reducible rfl
        try simp only [List.getElem_toArray, List.getElem_cons_succ, List.getElem_cons_zero, Act.put, List.setIfInBounds_toArray, List.set_cons_zero, List.set_cons_succ]
        rw [show IntKind.u8.wrap (i : Int) = (i : Int) by rw [IntKind.wrap_u8]; omega]
        refine seql_take 24 (v := ?_) rfl (by kernel_rfl) (fun _ _ _ h => h) (by rfl) (fun w' hw' => ?_) ?_
        rotate_left
        · go_simp; try with_reducible rfl
        try simp only [List.getElem_toArray, List.getElem_cons_succ, List.getElem_cons_zero, Act.put, List.setIfInBounds_toArray, List.set_cons_zero, List.set_cons_succ]
        refine seql_take 25 (v := ?_) rfl (by kernel_rfl) (fun _ _ _ h => h) (by rfl) (fun w' hw' => ?_) ?_
        rotate_left
        · go_simp; try with_reducible rfl
        try simp only [List.getElem_toArray, List.getElem_cons_succ, List.getElem_cons_zero, Act.put, List.setIfInBounds_toArray, List.set_cons_zero, List.set_cons_succ]
        refine seql_take 26 (v := ?_) rfl (by kernel_rfl) (fun _ _ _ h => h) (by rfl) (fun w' hw' => ?_) ?_
        rotate_left
        · go_simp; try with_reducible rfl
        try simp only [List.getElem_toArray, List.getElem_cons_succ, List.getElem_cons_zero, Act.put, List.setIfInBounds_toArray, List.set_cons_zero, List.set_cons_succ]
        refine seql_take 27 (v := ?_) rfl (by kernel_rfl) (fun _ _ _ h => h) (by rfl) (fun w' hw' => ?_) ?_
        rotate_left
        · go_simp; try with_reducible rfl
        try simp only [List.getElem_toArray, List.getElem_cons_succ, List.getElem_cons_zero, Act.put, List.setIfInBounds_toArray, List.set_cons_zero, List.set_cons_succ]
        refine seql_take 29 (v := ?_) rfl (by kernel_rfl) (fun _ _ _ h => h) (by rfl) (fun w' hw' => ?_) ?_
        rotate_left
        · go_simp; try with_reducible rfl
        try simp only [List.getElem_toArray, List.getElem_cons_succ, List.getElem_cons_zero, Act.put, List.setIfInBounds_toArray, List.set_cons_zero, List.set_cons_succ]
        refine seql_take 30 (v := ?_) rfl (by kernel_rfl) (fun _ _ _ h => h) (by rfl) (fun w' hw' => ?_) ?_
        rotate_left
        · go_simp; try with_reducible rfl
        try simp only [List.getElem_toArray, List.getElem_cons_succ, List.getElem_cons_zero, Act.put, List.setIfInBounds_toArray, List.set_cons_zero, List.set_cons_succ]
        refine seql_run 28 rfl (by kernel_rfl) (by rfl) (fun KK hKK => ?_)
        go_wp2_with fail
        refine (age_any w7.drew (H7.out.1.below (Below.refl _ w7).drew).log).mono ?_
        rintro e w8 ⟨rfl, rfl⟩
        rw [show ((l6.age : Nat) : Int) = (i : Int) + 1 by rw [N6.out.2.2.1]; simp]
        go_wp2_with fail
        refine ⟨Below.refl _ _, ?_⟩
        refine seql_take 31 (v := ?_) rfl (by kernel_rfl) (fun _ _ _ h => h) (by rfl) (fun w' hw' => ?_) ?_
        rotate_left
        · go_simp; try with_reducible rfl
        try simp only [List.getElem_toArray, List.getElem_cons_succ, List.getElem_cons_zero, Act.put, List.setIfInBounds_toArray, List.set_cons_zero, List.set_cons_succ]
        refine seql_take 32 (v := ?_) rfl (by kernel_rfl) (fun _ _ _ h => h) (by rfl) (fun w' hw' => ?_) ?_
        rotate_left
        · go_simp; try with_reducible rfl
        try simp only [List.getElem_toArray, List.getElem_cons_succ, List.getElem_cons_zero, Act.put, List.setIfInBounds_toArray, List.set_cons_zero, List.set_cons_succ]
        refine seql_take 33 (v := ?_) rfl (by kernel_rfl) (fun _ _ _ h => h) (by rfl) (fun w' hw' => ?_) ?_
        rotate_left
        · go_simp; try with_reducible rfl
        try simp only [List.getElem_toArray, List.getElem_cons_succ, List.getElem_cons_zero, Act.put, List.setIfInBounds_toArray, List.set_cons_zero, List.set_cons_succ]
        refine seql_take 34 (v := ?_) rfl (by kernel_rfl) (fun _ _ _ h => h) (by rfl) (fun w' hw' => ?_) ?_
        rotate_left
        · go_simp; try with_reducible rfl
        try simp only [List.getElem_toArray, List.getElem_cons_succ, List.getElem_cons_zero, Act.put, List.setIfInBounds_toArray, List.set_cons_zero, List.set_cons_succ]
        refine seql_last 35 rfl (by kernel_rfl) (by kernel_rfl) (by rfl) (fun KK hKK => ?_)
        go_wp2_with fail
        obtain ⟨e1, p1, l1, t1⟩ := trunc_on H6.out.2.1 H6.out.2.2
        have hN := N6.out
        have hN5 := HN5.out
        have hN0 := HN.out
        refine (truncate_sys (w0 := W) (H7.out.1.below (Below.refl _ w7).drew) hB0 HT.out (by omega) (by rw [hN.2.1]; decide) (by omega) (by omega)).mono ?_
        rintro e w8 ⟨rfl, h8⟩
        rw [e1] at h8 ⊢
        have H8 := Lib.hid (show SR W w8 d g7 (i + 1 + 1) (100 + 60 * (i + 1)) from ⟨_, _, h8, p1, l1, by omega, by simp [truncL, hN.2.2.1], by simp [truncL]⟩)
        clear h8 e1 p1 l1 t1 hN hN5 hN0
        go_wp2_with fail
        refine seql_more 36 rfl (by kernel_rfl) (by kernel_rfl) (by rfl) (fun KK hKK => ?_)
        go_wp2_with fail
        refine seql_more 37 rfl (by kernel_rfl) (by kernel_rfl) (by rfl) (fun KK hKK => ?_)
        go_wp2_with fail
        refine seql_done (by kernel_rfl) ?_
        go_wp2_with fail
        go_roundw
        case rel => exact ⟨i + 1, g7, by omega, by simp, rfl, H8.out⟩
        case measure => simp [intOf]; omega
    · have hd1 : decide ((i : Int) < (r : Int)) = false := decide_eq_false (by omega)
      obtain rfl : i = r := by omega
      clear hd1
      have hd1 : decide ((i : Int) < (i : Int)) = false := decide_eq_false (by omega)
      go_wp2_with fail
      have hN := HN.out
      refine (open_sys HR.out.1.own HT.out HR.out.2.1 (by omega)).mono ?_
      clear hN
      rintro e w7 ⟨g7, ro, rcap, rfl, hsys7, hrec, hb67⟩
      have H7 := Lib.hid (And.intro hsys7.bel (HR.out.1.log.below hb67))
      have N7 := Lib.hid HR.out.2.2.2.2.1
      clear hsys7 hb67 hrec
      rw [List.length_nil]
      go_wp2_with fail
      refine (age_any w7 H7.out.2).mono ?_
      rintro e w8 ⟨rfl, rfl⟩
      rw [show ((l.age : Nat) : Int) = (i : Int) + 1 by rw [N7.out]; simp]
      go_wp2_with fail
      go_returns
      exact ⟨rfl, H7.out.1⟩

theorem own : ownKnob Tryd.prog.godebug = none := by kernel_rfl
theorem laidOut : laidOutB Tryd.prog = true := by kernel_rfl
theorem readable : ∀ t ∈ Tryd.f4.params.toList, Tryd.prog.readableRec t = true ∧ t < Tryd.prog.types.size := by
  rw [Tryd.params4]
  intro t ht
  simp at ht
  rcases ht with rfl | rfl
  · exact ⟨by kernel_rfl, of_decide_eq_true (by kernel_rfl)⟩
  · exact ⟨by kernel_rfl, of_decide_eq_true (by kernel_rfl)⟩

theorem laid_met (os : Os) : laidMet Tryd.prog Rows.walRoundsRow.laid ((laidWorld os).forCall (fun _ _ => 0) ⟨#[], #[.int .i64 0, .slice none 0 0], []⟩).memory :=
  laidMet_of_run' 8 (by kernel_rfl) (by kernel_rfl)
theorem reads (os : Os) {H : Type} (enc : TypeId × Value → H) : DataW.whole enc Tryd.prog ((laidWorld os).forCall (fun _ _ => 0) ⟨#[], #[.int .i64 0, .slice none 0 0], []⟩).memory Tryd.f4.params.toList Rows.walRoundsSpec.vars false (#[.int .i64 0, .slice none 0 0] : Array Value).toList 8 = some ([.lit (.int .i64 0), .nil], [], []) := by kernel_rfl
set_option maxRecDepth 100000 in
theorem lifted (os : Os) (started : os.Started) (H : Type) (enc : TypeId × Value → H) (F : Stop.Interp) :
    ReturnsInHanded {} Tryd.checked os 4 .any ((OpenSpec.ofChange Rows.walRoundsSpec).preRow enc Tryd.prog Tryd.f4 Rows.walRoundsRow.domain false Rows.walRoundsRow.laid) (((OpenSpec.ofChange Rows.walRoundsSpec).at F).post enc Tryd.prog Tryd.f4 false true false false) := by
  have hx := reads os enc
  refine returnsInHanded_of_row (C := Tryd.checked) (s := OpenSpec.ofChange Rows.walRoundsSpec) own started (by kernel_rfl) Tryd.func4
    (witness_row_at (enc := enc) (C := Tryd.checked) false (laidWorld os) #[.int .i64 0, .slice none 0 0] rfl (by kernel_rfl) (by kernel_rfl) (by kernel_rfl)
      (OpenSpec.preRow_of_cond 8 hx (by kernel_rfl) (fun k hk => by cases hk) (by kernel_rfl) (laid_met os))) ?_
  intro W base args ds gs before hval0 hW _ _ _ hL _ _
  have ht : Tab W := table_of hL
  have hval : ∀ (j : Nat) t v, Tryd.f4.params[j]? = some t → args[j]? = some v → Value.okWide Tryd.prog W .any base t v := hval0
  have hW' := hW
  obtain ⟨p, q, hA0, hV, rfl, hfz, hnd⟩ := hW
  have hA : DataW.TrodAll enc Tryd.prog W 0 (fun _ => true) true Tryd.f4.params.toList args.toList ds p := hA0
  rw [Tryd.params4] at hA hval
  obtain ⟨v0, v1, d0, d1, p0, p1, rfl, rfl, rfl, h0, h1⟩ := trodAll_two hA
  obtain ⟨rfl, rfl⟩ := trodVars_none hV
  obtain ⟨z, rfl, rfl, rfl, wc⟩ := open_int Tryd.underlying3 (hval 0 3 v0 rfl rfl) h0
  obtain ⟨bo, cap, b, rfl, hc, hm, hat⟩ := open_bytes Tryd.underlying22 Tryd.underlying5 cellsU8 (hval 1 22 v1 rfl rfl) h1
  refine (walk z bo cap b hc hm W (World.block_lt_of_cell? (a := ⟨0, 0, none⟩) W (ht 0 (by decide))) hat ht).mono fun e W' ⟨he, hb⟩ => ?_
  subst he
  exact ⟨_, rfl, post_law laidOut rfl rfl Tryd.underlying4 readable rfl rfl rfl hW' hb⟩

theorem said : Rows.WalRoundsSaid :=
  OpenClaim.holds_of_cond 4 Tryd.f4 rfl rfl rfl rfl rfl rfl rfl ⟨rfl, rfl, rfl, rfl, rfl⟩ rfl rfl rfl rfl rfl (by kernel_rfl) Tryd.func4 (by kernel_rfl)
    (of_decide_eq_true (by kernel_rfl)) (by unfold Func.isWrapper; first | (rw [if_pos (by decide +kernel)]; kernel_rfl) | (rw [if_neg (by decide +kernel)]; exact ⟨rfl, rfl⟩))
    (fun os started H enc _ F => by rw [OpenClaim.pre_eq_preRow]; exact lifted os started H enc F)

/-- No parameter wants a stand-in; the program's own looks are off. -/
theorem plain (f : FuncId) (fn : Func) (hf : Tryd.pinned.checked.prog.funcNamed "scriptor/scriptorlaw05.WalRounds" = some f) (hfn : Tryd.pinned.checked.prog.funcs[f]? = some fn) :
    false = Tryd.pinned.checked.prog.looks [] ∧ ∀ (j : Nat) t, fn.params[j]? = some t → Tryd.pinned.checked.prog.wantsStandIn t = false := by
  obtain rfl : f = 4 := Option.some.inj ((show Tryd.prog.funcNamed "scriptor/scriptorlaw05.WalRounds" = some 4 by kernel_rfl).symm.trans hf) |>.symm
  obtain rfl : fn = Tryd.f4 := (Option.some.inj (Tryd.func4.symm.trans hfn)).symm
  refine ⟨by kernel_rfl, fun j t ht => ?_⟩
  have hall : ∀ t ∈ Tryd.f4.params.toList, Tryd.prog.wantsStandIn t = false := by
    rw [Tryd.params4]
    intro t ht
    simp at ht
    rcases ht with rfl | rfl
    · kernel_rfl
    · kernel_rfl
  exact hall t (Array.mem_toList_iff.2 (Array.mem_of_getElem? ht))

theorem card : Rows.WalRoundsCardSaid :=
  Claim7.holds_tied_plain_at .later [] _ _ _ _ said (fun _ h => by cases h) (by kernel_rfl) (fun _ h => by cases h) walRounds_row_tie rfl ⟨rfl, rfl⟩ (by kernel_rfl) rfl plain (by kernel_rfl)
end Go.Proofs.YtnonhmjfhcmpgaaDoor.walRounds
