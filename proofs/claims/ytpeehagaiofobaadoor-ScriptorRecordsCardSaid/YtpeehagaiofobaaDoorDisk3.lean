/- The walks of a disk's settling: Barrier and Crash; of New, Arm, Off, Steps. -/
import Derived.Test.YtpeehagaiofobaaDoorDisk2
namespace Go.Proofs.YtpeehagaiofobaaDoor
open Go.RowKit

theorem flat2 : ∀ (xs : List (List Value)), (∀ r ∈ xs, r.length = 2) → ∀ (i : Nat) (r : List Value), xs[i]? = some r → ∀ j, j < 2 → xs.flatten[i * 2 + j]? = r[j]?
  | [], _, i, r, h, _, _ => by simp at h
  | x :: xs, hl, 0, r, h, j, hj => by
    have hx := hl x (by simp)
    simp at h
    subst h
    rw [List.flatten_cons, Nat.zero_mul, Nat.zero_add, List.getElem?_append_left (by omega)]
  | x :: xs, hl, i + 1, r, h, j, hj => by
    have hx := hl x (by simp)
    rw [List.flatten_cons, List.getElem?_append_right (by omega), hx, show (i + 1) * 2 + j - 2 = i * 2 + j by omega]
    exact flat2 xs (fun r hr => hl r (by simp [hr])) i r (by simpa using h) j hj

theorem seq_ldss {o : Oper} {x : Operand} {a : Act} {w : World} (ho : o.op = .load 31 x) {ad : Addr} {v : Value} (hx : a.eval x = .pointer (some ad)) (hc : w.cell? ad = some v) :
    ∀ w', Below w.heap.size w w' → (execOp a.eval o).run Tryd.prog w' = .ok (.value v) w' := by
  intro w' hb
  have hc' : w'.cell? ad = some v := (World.cell?_of_block (hb.block ad.block (World.block_lt_of_cell? (a := ad) w hc))).trans hc
  have hu := Tryd.underlying31
  unfold execOp
  simp only [ho, hx]
  go_simp
theorem seq_ldb {o : Oper} {x : Operand} {a : Act} {w : World} (ho : o.op = .load 40 x) {ad : Addr} {v : Value} (hx : a.eval x = .pointer (some ad)) (hc : w.cell? ad = some v) :
    ∀ w', Below w.heap.size w w' → (execOp a.eval o).run Tryd.prog w' = .ok (.value v) w' := by
  intro w' hb
  have hc' : w'.cell? ad = some v := (World.cell?_of_block (hb.block ad.block (World.block_lt_of_cell? (a := ad) w hc))).trans hc
  have hu := Tryd.underlying40
  unfold execOp
  simp only [ho, hx]
  go_simp
theorem yes_any (n : Int) (w : World) : Calls Tryd.prog 40 #[.int .i64 n] w (fun e w' => e = .returned (.bool true) ∧ w = w') := by
  go_enter Tryd.func40, Tryd.ntmps40
  go_wp2_with fail
  go_returns
  exact ⟨rfl, rfl⟩

/-- Is a write picked? -/
def kpick (P : List Int) (i : Nat) : Bool := match P[i]? with
  | some z => z % 2 == 1
  | none => false
theorem and_one (z : Int) : bits .and .i64 z 1 = z % 2 := by
  have h1 : (BitVec.ofInt 64 z).toNat = (z % 18446744073709551616).toNat := by rw [BitVec.toNat_ofInt]; rfl
  show IntKind.i64.wrap ((BitVec.ofInt 64 z &&& BitVec.ofInt 64 1).toNat : Int) = _
  rw [BitVec.toNat_and, h1, show (BitVec.ofInt 64 1).toNat = 1 from rfl, Nat.and_one_is_mod, IntKind.wrap_i64]
  omega
set_option maxHeartbeats 400000 in
theorem pick_any (gb : Nat) (po : Option Addr) (pcap : Nat) (P : List Int) (hP : P.length ≤ 9223372036854775807) (i : Nat) (w : World) (hcb : w.cell? ⟨gb, 0, none⟩ = some (.slice po P.length pcap)) (hpat : At w po (P.map (Value.int .i64))) :
    Calls Tryd.prog 29 #[.int .i64 (i : Int), .pointer (some ⟨gb, 0, none⟩)] w (fun e w' => e = .returned (.bool (kpick P i)) ∧ w = w') := by
  go_enter Tryd.func29, Tryd.ntmps29
  by_cases hi : i < P.length
  · obtain ⟨b, o, rfl, hcell⟩ := At.exv hpat i (by simpa using hi)
    rw [List.getElem_map] at hcell
    have HK := Lib.hid (show kpick P i = (P[i] % 2 == 1) by unfold kpick; rw [List.getElem?_eq_getElem hi])
    have hz := and_one P[i]
    generalize P[i] = z at *
    clear hpat
    go_wp2_with fail
    go_returns
    rw [HK.out]
    exact ⟨rfl, rfl⟩
  · have HK := Lib.hid (show kpick P i = false by unfold kpick; rw [List.getElem?_eq_none (by omega)])
    clear hpat
    go_wp2_with fail
    go_returns
    rw [HK.out]
    exact ⟨rfl, rfl⟩

/-- The disk in the midst of settling: the fields' leads stay. -/
def Mid (B : Nat) (w : World) (I : Nat → Prop) (d lb lcap mb : Nat) (wo : Option Addr) (wcap : Nat) (f : Int → Option Value) (xs : List (List Value)) (s : DS) : Prop :=
  w.heap[d]? = some (.cells #[.slice (some ⟨lb, 0, none⟩) s.L.length lcap, .map (some mb), .slice wo s.W.length wcap, .int .i64 s.left, .bool s.off, .int .i64 (s.steps : Int)] 52 (0, 0)) ∧
  ∃ lc, DBody B w I lb lcap mb wo wcap lc f xs s

theorem Mid.keeps {B : Nat} {X I : Nat → Prop} {w w' : World} {d lb lcap mb : Nat} {wo : Option Addr} {wcap : Nat} {f : Int → Option Value} {xs : List (List Value)} {s : DS} (h : Mid B w I d lb lcap mb wo wcap f xs s) (hk : Keeps X w w')
    (hd : ¬ X d) (hI : ∀ g, I g → ¬ X g) (hl : ¬ X lb) (hm : ¬ X mb) (hw : ∀ b, blk wo = some b → ¬ X b) : Mid B w' I d lb lcap mb wo wcap f xs s := by
  obtain ⟨h1, lc, h2⟩ := h
  exact ⟨(hk.block d (Array.getElem?_eq_some_iff.1 h1).1 hd).trans h1, lc, h2.keeps hk hI hl hm hw⟩
theorem Mid.below {B : Nat} {I : Nat → Prop} {w w' : World} {d lb lcap mb : Nat} {wo : Option Addr} {wcap : Nat} {f : Int → Option Value} {xs : List (List Value)} {s : DS} (h : Mid B w I d lb lcap mb wo wcap f xs s) (hb : Below w.heap.size w w') : Mid B w' I d lb lcap mb wo wcap f xs s :=
  h.keeps (X := fun _ => False) (Keeps.of_below hb) (fun h => h) (fun _ _ h => h) (fun h => h) (fun h => h) (fun _ _ h => h)
/-- A sector is laid into those that last. -/
theorem Mid.store {B : Nat} {I : Nat → Prop} {w : World} {d lb lcap mb : Nat} {wo : Option Addr} {wcap : Nat} {f : Int → Option Value} {xs : List (List Value)} {s : DS} (h : Mid B w I d lb lcap mb wo wcap f xs s) (hdl : d ≠ lb) (n : Nat) (v : Value) (b : List UInt8) (hs : SecV w I v b) :
    Mid B (w.setCell ⟨lb, n, none⟩ v) I d lb lcap mb wo wcap f xs { s with L := s.L.set n (some b) } := by
  obtain ⟨h1, lc, h2⟩ := h
  have hg := setCell_grown0 w lb n v
  have K : Keeps (fun i => i = lb) w (w.setCell ⟨lb, n, none⟩ v) := Keeps.of_grown hg rfl
  have hI : ∀ i, I i → ¬ i = lb := fun i hi e => h2.il (by rw [← e]; exact hi)
  have hv := hs.keeps (J := I) K (fun g hg _ => hI g hg) (fun _ h => h)
  refine ⟨?_, lc.set n v, ?_⟩
  · rw [hg.block d (Array.getElem?_eq_some_iff.1 h1).1 (by simp [hdl]), h1]
    simp
  · exact {
      lasts := by simpa using (h2.lasts.stored n v).1
      lasts2 := (h2.lasts2.mono fun a o _ ho => (by
        cases o with
        | none => exact ho
        | some b => exact SecV.keeps (J := I) ho K (fun g hg _ => hI g hg) (fun _ h => h) : LastV (w.setCell ⟨lb, n, none⟩ v) I a o)).set n hv
      map := h2.map.keeps K (fun e => h2.lm e.symm)
      mapB := h2.mapB
      now := fun z => by
        have := h2.now z
        show match lastW s.W z with | none => _ | some b => _
        cases hl : lastW s.W z with
        | none => rw [hl] at this; exact this
        | some b =>
          rw [hl] at this
          obtain ⟨v, hv, hs⟩ := this
          exact ⟨v, hv, hs.keeps K (fun g hg _ => hI g hg) (fun _ h => h)⟩
      waits := owns_keeps h2.waits K (by rw [own_slice]; intro i hi e; exact h2.wl (by rw [hi, e]))
      waits2 := h2.waits2.mono fun a p _ ⟨v, hv, hs⟩ => ⟨v, hv, hs.keeps K (fun g hg _ => hI g hg) (fun _ h => h)⟩
      imm := fun b hb => ⟨(h2.imm b hb).1, Nat.lt_of_lt_of_le (h2.imm b hb).2 K.size⟩
      lm := h2.lm
      wl := h2.wl
      wm := h2.wm
      il := h2.il
      iM := h2.iM
      iw := h2.iw }

set_option maxRecDepth 100000 in
set_option maxHeartbeats 2000000 in
theorem settle_all {B : Nat} {M I : Nat → Prop} {d : Nat} {s : DS} (w : World) (h : DiskAt B w M I d s) (hW : s.W.length ≤ 1000000000) (hB : B ≤ w.heap.size)  :
    Calls Tryd.prog 28 #[.pointer (some ⟨d, 0, none⟩), .func (.func 40) #[] #[]] w (fun e w' => (∃ v, e = .returned v) ∧ Upd B w M I d { s with L := settleL s.L s.W (s.W.map fun _ => true), W := [] } w') := by
  obtain ⟨ks, hks⟩ : ∃ ks, ks = s.W.map fun _ => true := ⟨_, rfl⟩
  have hkl : ks.length = s.W.length := by rw [hks]; simp
  rw [← hks]
  have HKS := Lib.hid hks
  have HKL := Lib.hid hkl
  clear hks hkl
  have hdM : M d := by obtain ⟨_, _, _, _, _, _, _, _, _, _, _, _, _, _, _, _, h6⟩ := h; exact (h6 d).2 (.inl rfl)
  have H00 := Lib.hid h
  obtain ⟨lb, lcap, mb, wo, wcap, lc, f, xs, hd, hbd, hBd, h1, h2, h3, h4, h5, h6⟩ := h
  have c2 := cell_of_row _ d 2 _ _ (0, 0) hd
  simp only [List.getElem?_toArray, List.getElem?_cons_succ, List.getElem?_cons_zero] at c2
  have H := Lib.hid (show Mid B w I d lb lcap mb wo wcap f xs s from ⟨hd, lc, hbd⟩)
  have HN := Lib.hid (And.intro h1 (And.intro h2 (And.intro h3 (And.intro h4 (And.intro h5 h6)))))
  clear hd hbd h1 h2 h3 h4 h5 h6
  go_enter Tryd.func28, Tryd.ntmps28
  go_wp2_with fail
  go_loopw [11] (fun j wr => ∃ i : Nat, i ≤ s.W.length ∧ j = .int .i64 (i : Int) ∧ Mid B wr I d lb lcap mb wo wcap f xs { s with L := settleL s.L (s.W.take i) (ks.take i) } ∧ Keeps M w wr) (fun j _ => s.W.length - (intOf j).toNat)
  case atStart => exact ⟨0, by omega, rfl, by simpa [settleL] using H.out, Keeps.refl _ _⟩
  case round =>
    obtain ⟨i, hi, rfl, hmid, hk⟩ := hrel
    have hsz := hk.size
    obtain ⟨hd, lc', hbd⟩ := hmid
    have hLl : (settleL s.L (s.W.take i) (ks.take i)).length = s.L.length := settleL_length _ _ _
    simp only [hLl] at hd
    have d0 := cell_of_row _ d 0 _ _ (0, 0) hd
    have d1 := cell_of_row _ d 1 _ _ (0, 0) hd
    have fz1 := frozen_of_row _ d 1 _ _ hd
    have fz2 := frozen_of_row _ d 2 _ _ hd
    have d2 := cell_of_row _ d 2 _ _ (0, 0) hd
    simp only [List.getElem?_toArray, List.getElem?_cons_succ, List.getElem?_cons_zero] at d0 d1 d2
    have HM := Lib.hid (And.intro hd (And.intro hbd hk))
    by_cases hlt : i < s.W.length
    · obtain ⟨r, hr, v, rfl, hsec⟩ := hbd.waits2.get i hlt
      obtain ⟨p, hp⟩ : ∃ p, s.W[i] = p := ⟨_, rfl⟩
      simp only [hp] at hr hsec
      have hpl : p.1 < s.L.length := (HN.out.2.2.2.2.1.1 p (by rw [← hp]; exact List.getElem_mem hlt)).1
      have hx2 : ∀ r ∈ xs, r.length = 2 := by
        intro r hr
        obtain ⟨j, hj, rfl⟩ := List.getElem_of_mem hr
        obtain ⟨u, hu, v', e, _⟩ := hbd.waits2.get j (by rw [← hbd.waits2.1]; exact hj)
        rw [List.getElem?_eq_getElem hj] at hu
        cases hu; rw [e]; rfl
      obtain ⟨wb, rfl⟩ : ∃ wb, wo = some ⟨wb, 0, none⟩ := by
        rcases hbd.waits.2 with ⟨h, _⟩ | ⟨g', cap', cur, hv, _⟩
        · simp at h; rw [h.2.1] at hlt; simp at hlt
        · cases hv; exact ⟨g', rfl⟩
      have e0 : wr.cell? ⟨wb, i * 2, none⟩ = some (.int .i64 (p.1 : Int)) := by
        rw [hbd.waits.cellAt (i * 2) (by simp only; omega)]
        have := flat2 xs hx2 i _ hr 0 (by decide)
        simpa using this
      have e1 : wr.cell? ⟨wb, i * 2 + 1, none⟩ = some v := by
        rw [hbd.waits.cellAt (i * 2 + 1) (by simp only; omega)]
        have := flat2 xs hx2 i _ hr 1 (by decide)
        simpa using this
      have hv1 : v.oneCell' = true := by obtain ⟨g, cap, rfl, _⟩ := hsec; rfl
      obtain ⟨g, vcap, hve, hvb⟩ : ∃ g vcap, v = .slice (some ⟨g, 0, none⟩) 512 vcap ∧ True := by obtain ⟨g, cap, e, _⟩ := hsec; exact ⟨g, cap, e, trivial⟩
      subst hve
      have HP := Lib.hid (And.intro hp (And.intro hsec hr))
      have hlbr := hbd.lasts.lt lb rfl
      have hdr := (Array.getElem?_eq_some_iff.1 hd).1
      have hlc := hbd.lasts.1
      simp only [hLl] at hlc
      have hfzl : wr.frozen? ⟨lb, p.1, none⟩ = false := hbd.lasts.frozenAt p.1
      have hcl := hbd.lasts.cellAt p.1 (by simp only [hLl]; omega)
      rw [List.getElem?_eq_getElem (by omega)] at hcl
      obtain ⟨u0, hcl2⟩ : ∃ u, wr.cell? ⟨lb, p.1, none⟩ = some u := ⟨_, hcl⟩
      clear hcl
      have hlast := hbd.lasts
      simp only [hLl] at hlast
      have HST := Lib.hid hlast
      obtain ⟨k, hkb⟩ : ∃ k, ks[i]'(by rw [HKL.out]; exact hlt) = k := ⟨_, rfl⟩
      have HKB := Lib.hid hkb
      clear hp hr hsec hx2 hd hbd hk hlc hlast hkb
      go_wp2_with fail
      refine (yes_any (i : Int) _).mono ?_
      rintro e w' ⟨rfl, rfl⟩
      have hkt : k = true := by rw [← HKB.out]; simp only [HKS.out]; simp
      obtain ⟨kb, hkbb⟩ : ∃ kb, kb = true := ⟨_, rfl⟩
      rw [← hkbb] at hkt ⊢
      subst hkt
      have HKT := Lib.hid hkbb
      clear hkbb
      obtain ⟨wa, hwa⟩ : ∃ wa, wa = wr.alloc (.cells #[.int .i64 (p.1 : Int), .slice (some ⟨g, 0, none⟩) 512 vcap] 89) := ⟨_, rfl⟩
      rw [← hwa]
      have hrow : wa.heap[wr.heap.size]? = some (.cells #[.int .i64 (p.1 : Int), .slice (some ⟨g, 0, none⟩) 512 vcap] 89 (0, 0)) := by rw [hwa]; exact heap_alloc_new wr _
      have hbA : Below wr.heap.size wr wa := by rw [hwa]; exact (Below.refl _ _).alloc (Nat.le_refl _) _
      have t0 : wa.cell? ⟨wr.heap.size, 0, none⟩ = some (.int .i64 (p.1 : Int)) := cell_of_row _ _ 0 _ _ (0, 0) hrow
      have t1 : wa.cell? ⟨wr.heap.size, 1, none⟩ = some (.slice (some ⟨g, 0, none⟩) 512 vcap) := cell_of_row _ _ 1 _ _ (0, 0) hrow
      have a0 : wa.cell? ⟨d, 0, none⟩ = some (.slice (some ⟨lb, 0, none⟩) s.L.length lcap) := (World.cell?_of_block (a := ⟨d, 0, none⟩) (hbA.block d hdr)).trans d0
      have hcl3 : wa.cell? ⟨lb, p.1, none⟩ = some u0 := (World.cell?_of_block (a := ⟨lb, p.1, none⟩) (hbA.block lb hlbr.2)).trans hcl2
      have hfz3 : wa.frozen? ⟨lb, p.1, none⟩ = false := (World.frozen?_of_block (a := ⟨lb, p.1, none⟩) (hbA.block lb hlbr.2)).trans hfzl
      have hmidA : Mid B wa I d lb lcap mb (some ⟨wb, 0, none⟩) wcap f xs { s with L := settleL s.L (s.W.take i) (ks.take i) } := Mid.below ⟨by simpa only [hLl] using HM.out.1, lc', HM.out.2.1⟩ hbA
      have hKA : Keeps M w wa := HM.out.2.2.trans' (Keeps.of_below hbA)
      have hsecA : SecV wa I (.slice (some ⟨g, 0, none⟩) 512 vcap) p.2 := HP.out.2.1.keeps (X := fun _ => False) (Keeps.of_below hbA) (fun _ _ _ h => h) (fun _ h => h)
      have hsn := settleL_snoc (s.W.take i) (ks.take i) s.L p k (by simp [HKL.out])
      have htk : s.W.take (i + 1) = s.W.take i ++ [p] := by rw [List.take_succ_eq_append_getElem hlt, HP.out.1]
      have htk2 : ks.take (i + 1) = ks.take i ++ [k] := by rw [List.take_succ_eq_append_getElem (by rw [HKL.out]; exact hlt), HKB.out]
      rw [← htk, ← htk2] at hsn
      have HA := Lib.hid (And.intro hmidA (And.intro hKA (And.intro hsecA (And.intro hsn (And.intro t0 (And.intro t1 a0))))))
      have hplc : (p.1 : Int) < s.L.length := by omega
      clear hwa hrow hbA t0 t1 a0 d0 d1 d2 fz1 fz2 hfzl hcl2 hmidA hKA hsecA hsn htk htk2 e0 e1
      generalize wr.heap.size = gt at *
      cases k with
      | true =>
        go_wp2_with fail
        refine seql_start [9] (by kernel_rfl) ?_
        refine seql_take 0 (v := ?_) rfl (by kernel_rfl) (fun _ _ _ h => h) (by rfl) (fun w' hw' => ?_) ?_
        rotate_left
        · go_simp; try with_reducible rfl
        try simp only [List.getElem_toArray, List.getElem_cons_succ, List.getElem_cons_zero, Act.put, List.setIfInBounds_toArray, List.set_cons_zero, List.set_cons_succ]
        refine seql_take 1 (v := ?_) rfl (by kernel_rfl) (fun _ _ _ h => h) (by rfl) (fun w' hw' => ?_) ?_
        rotate_left
        · go_simp; try with_reducible rfl
        try simp only [List.getElem_toArray, List.getElem_cons_succ, List.getElem_cons_zero, Act.put, List.setIfInBounds_toArray, List.set_cons_zero, List.set_cons_succ]
        refine seql_take 2 (v := ?_) rfl (by kernel_rfl) (fun _ _ _ h => h) (by rfl) (fun w' hw' => ?_) ?_
        rotate_left
        · go_simp; try with_reducible rfl
        try simp only [List.getElem_toArray, List.getElem_cons_succ, List.getElem_cons_zero, Act.put, List.setIfInBounds_toArray, List.set_cons_zero, List.set_cons_succ]
        refine seql_take 3 rfl (by kernel_rfl) (fun _ _ _ h => h) (by rfl) (seq_ldss rfl rfl (HA.out.2.2.2.2.2.2)) ?_
        try simp only [List.getElem_toArray, List.getElem_cons_succ, List.getElem_cons_zero, Act.put, List.setIfInBounds_toArray, List.set_cons_zero, List.set_cons_succ]
        refine seql_take 4 (v := ?_) rfl (by kernel_rfl) (fun _ _ _ h => h) (by rfl) (fun w' hw' => ?_) ?_
        rotate_left
        · go_simp; try with_reducible rfl
        try simp only [List.getElem_toArray, List.getElem_cons_succ, List.getElem_cons_zero, Act.put, List.setIfInBounds_toArray, List.set_cons_zero, List.set_cons_succ]
        refine seql_take 5 rfl (by kernel_rfl) (fun _ _ _ h => h) (by rfl) (seq_ldi rfl rfl (HA.out.2.2.2.2.1)) ?_
        try simp only [List.getElem_toArray, List.getElem_cons_succ, List.getElem_cons_zero, Act.put, List.setIfInBounds_toArray, List.set_cons_zero, List.set_cons_succ]
        refine seql_take 6 (v := ?_) rfl (by kernel_rfl) (fun _ _ _ h => h) (by rfl) (fun w' hw' => ?_) ?_
        rotate_left
        · go_simp; try with_reducible rfl
        try simp only [List.getElem_toArray, List.getElem_cons_succ, List.getElem_cons_zero, Act.put, List.setIfInBounds_toArray, List.set_cons_zero, List.set_cons_succ]
        refine seql_take 7 rfl (by kernel_rfl) (fun _ _ _ h => h) (by rfl) (seq_ldb rfl rfl (HA.out.2.2.2.2.2.1)) ?_
        try simp only [List.getElem_toArray, List.getElem_cons_succ, List.getElem_cons_zero, Act.put, List.setIfInBounds_toArray, List.set_cons_zero, List.set_cons_succ]
        refine seql_take 8 (v := ?_) rfl (by kernel_rfl) (fun _ _ _ h => h) (by rfl) (fun w' hw' => ?_) ?_
        rotate_left
        · go_simp; try with_reducible rfl
        try simp only [List.getElem_toArray, List.getElem_cons_succ, List.getElem_cons_zero, Act.put, List.setIfInBounds_toArray, List.set_cons_zero, List.set_cons_succ]
        refine seql_last 9 rfl (by kernel_rfl) (by kernel_rfl) (by rfl) (fun KK hKK => ?_)
        go_wp2_with fail
        refine seql_done (by kernel_rfl) ?_
        go_wp2_with fail
        go_roundw
        case rel =>
          have hK2 : Keeps M wa (wa.setCell ⟨lb, p.1, none⟩ (.slice (some ⟨g, 0, none⟩) 512 vcap)).drew := (Keeps.of_grown (setCell_grown0 _ lb p.1 _) ((HN.out.2.2.2.2.2 lb).2 (by simp))).trans' (Keeps.drew M _)
          refine ⟨i + 1, by omega, by simp, ?_, HA.out.2.1.trans' hK2⟩
          rw [HA.out.2.2.2.1]
          exact (Mid.store HA.out.1 HN.out.1 p.1 _ _ HA.out.2.2.1).below ((Below.refl _ _).drew)
        case measure => simp [intOf]; omega
      | false =>
        go_wp2_with fail
        go_roundw
        case rel =>
          refine ⟨i + 1, by omega, by simp, ?_, HA.out.2.1⟩
          rw [HA.out.2.2.2.1]
          exact HA.out.1
        case measure => simp [intOf]; omega
    · obtain rfl : i = s.W.length := by omega
      have hfin : settleL s.L (s.W.take s.W.length) (ks.take s.W.length) = settleL s.L s.W ks := by rw [List.take_of_length_le (Nat.le_refl _), List.take_of_length_le (by rw [HKL.out]; exact Nat.le_refl _)]
      rw [hfin] at hbd hLl
      have HB2 := Lib.hid (And.intro hd (And.intro hbd (And.intro hk hLl)))
      have hdr := (Array.getElem?_eq_some_iff.1 hd).1
      clear hd hbd hk hfin HM hLl
      have hmm := @run_makeMap Tryd.prog
      go_wp2_with fail
      go_returns
      refine ⟨⟨_, rfl⟩, ?_⟩
      have hlbr := HB2.out.2.1.lasts.lt lb rfl
      have g1 := setCell_grown0 wr d 2 (.slice none 0 0)
      have g2 := setCell_grown0 (wr.setCell ⟨d, 2, none⟩ (.slice none 0 0)) d 1 (.map (some wr.heap.size))
      have hd1 := setCell_row0 1 (.map (some wr.heap.size)) (setCell_row0 2 (.slice none 0 0) HB2.out.1)
      have hs2 : ((wr.setCell ⟨d, 2, none⟩ (.slice none 0 0)).setCell ⟨d, 1, none⟩ (.map (some wr.heap.size))).heap.size = wr.heap.size := by simp [World.setCell]
      have K1 : Keeps (fun i => i = d) wr _ := (Keeps.of_grown (X := fun i => i = d) g1 rfl).trans' (Keeps.of_grown g2 rfl)
      generalize (wr.setCell ⟨d, 2, none⟩ (.slice none 0 0)).setCell ⟨d, 1, none⟩ (.map (some wr.heap.size)) = w2 at *
      have K0 : Keeps (fun i => i = d) wr (w2.alloc (.map #[] 0)) := K1.trans' (Keeps.alloc _ w2 _)
      have hd2 : (w2.alloc (.map #[] 0)).heap[d]? = some _ := (Below.heap_alloc w2 _ d (by omega)).trans hd1
      have hm := MapAt.made w2
      rw [hs2] at hm
      refine ⟨fun i => i = d ∨ i = lb ∨ i = wr.heap.size ∨ blk none = some i, I, ⟨lb, lcap, wr.heap.size, none, 0, lc', fun _ => none, [], ?_, ?_, hBd, HN.out.1, by omega, by simp [blk], HN.out.2.2.2.1, ?_, fun _ => Iff.rfl⟩, HB2.out.2.2.1.trans' (K0.mono fun i _ (hi : i = d) => (by rw [hi]; exact hdM)), ?_, fun i hi => .inl hi⟩
      · rw [hd2]
        simp [HB2.out.2.2.2]
      · have hb := HB2.out.2.1.keeps K0 (fun i hi e => HN.out.2.2.2.1 (by rw [← e]; exact hi)) (fun e => HN.out.1 e.symm) (fun e => HN.out.2.1 e.symm) (fun i hi e => HN.out.2.2.1 (by rw [hi, e]))
        exact {
          lasts := hb.lasts
          lasts2 := hb.lasts2
          map := hm
          mapB := by omega
          now := fun z => rfl
          waits := by simpa using World.ownsRow_nil _ B _ 2
          waits2 := All2.nil
          imm := hb.imm
          lm := by omega
          wl := by simp [blk]
          wm := by simp [blk]
          il := hb.il
          iM := fun h => by have := (HB2.out.2.1.imm _ h).2; omega
          iw := by simp [blk] }
      · obtain ⟨o1, o2, o3, o4⟩ := HN.out.2.2.2.2.1
        exact ⟨by simp, settleL_ok s.W ks s.L (fun p hp => (o1 p hp).2) o2, o3, o4⟩
      · rintro i (rfl | rfl | rfl | hi)
        · exact .inl hdM
        · exact .inl ((HN.out.2.2.2.2.2 _).2 (by simp))
        · exact .inr hsz
        · simp [blk] at hi

set_option maxRecDepth 100000 in
set_option maxHeartbeats 2000000 in
theorem settle_picks {B : Nat} {M I : Nat → Prop} {d : Nat} {s : DS} (w : World) (h : DiskAt B w M I d s) (hW : s.W.length ≤ 1000000000) (hB : B ≤ w.heap.size) (gb : Nat) (po : Option Addr) (pcap : Nat) (P : List Int) (hP : P.length ≤ 9223372036854775807) (hcb : w.cell? ⟨gb, 0, none⟩ = some (.slice po P.length pcap)) (hpat : At w po (P.map (Value.int .i64))) (hgb : ¬ M gb) (hpo : ∀ b, blk po = some b → P ≠ [] → ¬ M b) :
    Calls Tryd.prog 28 #[.pointer (some ⟨d, 0, none⟩), .func (.func 29) #[] #[.pointer (some ⟨gb, 0, none⟩)]] w (fun e w' => (∃ v, e = .returned v) ∧ Upd B w M I d { s with L := settleL s.L s.W ((List.range s.W.length).map (kpick P)), W := [] } w') := by
  obtain ⟨ks, hks⟩ : ∃ ks, ks = (List.range s.W.length).map (kpick P) := ⟨_, rfl⟩
  have hkl : ks.length = s.W.length := by rw [hks]; simp
  rw [← hks]
  have HKS := Lib.hid hks
  have HKL := Lib.hid hkl
  clear hks hkl
  have hdM : M d := by obtain ⟨_, _, _, _, _, _, _, _, _, _, _, _, _, _, _, _, h6⟩ := h; exact (h6 d).2 (.inl rfl)
  have H00 := Lib.hid h
  obtain ⟨lb, lcap, mb, wo, wcap, lc, f, xs, hd, hbd, hBd, h1, h2, h3, h4, h5, h6⟩ := h
  have c2 := cell_of_row _ d 2 _ _ (0, 0) hd
  simp only [List.getElem?_toArray, List.getElem?_cons_succ, List.getElem?_cons_zero] at c2
  have H := Lib.hid (show Mid B w I d lb lcap mb wo wcap f xs s from ⟨hd, lc, hbd⟩)
  have HN := Lib.hid (And.intro h1 (And.intro h2 (And.intro h3 (And.intro h4 (And.intro h5 h6)))))
  have HPK := Lib.hid (And.intro hcb (And.intro hpat (And.intro hgb hpo)))
  clear hcb hpat hgb hpo
  clear hd hbd h1 h2 h3 h4 h5 h6
  go_enter Tryd.func28, Tryd.ntmps28
  go_wp2_with fail
  go_loopw [11] (fun j wr => ∃ i : Nat, i ≤ s.W.length ∧ j = .int .i64 (i : Int) ∧ Mid B wr I d lb lcap mb wo wcap f xs { s with L := settleL s.L (s.W.take i) (ks.take i) } ∧ Keeps M w wr) (fun j _ => s.W.length - (intOf j).toNat)
  case atStart => exact ⟨0, by omega, rfl, by simpa [settleL] using H.out, Keeps.refl _ _⟩
  case round =>
    obtain ⟨i, hi, rfl, hmid, hk⟩ := hrel
    have hsz := hk.size
    obtain ⟨hd, lc', hbd⟩ := hmid
    have hLl : (settleL s.L (s.W.take i) (ks.take i)).length = s.L.length := settleL_length _ _ _
    simp only [hLl] at hd
    have d0 := cell_of_row _ d 0 _ _ (0, 0) hd
    have d1 := cell_of_row _ d 1 _ _ (0, 0) hd
    have fz1 := frozen_of_row _ d 1 _ _ hd
    have fz2 := frozen_of_row _ d 2 _ _ hd
    have d2 := cell_of_row _ d 2 _ _ (0, 0) hd
    simp only [List.getElem?_toArray, List.getElem?_cons_succ, List.getElem?_cons_zero] at d0 d1 d2
    have HM := Lib.hid (And.intro hd (And.intro hbd hk))
    by_cases hlt : i < s.W.length
    · obtain ⟨r, hr, v, rfl, hsec⟩ := hbd.waits2.get i hlt
      obtain ⟨p, hp⟩ : ∃ p, s.W[i] = p := ⟨_, rfl⟩
      simp only [hp] at hr hsec
      have hpl : p.1 < s.L.length := (HN.out.2.2.2.2.1.1 p (by rw [← hp]; exact List.getElem_mem hlt)).1
      have hx2 : ∀ r ∈ xs, r.length = 2 := by
        intro r hr
        obtain ⟨j, hj, rfl⟩ := List.getElem_of_mem hr
        obtain ⟨u, hu, v', e, _⟩ := hbd.waits2.get j (by rw [← hbd.waits2.1]; exact hj)
        rw [List.getElem?_eq_getElem hj] at hu
        cases hu; rw [e]; rfl
      obtain ⟨wb, rfl⟩ : ∃ wb, wo = some ⟨wb, 0, none⟩ := by
        rcases hbd.waits.2 with ⟨h, _⟩ | ⟨g', cap', cur, hv, _⟩
        · simp at h; rw [h.2.1] at hlt; simp at hlt
        · cases hv; exact ⟨g', rfl⟩
      have e0 : wr.cell? ⟨wb, i * 2, none⟩ = some (.int .i64 (p.1 : Int)) := by
        rw [hbd.waits.cellAt (i * 2) (by simp only; omega)]
        have := flat2 xs hx2 i _ hr 0 (by decide)
        simpa using this
      have e1 : wr.cell? ⟨wb, i * 2 + 1, none⟩ = some v := by
        rw [hbd.waits.cellAt (i * 2 + 1) (by simp only; omega)]
        have := flat2 xs hx2 i _ hr 1 (by decide)
        simpa using this
      have hv1 : v.oneCell' = true := by obtain ⟨g, cap, rfl, _⟩ := hsec; rfl
      obtain ⟨g, vcap, hve, hvb⟩ : ∃ g vcap, v = .slice (some ⟨g, 0, none⟩) 512 vcap ∧ True := by obtain ⟨g, cap, e, _⟩ := hsec; exact ⟨g, cap, e, trivial⟩
      subst hve
      have HP := Lib.hid (And.intro hp (And.intro hsec hr))
      have hlbr := hbd.lasts.lt lb rfl
      have hdr := (Array.getElem?_eq_some_iff.1 hd).1
      have hlc := hbd.lasts.1
      simp only [hLl] at hlc
      have hfzl : wr.frozen? ⟨lb, p.1, none⟩ = false := hbd.lasts.frozenAt p.1
      have hcl := hbd.lasts.cellAt p.1 (by simp only [hLl]; omega)
      rw [List.getElem?_eq_getElem (by omega)] at hcl
      obtain ⟨u0, hcl2⟩ : ∃ u, wr.cell? ⟨lb, p.1, none⟩ = some u := ⟨_, hcl⟩
      clear hcl
      have hlast := hbd.lasts
      simp only [hLl] at hlast
      have HST := Lib.hid hlast
      obtain ⟨k, hkb⟩ : ∃ k, ks[i]'(by rw [HKL.out]; exact hlt) = k := ⟨_, rfl⟩
      have HKB := Lib.hid hkb
      clear hp hr hsec hx2 hd hbd hk hlc hlast hkb
      go_wp2_with fail
      refine (pick_any gb po pcap P hP i _ (keeps_cell (X := fun _ => False) (Keeps.alloc _ wr _) (fun h => h) (keeps_cell HM.out.2.2 HPK.out.2.2.1 HPK.out.1)) ((HPK.out.2.1.keeps HM.out.2.2 (fun b hb hne => HPK.out.2.2.2 b hb (by intro e; exact hne (by simp [e])))).keeps (X := fun _ => False) (Keeps.alloc _ wr _) (fun _ _ _ h => h))).mono ?_
      rintro e w' ⟨rfl, rfl⟩
      have hkt : k = kpick P i := by rw [← HKB.out]; simp only [HKS.out]; simp
      rw [← hkt]
      clear hkt
      obtain ⟨wa, hwa⟩ : ∃ wa, wa = wr.alloc (.cells #[.int .i64 (p.1 : Int), .slice (some ⟨g, 0, none⟩) 512 vcap] 89) := ⟨_, rfl⟩
      rw [← hwa]
      have hrow : wa.heap[wr.heap.size]? = some (.cells #[.int .i64 (p.1 : Int), .slice (some ⟨g, 0, none⟩) 512 vcap] 89 (0, 0)) := by rw [hwa]; exact heap_alloc_new wr _
      have hbA : Below wr.heap.size wr wa := by rw [hwa]; exact (Below.refl _ _).alloc (Nat.le_refl _) _
      have t0 : wa.cell? ⟨wr.heap.size, 0, none⟩ = some (.int .i64 (p.1 : Int)) := cell_of_row _ _ 0 _ _ (0, 0) hrow
      have t1 : wa.cell? ⟨wr.heap.size, 1, none⟩ = some (.slice (some ⟨g, 0, none⟩) 512 vcap) := cell_of_row _ _ 1 _ _ (0, 0) hrow
      have a0 : wa.cell? ⟨d, 0, none⟩ = some (.slice (some ⟨lb, 0, none⟩) s.L.length lcap) := (World.cell?_of_block (a := ⟨d, 0, none⟩) (hbA.block d hdr)).trans d0
      have hcl3 : wa.cell? ⟨lb, p.1, none⟩ = some u0 := (World.cell?_of_block (a := ⟨lb, p.1, none⟩) (hbA.block lb hlbr.2)).trans hcl2
      have hfz3 : wa.frozen? ⟨lb, p.1, none⟩ = false := (World.frozen?_of_block (a := ⟨lb, p.1, none⟩) (hbA.block lb hlbr.2)).trans hfzl
      have hmidA : Mid B wa I d lb lcap mb (some ⟨wb, 0, none⟩) wcap f xs { s with L := settleL s.L (s.W.take i) (ks.take i) } := Mid.below ⟨by simpa only [hLl] using HM.out.1, lc', HM.out.2.1⟩ hbA
      have hKA : Keeps M w wa := HM.out.2.2.trans' (Keeps.of_below hbA)
      have hsecA : SecV wa I (.slice (some ⟨g, 0, none⟩) 512 vcap) p.2 := HP.out.2.1.keeps (X := fun _ => False) (Keeps.of_below hbA) (fun _ _ _ h => h) (fun _ h => h)
      have hsn := settleL_snoc (s.W.take i) (ks.take i) s.L p k (by simp [HKL.out])
      have htk : s.W.take (i + 1) = s.W.take i ++ [p] := by rw [List.take_succ_eq_append_getElem hlt, HP.out.1]
      have htk2 : ks.take (i + 1) = ks.take i ++ [k] := by rw [List.take_succ_eq_append_getElem (by rw [HKL.out]; exact hlt), HKB.out]
      rw [← htk, ← htk2] at hsn
      have HA := Lib.hid (And.intro hmidA (And.intro hKA (And.intro hsecA (And.intro hsn (And.intro t0 (And.intro t1 a0))))))
      have hplc : (p.1 : Int) < s.L.length := by omega
      clear hwa hrow hbA t0 t1 a0 d0 d1 d2 fz1 fz2 hfzl hcl2 hmidA hKA hsecA hsn htk htk2 e0 e1
      generalize wr.heap.size = gt at *
      cases k with
      | true =>
        go_wp2_with fail
        refine seql_start [9] (by kernel_rfl) ?_
        refine seql_take 0 (v := ?_) rfl (by kernel_rfl) (fun _ _ _ h => h) (by rfl) (fun w' hw' => ?_) ?_
        rotate_left
        · go_simp; try with_reducible rfl
        try simp only [List.getElem_toArray, List.getElem_cons_succ, List.getElem_cons_zero, Act.put, List.setIfInBounds_toArray, List.set_cons_zero, List.set_cons_succ]
        refine seql_take 1 (v := ?_) rfl (by kernel_rfl) (fun _ _ _ h => h) (by rfl) (fun w' hw' => ?_) ?_
        rotate_left
        · go_simp; try with_reducible rfl
        try simp only [List.getElem_toArray, List.getElem_cons_succ, List.getElem_cons_zero, Act.put, List.setIfInBounds_toArray, List.set_cons_zero, List.set_cons_succ]
        refine seql_take 2 (v := ?_) rfl (by kernel_rfl) (fun _ _ _ h => h) (by rfl) (fun w' hw' => ?_) ?_
        rotate_left
        · go_simp; try with_reducible rfl
        try simp only [List.getElem_toArray, List.getElem_cons_succ, List.getElem_cons_zero, Act.put, List.setIfInBounds_toArray, List.set_cons_zero, List.set_cons_succ]
        refine seql_take 3 rfl (by kernel_rfl) (fun _ _ _ h => h) (by rfl) (seq_ldss rfl rfl (HA.out.2.2.2.2.2.2)) ?_
        try simp only [List.getElem_toArray, List.getElem_cons_succ, List.getElem_cons_zero, Act.put, List.setIfInBounds_toArray, List.set_cons_zero, List.set_cons_succ]
        refine seql_take 4 (v := ?_) rfl (by kernel_rfl) (fun _ _ _ h => h) (by rfl) (fun w' hw' => ?_) ?_
        rotate_left
        · go_simp; try with_reducible rfl
        try simp only [List.getElem_toArray, List.getElem_cons_succ, List.getElem_cons_zero, Act.put, List.setIfInBounds_toArray, List.set_cons_zero, List.set_cons_succ]
        refine seql_take 5 rfl (by kernel_rfl) (fun _ _ _ h => h) (by rfl) (seq_ldi rfl rfl (HA.out.2.2.2.2.1)) ?_
        try simp only [List.getElem_toArray, List.getElem_cons_succ, List.getElem_cons_zero, Act.put, List.setIfInBounds_toArray, List.set_cons_zero, List.set_cons_succ]
        refine seql_take 6 (v := ?_) rfl (by kernel_rfl) (fun _ _ _ h => h) (by rfl) (fun w' hw' => ?_) ?_
        rotate_left
        · go_simp; try with_reducible rfl
        try simp only [List.getElem_toArray, List.getElem_cons_succ, List.getElem_cons_zero, Act.put, List.setIfInBounds_toArray, List.set_cons_zero, List.set_cons_succ]
        refine seql_take 7 rfl (by kernel_rfl) (fun _ _ _ h => h) (by rfl) (seq_ldb rfl rfl (HA.out.2.2.2.2.2.1)) ?_
        try simp only [List.getElem_toArray, List.getElem_cons_succ, List.getElem_cons_zero, Act.put, List.setIfInBounds_toArray, List.set_cons_zero, List.set_cons_succ]
        refine seql_take 8 (v := ?_) rfl (by kernel_rfl) (fun _ _ _ h => h) (by rfl) (fun w' hw' => ?_) ?_
        rotate_left
        · go_simp; try with_reducible rfl
        try simp only [List.getElem_toArray, List.getElem_cons_succ, List.getElem_cons_zero, Act.put, List.setIfInBounds_toArray, List.set_cons_zero, List.set_cons_succ]
        refine seql_last 9 rfl (by kernel_rfl) (by kernel_rfl) (by rfl) (fun KK hKK => ?_)
        go_wp2_with fail
        refine seql_done (by kernel_rfl) ?_
        go_wp2_with fail
        go_roundw
        case rel =>
          have hK2 : Keeps M wa (wa.setCell ⟨lb, p.1, none⟩ (.slice (some ⟨g, 0, none⟩) 512 vcap)).drew := (Keeps.of_grown (setCell_grown0 _ lb p.1 _) ((HN.out.2.2.2.2.2 lb).2 (by simp))).trans' (Keeps.drew M _)
          refine ⟨i + 1, by omega, by simp, ?_, HA.out.2.1.trans' hK2⟩
          rw [HA.out.2.2.2.1]
          exact (Mid.store HA.out.1 HN.out.1 p.1 _ _ HA.out.2.2.1).below ((Below.refl _ _).drew)
        case measure => simp [intOf]; omega
      | false =>
        go_wp2_with fail
        go_roundw
        case rel =>
          refine ⟨i + 1, by omega, by simp, ?_, HA.out.2.1⟩
          rw [HA.out.2.2.2.1]
          exact HA.out.1
        case measure => simp [intOf]; omega
    · obtain rfl : i = s.W.length := by omega
      have hfin : settleL s.L (s.W.take s.W.length) (ks.take s.W.length) = settleL s.L s.W ks := by rw [List.take_of_length_le (Nat.le_refl _), List.take_of_length_le (by rw [HKL.out]; exact Nat.le_refl _)]
      rw [hfin] at hbd hLl
      have HB2 := Lib.hid (And.intro hd (And.intro hbd (And.intro hk hLl)))
      have hdr := (Array.getElem?_eq_some_iff.1 hd).1
      clear hd hbd hk hfin HM hLl
      have hmm := @run_makeMap Tryd.prog
      go_wp2_with fail
      go_returns
      refine ⟨⟨_, rfl⟩, ?_⟩
      have hlbr := HB2.out.2.1.lasts.lt lb rfl
      have g1 := setCell_grown0 wr d 2 (.slice none 0 0)
      have g2 := setCell_grown0 (wr.setCell ⟨d, 2, none⟩ (.slice none 0 0)) d 1 (.map (some wr.heap.size))
      have hd1 := setCell_row0 1 (.map (some wr.heap.size)) (setCell_row0 2 (.slice none 0 0) HB2.out.1)
      have hs2 : ((wr.setCell ⟨d, 2, none⟩ (.slice none 0 0)).setCell ⟨d, 1, none⟩ (.map (some wr.heap.size))).heap.size = wr.heap.size := by simp [World.setCell]
      have K1 : Keeps (fun i => i = d) wr _ := (Keeps.of_grown (X := fun i => i = d) g1 rfl).trans' (Keeps.of_grown g2 rfl)
      generalize (wr.setCell ⟨d, 2, none⟩ (.slice none 0 0)).setCell ⟨d, 1, none⟩ (.map (some wr.heap.size)) = w2 at *
      have K0 : Keeps (fun i => i = d) wr (w2.alloc (.map #[] 0)) := K1.trans' (Keeps.alloc _ w2 _)
      have hd2 : (w2.alloc (.map #[] 0)).heap[d]? = some _ := (Below.heap_alloc w2 _ d (by omega)).trans hd1
      have hm := MapAt.made w2
      rw [hs2] at hm
      refine ⟨fun i => i = d ∨ i = lb ∨ i = wr.heap.size ∨ blk none = some i, I, ⟨lb, lcap, wr.heap.size, none, 0, lc', fun _ => none, [], ?_, ?_, hBd, HN.out.1, by omega, by simp [blk], HN.out.2.2.2.1, ?_, fun _ => Iff.rfl⟩, HB2.out.2.2.1.trans' (K0.mono fun i _ (hi : i = d) => (by rw [hi]; exact hdM)), ?_, fun i hi => .inl hi⟩
      · rw [hd2]
        simp [HB2.out.2.2.2]
      · have hb := HB2.out.2.1.keeps K0 (fun i hi e => HN.out.2.2.2.1 (by rw [← e]; exact hi)) (fun e => HN.out.1 e.symm) (fun e => HN.out.2.1 e.symm) (fun i hi e => HN.out.2.2.1 (by rw [hi, e]))
        exact {
          lasts := hb.lasts
          lasts2 := hb.lasts2
          map := hm
          mapB := by omega
          now := fun z => rfl
          waits := by simpa using World.ownsRow_nil _ B _ 2
          waits2 := All2.nil
          imm := hb.imm
          lm := by omega
          wl := by simp [blk]
          wm := by simp [blk]
          il := hb.il
          iM := fun h => by have := (HB2.out.2.1.imm _ h).2; omega
          iw := by simp [blk] }
      · obtain ⟨o1, o2, o3, o4⟩ := HN.out.2.2.2.2.1
        exact ⟨by simp, settleL_ok s.W ks s.L (fun p hp => (o1 p hp).2) o2, o3, o4⟩
      · rintro i (rfl | rfl | rfl | hi)
        · exact .inl hdM
        · exact .inl ((HN.out.2.2.2.2.2 _).2 (by simp))
        · exact .inr hsz
        · simp [blk] at hi

end Go.Proofs.YtpeehagaiofobaaDoor
