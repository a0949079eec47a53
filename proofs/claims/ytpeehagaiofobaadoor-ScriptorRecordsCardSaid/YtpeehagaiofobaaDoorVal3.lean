/- The walks of val.put and val.Encode: a value's bytes. -/
import Derived.Test.YtpeehagaiofobaaDoorVal2
import Derived.Deep.CutRange
import Derived.Deep.CutBlock
namespace Go.Proofs.YtpeehagaiofobaaDoor
open Go.RowKit

theorem seq_ldk {o : Oper} {x : Operand} {a : Act} {w : World} (ho : o.op = .load 22 x) {ad : Addr} {v : Value} (hx : a.eval x = .pointer (some ad)) (hc : w.cell? ad = some v) :
    ∀ w', Below w.heap.size w w' → (execOp a.eval o).run Tryd.prog w' = .ok (.value v) w' := by
  intro w' hb
  have hc' := (World.cell?_of_block (hb.block ad.block (World.block_lt_of_cell? (a := ad) w hc))).trans hc
  have hu := Tryd.underlying22
  unfold execOp
  simp only [ho, hx]
  go_simp
theorem encS_eq (t : List UInt8) : enc (⟨t.toArray⟩ : ByteArray).size ++ (⟨t.toArray⟩ : ByteArray).data.toList = encS t := by
  have : (⟨t.toArray⟩ : ByteArray).size = t.length := by simp [ByteArray.size]
  rw [this]
  rfl
theorem putVs_snoc : ∀ (xs : List PV) (b : List UInt8) (x : PV), putVs b (xs ++ [x]) = putV (putVs b xs) x
  | [], b, x => by simp [putVs]
  | y :: ys, b, x => by
    show putVs b (y :: (ys ++ [x])) = _
    rw [putVs, putVs_snoc ys, putVs]
theorem fits_text {k m : Int} {t : List UInt8} {n : Nat} (h : fitsV floatOk k m t n = true) : (k = 1 ∨ k = 2) → t.length ≤ 4096 := by
  rintro (rfl | rfl) <;> simp [fitsV] at h <;> omega
theorem fits_kids {k m : Int} {t : List UInt8} {n : Nat} (h : fitsV floatOk k m t n = true) : n ≤ 8 := by
  unfold fitsV at h
  repeat' split at h
  all_goals simp at h
  all_goals omega
theorem fits_num {k m : Int} {t : List UInt8} {n : Nat} (h : fitsV floatOk k m t n = true) : R64 k ∧ R64 m := by
  unfold fitsV at h
  unfold R64
  repeat' split at h
  all_goals simp at h
  all_goals omega
theorem headB_len {k m : Int} {t : List UInt8} {n : Nat} (h : fitsV floatOk k m t n = true) : (headB k m t n).length ≤ 4200 := by
  have ht := fits_text h
  have hk := fits_kids h
  obtain ⟨⟨k0, k1⟩, ⟨m0, m1⟩⟩ := fits_num h
  have h1 := enc_len k k0 k1
  have h2 := enc_len m m0 m1
  have h3 := enc_len n (by omega) (by omega)
  unfold headB
  rw [List.length_append]
  split
  · omega
  · split
    · rename_i hkk
      have := ht hkk
      have h4 := enc_len t.length (by omega) (by omega)
      rw [encS, List.length_append]
      omega
    · split
      · rw [List.length_append]; omega
      · split
        · omega
        · simp; omega
theorem rightV_mk {d : Nat} {k m : Int} {t : List UInt8} {ks : List PV} (h : rightV floatOk d (.mk k m t ks) = true) : fitsV floatOk k m t ks.length = true ∧ rightVs floatOk (d + 1) ks = true ∧ d ≤ 200 := by
  rw [rightV] at h
  simp at h
  exact ⟨h.1.2, h.2, h.1.1⟩
theorem rightVs_get {d : Nat} : ∀ {ks : List PV}, rightVs floatOk d ks = true → ∀ i (hi : i < ks.length), rightV floatOk d ks[i] = true
  | x :: xs, h, 0, _ => by rw [rightVs] at h; simp at h; exact h.1
  | x :: xs, h, i + 1, hi => by rw [rightVs] at h; simp at h; exact rightVs_get h.2 i (Nat.lt_of_succ_lt_succ hi)
mutual
theorem putV_le : ∀ (x : PV) (d : Nat) (b : List UInt8), rightV floatOk d x = true → b.length ≤ 21000 → (putV b x).length ≤ 21000
  | .mk k m t ks, d, b, h, hb => by
    obtain ⟨h1, h2, _⟩ := rightV_mk h
    unfold putV
    split
    · exact hb
    · exact putVs_le ks (d + 1) _ h2 (by rw [List.length_append]; have := headB_len h1; omega)
theorem putVs_le : ∀ (xs : List PV) (d : Nat) (b : List UInt8), rightVs floatOk d xs = true → b.length ≤ 21000 → (putVs b xs).length ≤ 21000
  | [], _, b, _, hb => by unfold putVs; exact hb
  | x :: xs, d, b, h, hb => by
    rw [rightVs] at h
    simp at h
    unfold putVs
    exact putVs_le xs d _ h.2 (putV_le x d b h.1 hb)
end

/-- Bytes of the call's own, grown. -/
def Grew2 (w : World) (base : Nat) (ao : Option Addr) (l : List UInt8) (e : Ending) (w' : World) : Prop :=
  ∃ ao' cap', e = .returned (.slice ao' l.length cap') ∧ w'.ownsRow base 5 1 (.slice ao' l.length cap') l.length (bytesV l) ∧ Keeps (fun j => blk ao = some j) w w' ∧ ∀ j, blk ao' = some j → blk ao = some j ∨ w.heap.size ≤ j
/-- In the midst of put: the bytes so far; the value's own copy lies in the block w.heap.size. -/
def PS (w : World) (base : Nat) (ao : Option Addr) (k m : Int) (t : List UInt8) (ko : Option Addr) (n kcap : Nat) (ao' : Option Addr) (cap' : Nat) (l : List UInt8) (w' : World) : Prop :=
  w'.ownsRow base 5 1 (.slice ao' l.length cap') l.length (bytesV l) ∧ Keeps (fun j => blk ao = some j) w w' ∧ (∀ j, blk ao' = some j → blk ao = some j ∨ w.heap.size < j) ∧ ValAt w' w.heap.size k m t ko n kcap ∧ w.heap.size < w'.heap.size
theorem PS.app {w w1 w2 w3 : World} {base : Nat} {ao ao1 ao3 : Option Addr} {k m : Int} {t : List UInt8} {ko : Option Addr} {n kcap cap1 cap3 : Nat} {l1 l2 : List UInt8} (h : PS w base ao k m t ko n kcap ao1 cap1 l1 w1) (hlt : ∀ j, blk ao = some j → j < w.heap.size) (hb : Below w1.heap.size w1 w2) (ha : Appended w2 base (blk ao1) (l1 ++ l2) ao3 cap3 w3) :
    PS w base ao k m t ko n kcap ao3 cap3 (l1 ++ l2) w3 := by
  obtain ⟨h1, h2, h3, h4, h5⟩ := h
  obtain ⟨a1, a2, a3⟩ := ha
  have hs2 := hb.size
  have hs3 := a2.size
  refine ⟨a1, (h2.trans (Keeps.of_below (X := fun _ => False) hb) fun _ _ h => h.elim).trans (Keeps.of_grown' (X := fun j => blk ao1 = some j) a2 fun _ h => h) (fun i hi hy => ?_), fun j hj => ?_, ?_, by omega⟩
  · rcases h3 i hy with h | h
    · exact h
    · omega
  · rcases a3 with h | h
    · exact h3 j (by rw [← h]; exact hj)
    · have := h j hj
      exact .inr (by omega)
  · have h6 := h4.below hb
    have hne : blk ao1 ≠ some w.heap.size := fun h => by
      rcases h3 _ h with h | h
      · exact absurd (hlt _ h) (Nat.lt_irrefl _)
      · omega
    have hblk := a2.block w.heap.size (by omega) (fun h => hne h.symm)
    exact ⟨(World.cell?_of_block (a := ⟨w.heap.size, 0, none⟩) hblk).trans h6.1, (World.cell?_of_block (a := ⟨w.heap.size, 1, none⟩) hblk).trans h6.2.1, (World.cell?_of_block (a := ⟨w.heap.size, 2, none⟩) hblk).trans h6.2.2.1, (World.cell?_of_block (a := ⟨w.heap.size, 3, none⟩) hblk).trans h6.2.2.2⟩
theorem PS.put {w w1 w2 w3 : World} {base : Nat} {ao ao1 : Option Addr} {k m : Int} {t : List UInt8} {ko : Option Addr} {n kcap cap1 : Nat} {l1 l3 : List UInt8} {e : Ending} (h : PS w base ao k m t ko n kcap ao1 cap1 l1 w1) (hlt : ∀ j, blk ao = some j → j < w.heap.size) (hb : Below w1.heap.size w1 w2) (hg : Grew2 w2 base ao1 l3 e w3) :
    ∃ ao3 cap3, e = .returned (.slice ao3 l3.length cap3) ∧ PS w base ao k m t ko n kcap ao3 cap3 l3 w3 := by
  obtain ⟨h1, h2, h3, h4, h5⟩ := h
  obtain ⟨ao3, cap3, rfl, g1, g2, g3⟩ := hg
  have hs2 := hb.size
  have hs3 := g2.size
  refine ⟨ao3, cap3, rfl, g1, (h2.trans (Keeps.of_below (X := fun _ => False) hb) fun _ _ h => h.elim).trans g2 (fun i hi hy => ?_), fun j hj => ?_, ?_, by omega⟩
  · rcases h3 i hy with h | h
    · exact h
    · omega
  · rcases g3 j hj with h | h
    · exact h3 j h
    · exact .inr (by omega)
  · have h6 := h4.below hb
    have hne : ¬ blk ao1 = some w.heap.size := fun h => by
      rcases h3 _ h with h | h
      · exact absurd (hlt _ h) (Nat.lt_irrefl _)
      · omega
    exact ⟨keeps_cell g2 hne h6.1, keeps_cell g2 hne h6.2.1, keeps_cell g2 hne h6.2.2.1, keeps_cell g2 hne h6.2.2.2⟩
theorem VsIn.there {w : World} {D : Nat → Prop} {n : Nat} {ao : Option Addr} {xs : List PV} (h : VsIn w D n ao xs) : VsIn w (fun b => D b ∧ b < w.heap.size) n ao xs := by
  have h' := h
  obtain ⟨rows, h3, h4, h5⟩ := h
  refine ⟨rows, h3, fun hne b hb => ⟨h4 hne b hb, ?_⟩, h5.mono fun _ _ _ h => h.there⟩
  obtain ⟨b', o, _, e, _, _, _, hlt⟩ := h'.get 0 (List.length_pos_iff.2 hne)
  rw [e] at hb
  cases hb
  exact hlt
def PutOk (N : Nat) : Prop := ∀ (x : PV) (d : Nat), rightV floatOk d x = true → ∀ (w : World) (D : Nat → Prop) (cs : List Value), VIn w D N cs x → ∀ (base : Nat) (ao : Option Addr) (cap : Nat) (l : List UInt8), w.ownsRow base 5 1 (.slice ao l.length cap) l.length (bytesV l) → base ≤ w.heap.size → (∀ j, blk ao = some j → ¬ D j) → l.length ≤ 21000 →
  Calls Tryd.prog 24 #[.slice ao l.length cap, .agg cs.toArray] w (Grew2 w base ao (putV l x))
set_option maxRecDepth 100000 in
set_option maxHeartbeats 4000000 in
theorem put_any : ∀ N : Nat, PutOk N
  | 0 => fun _ _ _ _ _ _ h => h.elim
  | N + 1 => by
    have ih := put_any N
    rintro ⟨k, m, t, ks⟩ d hright w D cs h base ao cap l hown hbase hD hl
    obtain ⟨ko, kcap, hv, hcs, hkc, hcap, hks⟩ := h.val
    obtain ⟨hfit, hrs, _⟩ := rightV_mk hright
    have hth := hks.mono (E := D) (fun _ h => h)
    have H := Lib.hid (And.intro hown (And.intro hks (And.intro hrs (And.intro hD (And.intro hfit (headB_len hfit))))))
    obtain ⟨⟨k0, k1⟩, m0, m1⟩ := fits_num hfit
    have hkl := fits_kids hfit
    have htx := Lib.hid (fits_text hfit)
    rw [hv]
    unfold valV
    clear h hks hv hcs hown hrs hD hfit hth hright
    rw [putV]
    by_cases hgt : 16384 < l.length
    · rw [if_pos hgt]
      have hd1 : decide (16384 < (l.length : Int)) = true := decide_eq_true (by omega)
      go_enter Tryd.func24, Tryd.ntmps24
      go_wp2_with fail
      go_ret
      exact ⟨ao, cap, rfl, H.out.1.alloc _, Keeps.alloc _ _ _, fun j hj => .inl hj⟩
    · rw [if_neg hgt]
      have hd1 : decide (16384 < (l.length : Int)) = false := decide_eq_false (by omega)
      go_enter Tryd.func24, Tryd.ntmps24
      go_wp2_with fail
      have hlt : ∀ j, blk ao = some j → j < w.heap.size := fun j hj => (H.out.1.lt j (by rw [own_slice]; exact hj)).2
      have hps0 : PS w base ao k m t ko ks.length kcap ao cap l (w.alloc (.cells #[.int .i64 k, .int .i64 m, .string ⟨t.toArray⟩, .slice ko ks.length kcap] 37)) := ⟨H.out.1.alloc _, Keeps.alloc _ _ _, fun j hj => .inl hj, ValAt.new w k m t ko ks.length kcap, by simp⟩
      generalize (w.alloc (.cells #[.int .i64 k, .int .i64 m, .string ⟨t.toArray⟩, .slice ko ks.length kcap] 37)) = W at *
      have hsW := hps0.2.2.2.2
      have HP0 := Lib.hid hps0
      have HLT := Lib.hid hlt
      clear hps0 hlt
      refine (num_any k k0 k1 W).mono ?_
      rintro e w1 ⟨bo, bcap, rfl, hown1, hb1⟩
      have H1 := Lib.hid (And.intro (At.own hown1) (And.intro hb1 (owns_below HP0.out.1 hb1)))
      have hs1 := hb1.size
      have he1 := enc_len k k0 k1
      clear hown1 hb1
      have hv1 := HP0.out.2.2.2.1.below H1.out.2.1
      have c10 := hv1.1
      clear hv1
      go_upto_block 0 with (at_builtin; refine app_bytes rfl _ _ rfl base ao cap l l.length rfl H1.out.2.2 bo _ bcap (enc k) rfl H1.out.1 rfl (by omega) (by omega) ?_; rintro ao2 cap2 w2 hA; have HP2 := Lib.hid (HP0.out.app HLT.out H1.out.2.1 hA); have c20 := HP2.out.2.2.2.1.1; clear hA)
      rw [← List.length_append]
      obtain ⟨l2, hl2⟩ : ∃ l2, l ++ enc k = l2 := ⟨_, rfl⟩
      have hn2 : l2.length ≤ 21100 := by rw [← hl2, List.length_append]; omega
      rw [hl2] at HP2 ⊢
      have HL2 := Lib.hid hl2
      have hsw2 := HP2.out.2.1.size
      clear hl2 c10 hs1 H1
      have hkn := enc_len ks.length (by omega) (by omega)
      have hmn := enc_len m m0 m1
      go_cut [0] from 18 to 53 (fun v0 w' => ∃ ao3 cap3, v0 = .slice ao3 (l ++ headB k m t ks.length).length cap3 ∧ PS w base ao k m t ko ks.length kcap ao3 cap3 (l ++ headB k m t ks.length) w')
      case first =>
        by_cases h0 : k = 0
        · subst h0
          · skip
            have c21 := HP2.out.2.2.2.1.2.1
            go_wp2_with fail
            refine (num_any m m0 m1 w2).mono ?_
            rintro e w3 ⟨bo3, bcap3, rfl, hown3, hb3⟩
            skip
            have H3 := Lib.hid (And.intro (At.own hown3) (And.intro hb3 (owns_below HP2.out.1 hb3)))
            have hs3 := hb3.size
            clear hown3 hb3 c21
            go_wp2_with (at_builtin; refine app_bytes rfl _ _ rfl base ao2 cap2 l2 l2.length rfl H3.out.2.2 bo3 _ bcap3 (enc m) rfl H3.out.1 rfl (by omega) (by omega) ?_; rintro ao4 cap4 w4 hA; have HP4 := Lib.hid (HP2.out.app HLT.out H3.out.2.1 hA); clear hA)
            go_meet
            case rel =>
              have e1 : l2 ++ enc m = l ++ headB 0 m t ks.length := by rw [← HL2.out, List.append_assoc]; simp [headB]
              have h4 := HP4.out
              rw [e1] at h4
              exact ⟨ao4, cap4, by rw [← e1, List.length_append], h4⟩
        by_cases h5 : k = 5
        · subst h5
          · skip
            have c21 := HP2.out.2.2.2.1.2.1
            go_wp2_with fail
            refine (num_any m m0 m1 w2).mono ?_
            rintro e w3 ⟨bo3, bcap3, rfl, hown3, hb3⟩
            skip
            have H3 := Lib.hid (And.intro (At.own hown3) (And.intro hb3 (owns_below HP2.out.1 hb3)))
            have hs3 := hb3.size
            clear hown3 hb3 c21
            go_wp2_with (at_builtin; refine app_bytes rfl _ _ rfl base ao2 cap2 l2 l2.length rfl H3.out.2.2 bo3 _ bcap3 (enc m) rfl H3.out.1 rfl (by omega) (by omega) ?_; rintro ao4 cap4 w4 hA; have HP4 := Lib.hid (HP2.out.app HLT.out H3.out.2.1 hA); clear hA)
            go_meet
            case rel =>
              have e1 : l2 ++ enc m = l ++ headB 5 m t ks.length := by rw [← HL2.out, List.append_assoc]; simp [headB]
              have h4 := HP4.out
              rw [e1] at h4
              exact ⟨ao4, cap4, by rw [← e1, List.length_append], h4⟩
        have d0 : (k == 0) = false := by simpa using h0
        have d5 : (k == 5) = false := by simpa using h5
        by_cases h1 : k = 1
        · subst h1
          · have htl := htx.out (.inl rfl)
            have htz : (ByteArray.mk t.toArray).size ≤ 1099511627776 := by rw [show (ByteArray.mk t.toArray).size = t.length by simp [ByteArray.size]]; omega
            have hes : (encS t).length ≤ 4200 := by rw [encS, List.length_append]; have := enc_len t.length (by omega) (by omega); omega
            clear h0 h5 d0 d5
            have c22 := HP2.out.2.2.2.1.2.2.1
            go_wp2_with fail
            refine (str_any ⟨t.toArray⟩ htz w2).mono ?_
            rintro e w3 ⟨bo3, bcap3, rfl, hown3, hb3⟩
            rw [encS_eq] at hown3 ⊢
            have H3 := Lib.hid (And.intro (At.own hown3) (And.intro hb3 (owns_below HP2.out.1 hb3)))
            have hs3 := hb3.size
            clear hown3 hb3 c22
            go_wp2_with (at_builtin; refine app_bytes rfl _ _ rfl base ao2 cap2 l2 l2.length rfl H3.out.2.2 bo3 _ bcap3 (encS t) rfl H3.out.1 rfl (by omega) (by omega) ?_; rintro ao4 cap4 w4 hA; have HP4 := Lib.hid (HP2.out.app HLT.out H3.out.2.1 hA); clear hA)
            go_meet
            case rel =>
              have e1 : l2 ++ encS t = l ++ headB 1 m t ks.length := by rw [← HL2.out, List.append_assoc]; simp [headB]
              have h4 := HP4.out
              rw [e1] at h4
              exact ⟨ao4, cap4, by rw [← e1, List.length_append], h4⟩
        by_cases h2 : k = 2
        · subst h2
          · have htl := htx.out (.inr rfl)
            have htz : (ByteArray.mk t.toArray).size ≤ 1099511627776 := by rw [show (ByteArray.mk t.toArray).size = t.length by simp [ByteArray.size]]; omega
            have hes : (encS t).length ≤ 4200 := by rw [encS, List.length_append]; have := enc_len t.length (by omega) (by omega); omega
            clear h0 h5 d0 d5 h1
            have c22 := HP2.out.2.2.2.1.2.2.1
            go_wp2_with fail
            refine (str_any ⟨t.toArray⟩ htz w2).mono ?_
            rintro e w3 ⟨bo3, bcap3, rfl, hown3, hb3⟩
            rw [encS_eq] at hown3 ⊢
            have H3 := Lib.hid (And.intro (At.own hown3) (And.intro hb3 (owns_below HP2.out.1 hb3)))
            have hs3 := hb3.size
            clear hown3 hb3 c22
            go_wp2_with (at_builtin; refine app_bytes rfl _ _ rfl base ao2 cap2 l2 l2.length rfl H3.out.2.2 bo3 _ bcap3 (encS t) rfl H3.out.1 rfl (by omega) (by omega) ?_; rintro ao4 cap4 w4 hA; have HP4 := Lib.hid (HP2.out.app HLT.out H3.out.2.1 hA); clear hA)
            go_meet
            case rel =>
              have e1 : l2 ++ encS t = l ++ headB 2 m t ks.length := by rw [← HL2.out, List.append_assoc]; simp [headB]
              have h4 := HP4.out
              rw [e1] at h4
              exact ⟨ao4, cap4, by rw [← e1, List.length_append], h4⟩
        have d1 : (k == 1) = false := by simpa using h1
        have d2 : (k == 2) = false := by simpa using h2
        by_cases h3 : k = 3
        · subst h3
          · clear h0 h5 d0 d5 h1 h2 d1 d2
            have hnx : ¬ (blk ao2 = some w.heap.size ∨ w2.heap.size ≤ w.heap.size) := by
              rintro (h | h)
              · rcases HP2.out.2.2.1 _ h with h | h
                · exact absurd (HLT.out _ h) (Nat.lt_irrefl _)
                · omega
              · have := HP2.out.2.2.2.2; omega
            have HNX := Lib.hid hnx
            clear hnx
            go_wp2_with fail
            refine seqx_start (fun j => blk ao2 = some j ∨ w2.heap.size ≤ j) (by kernel_rfl) ?_
            refine seqx_take 0 (v := ?_) rfl (by kernel_rfl) (fun _ _ _ h => h) (by rfl) (fun w' hw' => ?_) ?_
            rotate_left
            · go_simp; try with_reducible rfl
            try simp only [List.getElem_toArray, List.getElem_cons_succ, List.getElem_cons_zero, Act.put, List.setIfInBounds_toArray, List.set_cons_zero, List.set_cons_succ]
            refine seqx_take 1 (v := ?_) rfl (by kernel_rfl) (fun _ _ _ h => h) (by rfl) (fun w' hw' => ?_) ?_
            rotate_left
            · go_simp; try with_reducible rfl
            try simp only [List.getElem_toArray, List.getElem_cons_succ, List.getElem_cons_zero, Act.put, List.setIfInBounds_toArray, List.set_cons_zero, List.set_cons_succ]
            refine seqx_take 2 rfl (by kernel_rfl) (fun _ _ _ h => h) (by rfl) (fun w' hw' => (seq_ldi rfl rfl (keeps_cell hw' (by exact HNX.out) ((show w2.drew.cell? ⟨w.heap.size, 1, none⟩ = _ from HP2.out.2.2.2.1.2.1)))) w' (Below.refl _ _)) ?_
            try simp only [List.getElem_toArray, List.getElem_cons_succ, List.getElem_cons_zero, Act.put, List.setIfInBounds_toArray, List.set_cons_zero, List.set_cons_succ]
            refine seqx_take 5 (v := ?_) rfl (by kernel_rfl) (fun _ _ _ h => h) (by rfl) (fun w' hw' => ?_) ?_
            rotate_left
            · go_simp; try with_reducible rfl
            try simp only [List.getElem_toArray, List.getElem_cons_succ, List.getElem_cons_zero, Act.put, List.setIfInBounds_toArray, List.set_cons_zero, List.set_cons_succ]
            refine seqx_take 6 rfl (by kernel_rfl) (fun _ _ _ h => h) (by rfl) (fun w' hw' => (seq_ldk rfl rfl (keeps_cell hw' (by exact HNX.out) ((show w2.drew.cell? ⟨w.heap.size, 3, none⟩ = _ from HP2.out.2.2.2.1.2.2.2)))) w' (Below.refl _ _)) ?_
            try simp only [List.getElem_toArray, List.getElem_cons_succ, List.getElem_cons_zero, Act.put, List.setIfInBounds_toArray, List.set_cons_zero, List.set_cons_succ]
            refine seqx_take 7 (v := ?_) rfl (by kernel_rfl) (fun _ _ _ h => h) (by rfl) (fun w' hw' => ?_) ?_
            rotate_left
            · go_simp; try with_reducible rfl
            try simp only [List.getElem_toArray, List.getElem_cons_succ, List.getElem_cons_zero, Act.put, List.setIfInBounds_toArray, List.set_cons_zero, List.set_cons_succ]
            refine seqx_run 3 rfl (by kernel_rfl) (by rfl) (fun KK hKK => ?_)
            go_wp2_with fail
            refine (num_any m m0 m1 w2.drew).mono ?_
            rintro e w3 ⟨bo3, bcap3, rfl, hown3, hb3⟩
            have hb23 : Below w2.heap.size w2 w3 := below_drew hb3
            have H3 := Lib.hid (And.intro (At.own hown3) (And.intro hb23 (owns_below HP2.out.1 hb23)))
            have hs3 := hb23.size
            have H3b := Lib.hid (Keeps.of_below (X := fun j => blk ao2 = some j ∨ w2.heap.size ≤ j) hb3)
            clear hown3 hb3 hb23
            go_wp2_with fail
            refine ⟨H3b.out, ?_⟩
            refine seqx_run 4 rfl (by kernel_rfl) (by rfl) (fun KK hKK => ?_)
            refine wp_bytes _ _ rfl base ao2 cap2 l2 l2.length rfl H3.out.2.2 bo3 _ bcap3 (enc m) rfl H3.out.1 rfl (by omega) (by omega) ?_
            rintro ao4 cap4 w4 hA
            have HP4 := Lib.hid (HP2.out.app HLT.out H3.out.2.1 hA)
            have hgr := hA.2.1
            have h42 := hA.2.2
            have hs4 := hgr.size
            refine hKK _ _ ⟨Keeps.of_grown' hgr (fun j hj => .inl hj), ?_⟩
            have HX4 := Lib.hid (show ∀ j, blk ao4 = some j → blk ao2 = some j ∨ w2.heap.size ≤ j from fun j hj => by
              rcases h42 with h | h
              · exact .inl (by rw [← h]; exact hj)
              · have := h j hj; exact .inr (by omega))
            clear hA hgr h42
            rw [← List.length_append]
            obtain ⟨l4, hl4⟩ : ∃ l4, l2 ++ enc m = l4 := ⟨_, rfl⟩
            have hn4 : l4.length ≤ 21200 := by rw [← hl4, List.length_append]; omega
            rw [hl4] at HP4 ⊢
            have HL4 := Lib.hid hl4
            clear hl4
            refine seqx_run 8 rfl (by kernel_rfl) (by rfl) (fun KK hKK => ?_)
            go_wp2_with fail
            refine (num_any (ks.length : Int) (by omega) (by omega) w4).mono ?_
            rintro e w5 ⟨bo5, bcap5, rfl, hown5, hb5⟩
            have H5 := Lib.hid (And.intro (At.own hown5) (And.intro hb5 (owns_below HP4.out.1 hb5)))
            have hs5 := hb5.size
            have H5b := Lib.hid (Keeps.of_below (X := fun j => blk ao2 = some j ∨ w2.heap.size ≤ j) hb5)
            clear hown5 hb5
            go_wp2_with fail
            refine ⟨H5b.out, ?_⟩
            refine seqx_run 9 rfl (by kernel_rfl) (by rfl) (fun KK hKK => ?_)
            refine wp_bytes _ _ rfl base ao4 cap4 l4 l4.length rfl H5.out.2.2 bo5 _ bcap5 (enc (ks.length : Int)) rfl H5.out.1 rfl (by omega) (by omega) ?_
            rintro ao6 cap6 w6 hA
            have HP6 := Lib.hid (HP4.out.app HLT.out H5.out.2.1 hA)
            refine hKK _ _ ⟨Keeps.of_grown' hA.2.1 (fun j hj => HX4.out j hj), ?_⟩
            clear hA
            refine seqx_take 10 (v := ?_) rfl (by kernel_rfl) (fun _ _ _ h => h) (by rfl) (fun w' hw' => ?_) ?_
            rotate_left
            · go_simp; try with_reducible rfl
            try simp only [List.getElem_toArray, List.getElem_cons_succ, List.getElem_cons_zero, Act.put, List.setIfInBounds_toArray, List.set_cons_zero, List.set_cons_succ]
            refine seqx_done (by kernel_rfl) ?_
            go_wp2_with fail
            go_meet
            case rel =>
              have e1 : l4 ++ enc (ks.length : Int) = l ++ headB 3 m t ks.length := by rw [← HL4.out, ← HL2.out, List.append_assoc, List.append_assoc]; simp [headB]
              have h4 := HP6.out
              rw [e1] at h4
              exact ⟨ao6, cap6, by rw [← e1, List.length_append], h4⟩
        have d3 : (k == 3) = false := by simpa using h3
        by_cases h4 : k = 4
        · subst h4
          · clear h0 h5 d0 d5 h1 h2 d1 d2 h3 d3
            have c23 := HP2.out.2.2.2.1.2.2.2
            go_wp2_with fail
            refine (num_any (ks.length : Int) (by omega) (by omega) w2).mono ?_
            rintro e w3 ⟨bo3, bcap3, rfl, hown3, hb3⟩
            skip
            have H3 := Lib.hid (And.intro (At.own hown3) (And.intro hb3 (owns_below HP2.out.1 hb3)))
            have hs3 := hb3.size
            clear hown3 hb3 c23
            go_wp2_with (at_builtin; refine app_bytes rfl _ _ rfl base ao2 cap2 l2 l2.length rfl H3.out.2.2 bo3 _ bcap3 (enc (ks.length : Int)) rfl H3.out.1 rfl (by omega) (by omega) ?_; rintro ao4 cap4 w4 hA; have HP4 := Lib.hid (HP2.out.app HLT.out H3.out.2.1 hA); clear hA)
            go_meet
            case rel =>
              have e1 : l2 ++ enc (ks.length : Int) = l ++ headB 4 m t ks.length := by rw [← HL2.out, List.append_assoc]; simp [headB]
              have h4 := HP4.out
              rw [e1] at h4
              exact ⟨ao4, cap4, by rw [← e1, List.length_append], h4⟩
        · have d4 : (k == 4) = false := by simpa using h4
          have e1 : l2 = l ++ headB k m t ks.length := by rw [← HL2.out]; simp [headB, h0, h1, h2, h3, h4, h5]
          have HE1 := Lib.hid e1
          clear h0 h1 h2 h3 h4 h5 e1
          go_wp2_with fail
          go_meet
          case rel =>
            have h4 := HP2.out
            rw [HE1.out] at h4
            exact ⟨ao2, cap2, by rw [HE1.out], h4⟩
      case rest =>
        obtain ⟨ao3, cap3, rfl, hps⟩ := hcut
        have hLl : (l ++ headB k m t ks.length).length ≤ 21000 := by rw [List.length_append]; have := H.out.2.2.2.2.2; omega
        generalize l ++ headB k m t ks.length = L at *
        have HPC := Lib.hid hps
        have c3 := hps.2.2.2.1.2.2.2
        have HLL := Lib.hid hLl
        have HKS := Lib.hid H.out.2.1.there
        clear hps hLl
        go_wp2_with fail
        go_loopw [0, 57] (fun v0 v57 wr => ∃ (i : Nat) (ao4 : Option Addr) (cap4 : Nat), i ≤ ks.length ∧ v57 = .int .i64 (i : Int) ∧ v0 = .slice ao4 (putVs L (ks.take i)).length cap4 ∧ PS w base ao k m t ko ks.length kcap ao4 cap4 (putVs L (ks.take i)) wr) (fun _ v57 _ => ks.length - (intOf v57).toNat)
        case atStart => exact ⟨0, ao3, cap3, by omega, rfl, by simp [putVs], by simpa [putVs] using HPC.out⟩
        case round =>
          obtain ⟨i, ao4, cap4, hi, rfl, rfl, hps⟩ := hrel
          have HPI := Lib.hid hps
          clear hps c3
          by_cases hlt : i < ks.length
          · have hd2 : decide ((i : Int) < (ks.length : Int)) = true := decide_eq_true (by omega)
            cases N with
            | zero =>
              obtain ⟨_, _, _, _, hv, _⟩ := H.out.2.1.get i hlt
              exact hv.elim
            | succ n' =>
            have hkr : VsIn wr (fun b => D b ∧ b < w.heap.size) (n' + 1) ko ks := HKS.out.keeps HPI.out.2.1 (fun b hb hx => H.out.2.2.2.1 b hx hb.1)
            obtain ⟨b, o, k2, m2, t2, kao, kks, kcap2, rfl, hx, hv, c0, c1, c2, c3, hblt⟩ := hkr.cells i hlt
            have hri := rightVs_get H.out.2.2.1 i hlt
            have hli : (putVs L (ks.take i)).length ≤ 21000 := by
              refine putVs_le (ks.take i) (d + 1) L ?_ HLL.out
              exact rightVs_true fun j hj => by
                rw [List.getElem_take]
                exact rightVs_get H.out.2.2.1 j (by rw [List.length_take] at hj; omega)
            have hsn : putVs L (ks.take (i + 1)) = putV (putVs L (ks.take i)) ks[i] := by rw [List.take_succ_eq_append_getElem hlt, putVs_snoc]
            rw [hx] at hri hsn
            have HX := Lib.hid (And.intro hri hsn)
            generalize putVs L (ks.take i) = li at *
            have hoc := HPI.out
            clear hx hri hsn hkr
            have hbA := fun (o : Obj) => (Below.refl wr.heap.size wr).alloc (Nat.le_refl _) o
            have hput := ih (.mk k2 m2 t2 kks) (d + 1) HX.out.1 (wr.alloc (.cells #[.int .i64 k2, .int .i64 m2, .string ⟨t2.toArray⟩, .slice kao kks.length kcap2] 37)) (fun b => D b ∧ b < w.heap.size) _ (hv.below (hbA _)) base ao4 cap4 li (owns_below hoc.1 (hbA _)) (by have := hoc.2.1.size; simp; omega) (fun j hj hd => by
              rcases hoc.2.2.1 j hj with h | h
              · exact H.out.2.2.2.1 j h hd.1
              · omega) hli
            have HPUT := Lib.hid (And.intro hput (hbA (.cells #[.int .i64 k2, .int .i64 m2, .string ⟨t2.toArray⟩, .slice kao kks.length kcap2] 37)))
            clear hput hbA hv hoc
            go_wp2_with fail
            refine HPUT.out.1.mono ?_
            rintro e w2 hg
            obtain ⟨ao5, cap5, rfl, hps5⟩ := HPI.out.put HLT.out HPUT.out.2 hg
            have HP5 := Lib.hid hps5
            clear hg hps5
            go_wp2_with fail
            go_roundw
            case rel => exact ⟨i + 1, ao5, cap5, by omega, by simp, by rw [HX.out.2], by rw [HX.out.2]; exact HP5.out⟩
            case measure => simp [intOf]; omega
          · obtain rfl : i = ks.length := by omega
            rw [List.take_length] at HPI ⊢
            go_wp2_with fail
            go_ret
            exact ⟨ao4, cap4, rfl, HPI.out.1, HPI.out.2.1, fun j hj => by
              rcases HPI.out.2.2.1 j hj with h | h
              · exact .inl h
              · exact .inr (by omega)⟩
end Go.Proofs.YtpeehagaiofobaaDoor
