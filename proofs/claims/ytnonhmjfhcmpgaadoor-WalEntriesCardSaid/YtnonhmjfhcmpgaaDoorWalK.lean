/- The walk of the laws' own 'same': rows of bytes against rows of texts. -/
import Derived.Test.YtnonhmjfhcmpgaaDoorWalG
namespace Go.Proofs.YtnonhmjfhcmpgaaDoor
open Go.RowKit

def strsV (l : List (List UInt8)) : List Value := l.map strV
theorem strV_ne {a b : List UInt8} : decide ((⟨a.toArray⟩ : ByteArray) = ⟨b.toArray⟩) = decide (a = b) := by
  by_cases h : a = b
  · subst h; simp
  · rw [decide_eq_false h, decide_eq_false]
    intro h'
    apply h
    have := congrArg (fun x : ByteArray => x.data.toList) h'
    simpa using this

set_option maxRecDepth 100000 in
set_option maxHeartbeats 1000000 in
theorem same_any {B : Nat} (ro : Option Addr) (n rcap : Nat) (recs : List (List UInt8)) (hn : n = recs.length) (hnl : n ≤ 1000000) (bo : Option Addr) (k bcap : Nat) (strs : List (List UInt8)) (hk : k = strs.length) (hkl : k ≤ 1000000) (w : World) (hr : RecsAt w B ro recs) (hb : At w bo (strsV strs)) :
    Calls Tryd.prog 21 #[.slice ro n rcap, .slice bo k bcap] w (fun e w' => e = .returned (.bool (decide (recs = strs))) ∧ Below w.heap.size w w') := by
  have HR := Lib.hid hr
  have HB := Lib.hid hb
  clear hr hb
  by_cases hlen : n = k
  · subst hlen
    have HN := Lib.hid (And.intro hn hk)
    clear hn hk
    go_enter Tryd.func21, Tryd.ntmps21
    go_wp2_with fail
    go_loopw [5] (fun v wr => ∃ i : Nat, i ≤ n ∧ v = .int .i64 (i : Int) ∧ recs.take i = strs.take i ∧ Below w.heap.size w wr) (fun v _ => n - (intOf v).toNat)
    case atStart => exact ⟨0, Nat.zero_le _, rfl, by simp, Below.refl _ _⟩
    case round =>
      obtain ⟨i, hi, rfl, htk, hbel⟩ := hrel
      have HI := Lib.hid (And.intro htk hbel)
      clear htk hbel
      by_cases hlt : i < n
      · have hd1 : decide ((i : Int) < (n : Int)) = true := decide_eq_true (by omega)
        obtain ⟨vs, hat, hall, _⟩ := HR.out.below (w' := wr.drew) ((HI.out.2).trans (Below.refl _ wr).drew)
        have hs : i < strs.length := by rw [← HN.out.2]; exact hlt
        have hr : i < recs.length := by rw [← HN.out.1]; exact hlt
        obtain ⟨v1, hv1, ao1, c1, rfl, a1, _⟩ := hall.get i hr
        have hvl : i < vs.length := by rw [hall.1]; exact hr
        obtain ⟨rb, rof, rfl, hc0⟩ := hat.exv i hvl
        have hvi : vs[i] = .slice ao1 recs[i].length c1 := by rw [List.getElem?_eq_getElem hvl] at hv1; exact Option.some.inj hv1
        rw [hvi] at hc0
        obtain ⟨sb, sof, rfl, hc1⟩ := (HB.out.below (w' := wr.drew) ((HI.out.2).trans (Below.refl _ wr).drew)).exv i (by simp [strsV, hs])
        have hvs : (strsV strs)[i]'(by simp [strsV, hs]) = .string ⟨strs[i].toArray⟩ := by simp [strsV, strV]
        rw [hvs] at hc1
        have HA := Lib.hid (And.intro a1 (And.intro hc0 hc1))
        obtain ⟨x, hx⟩ : ∃ x, recs[i] = x := ⟨_, rfl⟩
        obtain ⟨y, hy⟩ : ∃ y, strs[i] = y := ⟨_, rfl⟩
        rw [hx, hy] at HA
        have HXY := Lib.hid (And.intro (show recs[i]? = some x by rw [List.getElem?_eq_getElem hr, hx]) (show strs[i]? = some y by rw [List.getElem?_eq_getElem hs, hy]))
        clear hat hall a1 hc0 hc1 hvi hvs hv1 hx hy hvl hr hs
        go_wp2_with fail
        refine seq_start (by kernel_rfl) ?_
        refine seq_take 0 (v := ?_) rfl (by kernel_rfl) (fun _ _ _ h => h) (by rfl) (fun w' hw' => ?_) ?_
        rotate_left
        · go_simp; try with_reducible rfl
        try simp only [List.getElem_toArray, List.getElem_cons_succ, List.getElem_cons_zero, Act.put, List.setIfInBounds_toArray, List.set_cons_zero, List.set_cons_succ]
        refine seq_take 1 (v := ?_) rfl (by kernel_rfl) (fun _ _ _ h => h) (by rfl) (fun w' hw' => ?_) ?_
        rotate_left
        · go_simp; try with_reducible rfl
        try simp only [List.getElem_toArray, List.getElem_cons_succ, List.getElem_cons_zero, Act.put, List.setIfInBounds_toArray, List.set_cons_zero, List.set_cons_succ]
        refine seq_take 2 (v := ?_) rfl (by kernel_rfl) (fun _ _ _ h => h) (by rfl) (fun w' hw' => ?_) ?_
        rotate_left
        · go_simp; try with_reducible rfl
        try simp only [List.getElem_toArray, List.getElem_cons_succ, List.getElem_cons_zero, Act.put, List.setIfInBounds_toArray, List.set_cons_zero, List.set_cons_succ]
        refine seq_take 3 rfl (by kernel_rfl) (fun _ _ _ h => h) (by rfl) (seq_ldb rfl rfl (HA.out.2.1)) ?_
        try simp only [List.getElem_toArray, List.getElem_cons_succ, List.getElem_cons_zero, Act.put, List.setIfInBounds_toArray, List.set_cons_zero, List.set_cons_succ]
        refine seq_take 4 rfl (by kernel_rfl) (fun _ _ _ h => h) (by rfl) (seq_conv rfl rfl (HA.out.1) (by first | rfl | assumption | (symm; assumption) | simp)) ?_
        try simp only [List.getElem_toArray, List.getElem_cons_succ, List.getElem_cons_zero, Act.put, List.setIfInBounds_toArray, List.set_cons_zero, List.set_cons_succ]
        refine seq_take 5 (v := ?_) rfl (by kernel_rfl) (fun _ _ _ h => h) (by rfl) (fun w' hw' => ?_) ?_
        rotate_left
        · go_simp; try with_reducible rfl
        try simp only [List.getElem_toArray, List.getElem_cons_succ, List.getElem_cons_zero, Act.put, List.setIfInBounds_toArray, List.set_cons_zero, List.set_cons_succ]
        refine seq_take 6 (v := ?_) rfl (by kernel_rfl) (fun _ _ _ h => h) (by rfl) (fun w' hw' => ?_) ?_
        rotate_left
        · go_simp; try with_reducible rfl
        try simp only [List.getElem_toArray, List.getElem_cons_succ, List.getElem_cons_zero, Act.put, List.setIfInBounds_toArray, List.set_cons_zero, List.set_cons_succ]
        refine seq_take 7 (v := ?_) rfl (by kernel_rfl) (fun _ _ _ h => h) (by rfl) (fun w' hw' => ?_) ?_
        rotate_left
        · go_simp; try with_reducible rfl
        try simp only [List.getElem_toArray, List.getElem_cons_succ, List.getElem_cons_zero, Act.put, List.setIfInBounds_toArray, List.set_cons_zero, List.set_cons_succ]
        refine seq_take 8 rfl (by kernel_rfl) (fun _ _ _ h => h) (by rfl) (seq_lds rfl rfl (HA.out.2.2)) ?_
        try simp only [List.getElem_toArray, List.getElem_cons_succ, List.getElem_cons_zero, Act.put, List.setIfInBounds_toArray, List.set_cons_zero, List.set_cons_succ]
        by_cases hxy : x = y
        · subst hxy
          refine seq_take 9 (v := ?_) rfl (by kernel_rfl) (fun _ _ _ h => h) (by rfl) (fun w' hw' => ?_) ?_
          rotate_left
          · go_simp; try with_reducible rfl
          try simp only [List.getElem_toArray, List.getElem_cons_succ, List.getElem_cons_zero, Act.put, List.setIfInBounds_toArray, List.set_cons_zero, List.set_cons_succ]
          refine seq_done (by kernel_rfl) ?_
          go_wp2_with fail
          go_roundw
          case rel => exact ⟨i + 1, by omega, by simp, by rw [List.take_add_one, List.take_add_one, HXY.out.1, HXY.out.2, HI.out.1], HI.out.2.drew⟩
          case measure => simp [intOf]; omega
        · have hb : (x == y) = false := by simpa using hxy
          have hne : recs ≠ strs := by
            rintro rfl
            have := HXY.out
            rw [this.1] at this
            exact hxy (Option.some.inj this.2)
          have HNE := Lib.hid (decide_eq_false hne)
          clear hne
          refine seq_take 9 (v := ?_) rfl (by kernel_rfl) (fun _ _ _ h => h) (by rfl) (fun w' hw' => ?_) ?_
          rotate_left
          · go_simp; try with_reducible rfl
          try simp only [List.getElem_toArray, List.getElem_cons_succ, List.getElem_cons_zero, Act.put, List.setIfInBounds_toArray, List.set_cons_zero, List.set_cons_succ]
          refine seq_done (by kernel_rfl) ?_
          go_wp2_with fail
          go_ret
          exact ⟨by rw [HNE.out]; rfl, HI.out.2.drew⟩
      · have hd1 : decide ((i : Int) < (n : Int)) = false := decide_eq_false (by omega)
        go_wp2_with fail
        go_ret
        have he : recs = strs := by
          have h := HI.out.1
          rw [show i = n by omega] at h
          rw [← List.take_of_length_le (Nat.le_of_eq HN.out.1.symm), h, List.take_of_length_le (Nat.le_of_eq HN.out.2.symm)]
        exact ⟨by rw [decide_eq_true he]; rfl, HI.out.2⟩
  · have hne : recs ≠ strs := by rintro rfl; exact hlen (hn.trans hk.symm)
    have HNE := Lib.hid (decide_eq_false hne)
    clear hne hn hk
    have hd : decide ((n : Int) = (k : Int)) = false := decide_eq_false (by omega)
    go_enter Tryd.func21, Tryd.ntmps21
    go_wp2_with fail
    go_ret
    exact ⟨by rw [HNE.out]; rfl, Below.refl _ _⟩

end Go.Proofs.YtnonhmjfhcmpgaaDoor
