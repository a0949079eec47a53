/- THE LAW DiskKeeps: what was behind a barrier lasts, whatever is written since and a crash picks of that; a sector has one of the writes behind it, or what it had, wholly. -/
import Derived.Test.YtnonhmjfhcmpgaaRows
import Derived.Test.YtnonhmjfhcmpgaaDisk5
import Derived.Test.YtnonhmjfhcmpgaaDiskKP
import Derived.Test.YtnonhmjfhcmpgaaLaw
import Derived.ChangeMaps5
namespace Go.Proofs.Ytnonhmjfhcmpgaa.diskKeeps
open Go.ChangeShapes Go.WideShapes Go.ChangeAt Go.RowKit Go.ChangeMaps

theorem own : ownKnob Try.prog.godebug = none := by kernel_rfl
theorem laidOut : laidOutB Try.prog = true := by kernel_rfl
theorem readable : ∀ t ∈ Try.f3.params.toList, Try.prog.readableRec t = true ∧ t < Try.prog.types.size := by
  rw [Try.params3]
  intro t ht
  simp at ht
  rcases ht with rfl | rfl
  · exact ⟨by kernel_rfl, of_decide_eq_true (by kernel_rfl)⟩
  · exact ⟨by kernel_rfl, of_decide_eq_true (by kernel_rfl)⟩

/-- A disk of the call's own, and an array beside it. -/
def Kp (w0 w : World) (d gw : Nat) (s : DS) (A : List UInt8) : Prop := ∃ M I, DiskAt w0.heap.size w M I d s ∧ ¬ M gw ∧ ¬ I gw ∧ w.heap[gw]? = some (.cells (bytesV A).toArray 29 (0, 0)) ∧ Below w0.heap.size w0 w ∧ w0.heap.size ≤ gw
theorem Kp.upd {w0 w w' : World} {M I : Nat → Prop} {d gw : Nat} {s s' : DS} {A : List UInt8} (hd : DiskAt w0.heap.size w M I d s) (hm : ¬ M gw) (hi : ¬ I gw) (hr : w.heap[gw]? = some (.cells (bytesV A).toArray 29 (0, 0))) (hb : Below w0.heap.size w0 w) (hg : w0.heap.size ≤ gw) (u : Upd w0.heap.size w M I d s' w') : Kp w0 w' d gw s' A := by
  have hlt := (Array.getElem?_eq_some_iff.1 hr).1
  have hbu := Upd.below hd u hb.size
  obtain ⟨M', I', hd', hk, hM, hI⟩ := u
  exact ⟨M', I', hd', fun h => (hM gw h).elim hm (by omega), fun h => (hI gw h).elim hi (by omega), (hk.block gw hlt hm).trans hr, hb.trans hbu, hg⟩
theorem Kp.below {w0 w w' : World} {d gw : Nat} {s : DS} {A : List UInt8} (h : Kp w0 w d gw s A) (hb : Below w.heap.size w w') : Kp w0 w' d gw s A := by
  obtain ⟨M, I, hd, hm, hi, hr, hbel, hg⟩ := h
  exact ⟨M, I, hd.below hb, hm, hi, (hb.block gw (Array.getElem?_eq_some_iff.1 hr).1).trans hr, hbel.trans (hb.mono hbel.size), hg⟩
theorem Kp.row {w0 w : World} {d gw : Nat} {s : DS} {A : List UInt8} (h : Kp w0 w d gw s A) : w.heap[gw]? = some (.cells (bytesV A).toArray 29 (0, 0)) := by
  obtain ⟨_, _, _, _, _, hr, _⟩ := h; exact hr
theorem Kp.bel {w0 w : World} {d gw : Nat} {s : DS} {A : List UInt8} (h : Kp w0 w d gw s A) : Below w0.heap.size w0 w := by
  obtain ⟨_, _, _, _, _, _, hb, _⟩ := h; exact hb
theorem Kp.set {w0 w : World} {d gw : Nat} {s : DS} {A : List UInt8} (h : Kp w0 w d gw s A) (j : Nat) (x : UInt8) : Kp w0 (w.setCell ⟨gw, j, none⟩ (u8v x)) d gw s (A.set j x) := by
  obtain ⟨M, I, hd, hm, hi, hr, hbel, hg⟩ := h
  have hgr := setCell_grown0 w gw j (u8v x)
  have K : Keeps (fun i => i = gw) w _ := Keeps.of_grown hgr rfl
  refine ⟨M, I, hd.keeps K (fun b hb e => hm (by rw [← e]; exact hb)) (fun b hb e => hi (by rw [← e]; exact hb)), hm, hi, ?_, hbel.trans (K.below (fun i hi e => by omega) hbel.size), hg⟩
  rw [setCell_row0 j _ hr, bytesV_set]
  simp
theorem write_kp {w0 wp w : World} {d gw : Nat} {s : DS} {A : List UInt8} (h : Kp w0 wp d gw s A) (hst : s.steps ≤ 1000000000) (hWl : s.W.length ≤ 1000000000) (n : Int) (g : Nat) (b : List UInt8) (hb : b.length = 512) (hbp : Below wp.heap.size wp w) (hg : wp.heap.size ≤ g) (hat : At w (some ⟨g, 0, none⟩) (bytesV b)) :
    Calls Try.prog 8 #[.pointer (some ⟨d, 0, none⟩), .int .i64 n, .slice (some ⟨g, 0, none⟩) 512 512] w (fun e w' => e = .returned (.int .i64 ((s.write n b).1 : Int)) ∧ Kp w0 w' d gw (s.write n b).2 A) := by
  have hlt : ∀ M I, DiskAt w0.heap.size wp M I d s → ¬ M g := fun M I hd hm => by have hlt := (hd.lt _ hm).2; omega
  obtain ⟨M, I, hd, hm, hi, hr, hbel, hg0⟩ := h
  have hne := hlt M I hd
  have h' := Kp.below ⟨M, I, hd, hm, hi, hr, hbel, hg0⟩ hbp
  have hd' := hd.below hbp
  have hb' : Below w0.heap.size w0 w := hbel.trans (hbp.mono hbel.size)
  refine (write_any w hd' hst hWl n _ 512 b hb hat (fun g' hg' => by cases hg'; exact hne) hb'.size).mono ?_
  rintro e w' ⟨rfl, hu⟩
  exact ⟨rfl, Kp.upd hd' hm hi h'.row hb' hg0 hu⟩
theorem barrier_kp {w0 w : World} {d gw : Nat} {s : DS} {A : List UInt8} (h : Kp w0 w d gw s A) (hst : s.steps ≤ 1000000000) (hWl : s.W.length ≤ 1000000000) :
    Calls Try.prog 10 #[.pointer (some ⟨d, 0, none⟩)] w (fun e w' => e = .returned (.int .i64 (s.barrier.1 : Int)) ∧ Kp w0 w' d gw s.barrier.2 A) := by
  obtain ⟨M, I, hd, hm, hi, hr, hbel, hg⟩ := h
  refine (barrier_any w hd hst hWl hbel.size).mono ?_
  rintro e w' ⟨rfl, hu⟩
  exact ⟨rfl, Kp.upd hd hm hi hr hbel hg hu⟩
theorem crash_kp {w0 w : World} {d gw : Nat} {s : DS} {A : List UInt8} (h : Kp w0 w d gw s A) (hWl : s.W.length ≤ 1000000000) (po : Option Addr) (pcap : Nat) (P : List Int) (hP : P.length ≤ 9223372036854775807) (hpat : At w po (P.map (Value.int .i64))) (hpo : ∀ b, blk po = some b → P ≠ [] → b < w0.heap.size) :
    Calls Try.prog 11 #[.pointer (some ⟨d, 0, none⟩), .slice po P.length pcap] w (fun e w' => (∃ v, e = .returned v) ∧ Kp w0 w' d gw (s.crash P) A) := by
  obtain ⟨M, I, hd, hm, hi, hr, hbel, hg⟩ := h
  refine (crash_any w hd hWl hbel.size po pcap P hP hpat (fun b hb hn hm => by have := hd.lt _ hm; have := hpo b hb hn; omega)).mono ?_
  rintro e w' ⟨hv, hu⟩
  exact ⟨hv, Kp.upd hd hm hi hr hbel hg hu⟩
theorem read_kp {w0 w : World} {d gw : Nat} {s : DS} {A : List UInt8} (h : Kp w0 w d gw s A) (n : Int) :
    Calls Try.prog 12 #[.pointer (some ⟨d, 0, none⟩), .int .i64 n] w (Read w (s.readE n)) := by
  obtain ⟨M, I, hd, _⟩ := h
  exact read_any w hd n
theorem barrier_val (l : List UInt8) (k : Nat) : (⟨noneL, rowW (· % 8) l k, -1, false, k⟩ : DS).barrier = (0, ⟨lastsA l k, [], -1, false, k + 1⟩) := by
  simp [DS.barrier, DS.spend, DS.settled, lastsA]
theorem write_val (L : List (Option (List UInt8))) (W : List (Nat × List UInt8)) (k i : Nat) (b : List UInt8) (hi : i < L.length) : (⟨L, W, -1, false, k⟩ : DS).write (i : Int) b = (0, ⟨L, W ++ [(i, b)], -1, false, k + 1⟩) := by
  have : inR (i : Int) L.length = true := decide_eq_true ⟨by omega, by omega⟩
  simp [DS.write, DS.spend, this]

/-- Is a byte one that the sector may hold, as far as it was asked? -/
def mayB (m : List UInt8) (n : Nat) (x y : UInt8) : Nat → Bool
  | 0 => ((x.toNat : Int) == (y.toNat : Int))
  | q + 1 => mayB m n x y q || (decide (q * 3 % 8 = n) && (((m.getD q 0).toNat : Int) == (x.toNat : Int)))
theorem mayB_mono (m : List UInt8) (n : Nat) (x y : UInt8) : ∀ q j, j ≤ q → mayB m n x y j = true → mayB m n x y q = true
  | 0, j, hj, h => by have e : j = 0 := (by omega); subst e; exact h
  | q + 1, j, hj, h => by
    rcases Nat.lt_or_ge j (q + 1) with hlt | hge
    · rw [mayB, mayB_mono m n x y q j (by omega) h]; rfl
    · have e : j = q + 1 := by omega
      subst e; exact h
theorem mayB_of {l m : List UInt8} {k i n : Nat} {x : UInt8} (h : mayBe l m k i n x) : mayB m n x ((wasA l k).getD n 0) i = true := by
  rcases h with h | ⟨j, hj, hn, hx⟩
  · refine mayB_mono m n x _ i 0 (Nat.zero_le _) ?_
    rw [mayB, ← h]; simp
  · refine mayB_mono m n x _ i (j + 1) hj ?_
    rw [mayB, hx]; simp [hn]

set_option maxRecDepth 100000 in
set_option maxHeartbeats 8000000 in
theorem walk (ao bo po : Option Addr) (l m : List UInt8) (P : List Int) (cap bcap pcap : Nat) (hP : P.length ≤ 9223372036854775807) (w : World) (hat : At w ao (bytesV l)) (hbt : At w bo (bytesV m)) (hpt : At w po (P.map (Value.int .i64))) (hpo : ∀ b, blk po = some b → P ≠ [] → b < w.heap.size)
    (hll : l.length ≤ 9223372036854775807) (hml : m.length ≤ 9223372036854775807) :
    Calls Try.prog 3 #[.slice ao l.length cap, .slice bo m.length bcap, .slice po P.length pcap] w (Says w (.bool true)) := by
  have HAT := Lib.hid (And.intro hat (And.intro hbt (And.intro hpt hpo)))
  clear hat hbt hpt hpo
  go_enter Try.func3, Try.ntmps3
  go_wp2_with fail
  refine (new_any 8 (by decide) (by decide) w).mono ?_
  rintro e w1 ⟨d, M, I, rfl, hd, hb1⟩
  have H1 := Lib.hid (And.intro hd hb1)
  have hsz1 := hb1.size
  clear hd hb1
  go_wp2_with fail
  refine (lasts_any w1).mono ?_
  rintro e w2 ⟨rfl, hb2⟩
  have H2 := Lib.hid (And.intro (H1.out.1.below hb2) (H1.out.2.trans (hb2.mono hsz1)))
  have hsz2 := hb2.size
  clear hb2
  go_wp2_with fail
  have hk0 : Kp w (w2.alloc (.cells (bytesV (wasA l 0)).toArray 29)) d w2.heap.size ⟨noneL, rowW (· % 8) l 0, -1, false, 0⟩ (wasA l 0) := by
    have hb : Below w2.heap.size w2 (w2.alloc (.cells (bytesV (wasA l 0)).toArray 29)) := (Below.refl _ _).alloc (Nat.le_refl _) _
    exact ⟨M, I, H2.out.1.below hb, fun h => by have := (H2.out.1.lt _ h).2; omega, fun h => by have := (H2.out.1.ltI _ h).2; omega, heap_alloc_new w2 _, H2.out.2.trans (hb.mono (by omega)), by omega⟩
  have K0 := Lib.hid hk0
  clear hk0
  generalize w2.heap.size = gw at *
  go_loopw [10] (fun j wr => ∃ k : Nat, k ≤ l.length ∧ k ≤ 40 ∧ j = .int .i64 (k : Int) ∧ Kp w wr d gw ⟨noneL, rowW (· % 8) l k, -1, false, k⟩ (wasA l k)) (fun j _ => 40 - (intOf j).toNat)
  case atStart => exact ⟨0, by omega, by omega, rfl, K0.out⟩
  case round =>
    obtain ⟨k, hk, hk40, rfl, hkp⟩ := hrel
    have HK := Lib.hid hkp
    clear hkp
    by_cases hlt : k < l.length ∧ k < 40
    · obtain ⟨hlt, hk4⟩ := hlt
      obtain ⟨b, o, rfl, hcell⟩ := At.ex0 (HAT.out.1.below HK.out.bel) k hlt
      have hget : l.getD k 0 = l[k] := by simp [List.getD, hlt]
      have hws : wasA l (k + 1) = (wasA l k).set (k % 8) l[k] := by rw [wasA, hget]
      have hrs : rowW (· % 8) l (k + 1) = rowW (· % 8) l k ++ [(k % 8, fullL l[k])] := by rw [rowW_succ, hget]
      have hxk : (bytesV l)[k]? = some (u8v l[k]) := bytesV_get l k hlt
      have HS := Lib.hid (And.intro hws (And.intro hrs hxk))
      clear hxk
      generalize l[k] = x at *
      have HC := Lib.hid hcell
      clear hget hws hrs
      go_wp2_with fail
      refine (full_any x wr).mono ?_
      rintro e w3 ⟨g, rfl, hg, hatg, _, hb3⟩
      have A3 := Lib.hid (And.intro hg (And.intro hatg hb3))
      clear hg hatg hb3
      have hwr : (⟨noneL, rowW (· % 8) l k, -1, false, k⟩ : DS).write ((k : Int) % 8) (fullL x) = (0, ⟨noneL, rowW (· % 8) l (k + 1), -1, false, k + 1⟩) := by
        rw [show ((k : Int) % 8) = ((k % 8 : Nat) : Int) by omega, write_val _ _ _ _ _ (by simp [noneL]; omega), HS.out.2.1]
      have HWR := Lib.hid hwr
      clear hwr
      go_wp2_with fail
      refine (write_kp HK.out (by simp only; omega) (by simp only [rowW_length]; omega) ((k : Int) % 8) g (fullL x) (by simp [fullL]) A3.out.2.2 A3.out.1 A3.out.2.1).mono ?_
      rintro e w4 ⟨rfl, hk4'⟩
      rw [HWR.out] at hk4' ⊢
      have K4 := Lib.hid hk4'
      have hcell4 : w4.cell? ⟨b, o + k, none⟩ = some (.int .u8 (x.toNat : Int)) := (HAT.out.1.below hk4'.bel).cell k _ HS.out.2.2
      have hk8 : k % 8 < (wasA l k).length := by rw [wasA_length]; omega
      obtain ⟨y, hy⟩ : ∃ y : Nat, w4.cell? ⟨gw, k % 8, none⟩ = some (.int .u8 (y : Int)) := by
        refine ⟨((wasA l k)[k % 8]).toNat, ?_⟩
        rw [cell_of_row _ gw (k % 8) _ _ (0, 0) hk4'.row]
        have := bytesV_get (wasA l k) (k % 8) hk8
        simpa [u8v] using this
      have hfy : w4.frozen? ⟨gw, k % 8, none⟩ = false := frozen_of_row _ gw (k % 8) _ _ hk4'.row
      have HC4 := Lib.hid (And.intro hcell4 (And.intro hy hfy))
      clear hk4' hk8
      go_wp2_with fail
      go_roundw
      case rel =>
        refine ⟨k + 1, by omega, by omega, by simp, ?_⟩
        rw [HS.out.1]
        exact K4.out.set (k % 8) x
      case measure => simp [intOf]; omega
    · have hstop : (decide ((k : Int) < l.length) && decide ((k : Int) < 40)) = false := by simp; omega
      have hfin : k = l.length ∨ k = 40 := by omega
      by_cases hkl : k < l.length
      case' pos => have h40 : ¬ ((k : Int) < 40) := by omega
      case' neg => have h40 : ¬ ((k : Int) < l.length) := by omega
      all_goals
        clear hstop hfin
        go_wp2_with fail
        refine (barrier_kp HK.out (by simp only; omega) (by simp only [rowW_length]; omega)).mono ?_
        rintro e w3 ⟨rfl, hk3⟩
        rw [barrier_val] at hk3 ⊢
        have K3 := Lib.hid hk3
        clear hk3
        go_wp2_with fail
        go_loopw [11] (fun j wr => ∃ i : Nat, i ≤ m.length ∧ i ≤ 40 ∧ j = .int .i64 (i : Int) ∧ Kp w wr d gw ⟨lastsA l k, rowW (· * 3 % 8) m i, -1, false, k + 1 + i⟩ (wasA l k)) (fun j _ => 40 - (intOf j).toNat)
        case atStart => exact ⟨0, by omega, by omega, rfl, K3.out⟩
        case round =>
          obtain ⟨i, hi, hi40, rfl, hkp⟩ := hrel
          have HKI := Lib.hid hkp
          clear hkp
          by_cases hlt : i < m.length ∧ i < 40
          · obtain ⟨hlt, hi4⟩ := hlt
            obtain ⟨b, o, rfl, hcell⟩ := At.ex0 (HAT.out.2.1.below HKI.out.bel) i hlt
            have hget : m.getD i 0 = m[i] := by simp [List.getD, hlt]
            have hrs : rowW (· * 3 % 8) m (i + 1) = rowW (· * 3 % 8) m i ++ [(i * 3 % 8, fullL m[i])] := by rw [rowW_succ, hget]
            have HS := Lib.hid hrs
            generalize m[i] = x at *
            have HC := Lib.hid hcell
            clear hget hrs
            go_wp2_with fail
            refine (full_any x wr).mono ?_
            rintro e w4 ⟨g, rfl, hg, hatg, _, hb4⟩
            have A4 := Lib.hid (And.intro hg (And.intro hatg hb4))
            clear hg hatg hb4
            have hwr : (⟨lastsA l k, rowW (· * 3 % 8) m i, -1, false, k + 1 + i⟩ : DS).write (((i : Int) * 3) % 8) (fullL x) = (0, ⟨lastsA l k, rowW (· * 3 % 8) m (i + 1), -1, false, k + 1 + (i + 1)⟩) := by
              rw [show (((i : Int) * 3) % 8) = ((i * 3 % 8 : Nat) : Int) by omega, write_val _ _ _ _ _ (by rw [lastsA_length]; omega), HS.out]
              rfl
            have HWR := Lib.hid hwr
            clear hwr
            go_wp2_with fail
            refine (write_kp HKI.out (by simp only; omega) (by simp only [rowW_length]; omega) (((i : Int) * 3) % 8) g (fullL x) (by simp [fullL]) A4.out.2.2 A4.out.1 A4.out.2.1).mono ?_
            rintro e w5 ⟨rfl, hk5⟩
            rw [HWR.out] at hk5 ⊢
            have K5 := Lib.hid hk5
            clear hk5
            go_wp2_with fail
            go_roundw
            case rel => exact ⟨i + 1, by omega, by omega, by simp, K5.out⟩
            case measure => simp [intOf]; omega
          · by_cases hil : i < m.length
            case' pos => have h41 : ¬ ((i : Int) < 40) := by omega
            case' neg => have h41 : ¬ ((i : Int) < m.length) := by omega
            all_goals
              go_wp2_with fail
              refine (crash_kp HKI.out (by simp only [rowW_length]; omega) po pcap P hP (HAT.out.2.2.1.below HKI.out.bel) HAT.out.2.2.2).mono ?_
              rintro e w4 ⟨⟨v4, rfl⟩, hk4⟩
              have hsec : ∀ n : Nat, n < 8 → ∃ x, ((⟨lastsA l k, rowW (· * 3 % 8) m i, -1, false, k + 1 + i⟩ : DS).crash P).readE (n : Int) = (0, fullL x) ∧ mayBe l m k i n x := by
                intro n hn
                obtain ⟨x, hx, hmb⟩ := crash_may l m k i ((List.range i).map (kpick P)) (by simp) n hn
                refine ⟨x, ?_, hmb⟩
                have hin : inR (n : Int) ((⟨lastsA l k, rowW (· * 3 % 8) m i, -1, false, k + 1 + i⟩ : DS).crash P).L.length = true := decide_eq_true (by
                  simp only [DS.crash, settleL_length, lastsA_length]
                  omega)
                rw [DS.readE, if_neg (by simp [DS.crash]), if_neg (by rw [hin]; simp), Int.toNat_natCast]
                simp only [DS.read, DS.crash, lastW, rowW_length]
                rw [List.getD_eq_getElem?_getD, hx]
              generalize (⟨lastsA l k, rowW (· * 3 % 8) m i, -1, false, k + 1 + i⟩ : DS).crash P = sc at *
              have K4 := Lib.hid (And.intro hk4 hsec)
              clear hk4 hsec
              go_wp2_with fail
              go_loopw [12] (fun j wr => ∃ n : Nat, n ≤ 8 ∧ j = .int .i64 (n : Int) ∧ Kp w wr d gw sc (wasA l k)) (fun j _ => 8 - (intOf j).toNat)
              case atStart => exact ⟨0, by omega, rfl, K4.out.1⟩
              case round =>
                obtain ⟨n, hn, rfl, hkp⟩ := hrel
                have HKN := Lib.hid hkp
                clear hkp
                by_cases hn8 : n < 8
                · obtain ⟨x, hx, hmb⟩ := K4.out.2 n hn8
                  have HX := Lib.hid (And.intro hx hmb)
                  clear hx hmb
                  go_wp2_with fail
                  refine (read_kp HKN.out (n : Int)).mono ?_
                  rintro e w5 ⟨ro, rc, rfl, hown, hb5⟩
                  rw [HX.out.1] at hown ⊢
                  have hfl : (fullL x).length = 512 := by simp [fullL]
                  simp only [hfl] at hown ⊢
                  have hat5 := At.own hown
                  obtain ⟨rb, rb0, rfl, hc5⟩ := At.ex0 hat5 0 (by rw [hfl]; decide)
                  have hx0 : (fullL x)[0]'(by rw [hfl]; decide) = x := by simp [fullL]
                  rw [hx0, Nat.add_zero] at hc5
                  have K5 := Lib.hid (And.intro hat5 (And.intro (HKN.out.below hb5) hc5))
                  clear hown hb5 hat5 hc5 hx0
                  go_wp2_with fail
                  refine seq_start (by kernel_rfl) ?_
                  refine seq_take 0 (v := ?_) rfl (by kernel_rfl) (fun _ _ _ h => h) (by rfl) (fun w' hw' => ?_) ?_
                  rotate_left
                  · go_simp; try with_reducible rfl
                  try simp only [List.getElem_toArray, List.getElem_cons_succ, List.getElem_cons_zero, Act.put, List.setIfInBounds_toArray, List.set_cons_zero, List.set_cons_succ]
                  refine seq_take 1 (v := ?_) rfl (by kernel_rfl) (fun _ _ _ h => h) (by rfl) (fun w' hw' => ?_) ?_
                  rotate_left
                  · go_simp; try with_reducible rfl
                  try simp only [List.getElem_toArray, List.getElem_cons_succ, List.getElem_cons_zero, Act.put, List.setIfInBounds_toArray, List.set_cons_zero, List.set_cons_succ]
                  refine seq_take 2 (v := ?_) rfl (by kernel_rfl) (fun _ _ _ h => h) (by rfl) (fun w' hw' => ?_) ?_
                  rotate_left
                  · go_simp; try with_reducible rfl
                  try simp only [List.getElem_toArray, List.getElem_cons_succ, List.getElem_cons_zero, Act.put, List.setIfInBounds_toArray, List.set_cons_zero, List.set_cons_succ]
                  refine seq_take 3 (v := ?_) rfl (by kernel_rfl) (fun _ _ _ h => h) (by rfl) (fun w' hw' => ?_) ?_
                  rotate_left
                  · go_simp; try with_reducible rfl
                  try simp only [List.getElem_toArray, List.getElem_cons_succ, List.getElem_cons_zero, Act.put, List.setIfInBounds_toArray, List.set_cons_zero, List.set_cons_succ]
                  refine seq_take 4 rfl (by kernel_rfl) (fun _ _ _ h => h) (by rfl) (seq_conv rfl rfl (K5.out.1) (by first | rfl | assumption | (symm; assumption) | simp)) ?_
                  try simp only [List.getElem_toArray, List.getElem_cons_succ, List.getElem_cons_zero, Act.put, List.setIfInBounds_toArray, List.set_cons_zero, List.set_cons_succ]
                  refine seq_take 5 (v := ?_) rfl (by kernel_rfl) (fun _ _ _ h => h) (by rfl) (fun w' hw' => ?_) ?_
                  rotate_left
                  · go_simp; try with_reducible rfl
                  try simp only [List.getElem_toArray, List.getElem_cons_succ, List.getElem_cons_zero, Act.put, List.setIfInBounds_toArray, List.set_cons_zero, List.set_cons_succ]
                  refine seq_take 6 (v := ?_) rfl (by kernel_rfl) (fun _ _ _ h => h) (by rfl) (fun w' hw' => ?_) ?_
                  rotate_left
                  · go_simp; try with_reducible rfl
                  try simp only [List.getElem_toArray, List.getElem_cons_succ, List.getElem_cons_zero, Act.put, List.setIfInBounds_toArray, List.set_cons_zero, List.set_cons_succ]
                  refine seq_take 7 rfl (by kernel_rfl) (fun _ _ _ h => h) (by rfl) (seq_ld8 rfl rfl (K5.out.2.2)) ?_
                  try simp only [List.getElem_toArray, List.getElem_cons_succ, List.getElem_cons_zero, Act.put, List.setIfInBounds_toArray, List.set_cons_zero, List.set_cons_succ]
                  refine seq_run 8 rfl (by kernel_rfl) (by rfl) (fun KK hKK => ?_)
                  go_wp2_with fail
                  refine (full_any x _).mono ?_
                  rintro e w6 ⟨g6, rfl, hg6, hat6, _, hb6⟩
                  have A6 := Lib.hid (And.intro (show At w6 (some ⟨g6, 0, none⟩) (bytesV (fullL x)) from hat6) (And.intro hb6 (K5.out.2.1.below (below_drew hb6))))
                  have hc6 : w6.cell? ⟨rb, rb0, none⟩ = some (.int .u8 (x.toNat : Int)) := (World.cell?_of_block (a := ⟨rb, rb0, none⟩) ((below_drew hb6).block rb (World.block_lt_of_cell? (a := ⟨rb, rb0, none⟩) w5 K5.out.2.2))).trans K5.out.2.2
                  have HC6 := Lib.hid hc6
                  clear hg6 hat6 hb6 hc6
                  go_wp2_with fail
                  refine ⟨A6.out.2.1, ?_⟩
                  refine seq_take 9 rfl (by kernel_rfl) (fun _ _ _ h => h) (by rfl) (seq_conv rfl rfl (A6.out.1) (by first | rfl | assumption | (symm; assumption) | simp)) ?_
                  try simp only [List.getElem_toArray, List.getElem_cons_succ, List.getElem_cons_zero, Act.put, List.setIfInBounds_toArray, List.set_cons_zero, List.set_cons_succ]
                  refine seq_take 10 (v := ?_) rfl (by kernel_rfl) (fun _ _ _ h => h) (by rfl) (fun w' hw' => ?_) ?_
                  rotate_left
                  · go_simp; try with_reducible rfl
                  try simp only [List.getElem_toArray, List.getElem_cons_succ, List.getElem_cons_zero, Act.put, List.setIfInBounds_toArray, List.set_cons_zero, List.set_cons_succ]
                  refine seq_take 11 (v := ?_) rfl (by kernel_rfl) (fun _ _ _ h => h) (by rfl) (fun w' hw' => ?_) ?_
                  rotate_left
                  · go_simp; try with_reducible rfl
                  try simp only [List.getElem_toArray, List.getElem_cons_succ, List.getElem_cons_zero, Act.put, List.setIfInBounds_toArray, List.set_cons_zero, List.set_cons_succ]
                  refine seq_done (by kernel_rfl) ?_
                  have hwn : n < (wasA l k).length := by rw [wasA_length]; exact hn8
                  have hcw : w6.cell? ⟨gw, n, none⟩ = some (.int .u8 (((wasA l k)[n]).toNat : Int)) := by
                    rw [cell_of_row _ gw n _ _ (0, 0) A6.out.2.2.row]
                    have := bytesV_get (wasA l k) n hwn
                    simpa [u8v] using this
                  have hwe : (wasA l k)[n] = (wasA l k).getD n 0 := by simp [List.getD, hwn]
                  rw [hwe] at hcw
                  have HCW := Lib.hid hcw
                  have HMB := Lib.hid (mayB_of HX.out.2)
                  generalize (wasA l k).getD n 0 = y at *
                  clear hwn hwe hcw hfl
                  have hn8' : (n : Int) < 8 := by omega
                  go_wp2_with fail
                  refine seq_start (by kernel_rfl) ?_
                  refine seq_take 0 (v := ?_) rfl (by kernel_rfl) (fun _ _ _ h => h) (by rfl) (fun w' hw' => ?_) ?_
                  rotate_left
                  · go_simp; try with_reducible rfl
                  try simp only [List.getElem_toArray, List.getElem_cons_succ, List.getElem_cons_zero, Act.put, List.setIfInBounds_toArray, List.set_cons_zero, List.set_cons_succ]
                  refine seq_take 1 (v := ?_) rfl (by kernel_rfl) (fun _ _ _ h => h) (by rfl) (fun w' hw' => ?_) ?_
                  rotate_left
                  · go_simp; try with_reducible rfl
                  try simp only [List.getElem_toArray, List.getElem_cons_succ, List.getElem_cons_zero, Act.put, List.setIfInBounds_toArray, List.set_cons_zero, List.set_cons_succ]
                  refine seq_take 2 rfl (by kernel_rfl) (fun _ _ _ h => h) (by rfl) (seq_ld8 rfl rfl (HC6.out)) ?_
                  try simp only [List.getElem_toArray, List.getElem_cons_succ, List.getElem_cons_zero, Act.put, List.setIfInBounds_toArray, List.set_cons_zero, List.set_cons_succ]
                  refine seq_take 3 (v := ?_) rfl (by kernel_rfl) (fun _ _ _ h => h) (by rfl) (fun w' hw' => ?_) ?_
                  rotate_left
                  · go_simp; try with_reducible rfl
                  try simp only [List.getElem_toArray, List.getElem_cons_succ, List.getElem_cons_zero, Act.put, List.setIfInBounds_toArray, List.set_cons_zero, List.set_cons_succ]
                  refine seq_take 4 (v := ?_) rfl (by kernel_rfl) (fun _ _ _ h => h) (by rfl) (fun w' hw' => ?_) ?_
                  rotate_left
                  · go_simp; try with_reducible rfl
                  try simp only [List.getElem_toArray, List.getElem_cons_succ, List.getElem_cons_zero, Act.put, List.setIfInBounds_toArray, List.set_cons_zero, List.set_cons_succ]
                  refine seq_take 5 rfl (by kernel_rfl) (fun _ _ _ h => h) (by rfl) (seq_ld8 rfl rfl (HCW.out)) ?_
                  try simp only [List.getElem_toArray, List.getElem_cons_succ, List.getElem_cons_zero, Act.put, List.setIfInBounds_toArray, List.set_cons_zero, List.set_cons_succ]
                  refine seq_take 6 rfl (by kernel_rfl) (fun _ _ _ h => h) (by rfl) (yields_eqi (by kernel_rfl) rfl rfl rfl ((show _ = mayB m n x y 0 from rfl))) ?_
                  try simp only [List.getElem_toArray, List.getElem_cons_succ, List.getElem_cons_zero, Act.put, List.setIfInBounds_toArray, List.set_cons_zero, List.set_cons_succ]
                  refine seq_take 7 (v := ?_) rfl (by kernel_rfl) (fun _ _ _ h => h) (by rfl) (fun w' hw' => ?_) ?_
                  rotate_left
                  · go_simp; try with_reducible rfl
                  try simp only [List.getElem_toArray, List.getElem_cons_succ, List.getElem_cons_zero, Act.put, List.setIfInBounds_toArray, List.set_cons_zero, List.set_cons_succ]
                  refine seq_done (by kernel_rfl) ?_
                  go_wp2_with fail
                  go_loopw [15, 16] (fun u j wr => ∃ q : Nat, q ≤ m.length ∧ q ≤ 40 ∧ j = .int .i64 (q : Int) ∧ u = .bool (mayB m n x y q) ∧ Below w6.heap.size w6 wr) (fun _ j _ => 40 - (intOf j).toNat)
                  case atStart => exact ⟨0, by omega, by omega, rfl, rfl, (Below.refl _ _).drew⟩
                  case round =>
                    obtain ⟨q, hq, hq40, rfl, rfl, hbel⟩ := hrel
                    have HBQ := Lib.hid hbel
                    clear hbel
                    by_cases hlt : q < m.length ∧ q < 40
                    · obtain ⟨hlt, hq4⟩ := hlt
                      obtain ⟨b, o, rfl, hcm⟩ := At.ex0 ((HAT.out.2.1.below A6.out.2.2.bel).below HBQ.out) q hlt
                      have hc6 : wr.cell? ⟨rb, rb0, none⟩ = some (.int .u8 (x.toNat : Int)) := (World.cell?_of_block (a := ⟨rb, rb0, none⟩) (HBQ.out.block rb (World.block_lt_of_cell? (a := ⟨rb, rb0, none⟩) w6 HC6.out))).trans HC6.out
                      have hms : mayB m n x y (q + 1) = (mayB m n x y q || (decide (q * 3 % 8 = n) && (((m[q]).toNat : Int) == (x.toNat : Int)))) := by
                        rw [mayB]; simp [List.getD, hlt]
                      have HCM := Lib.hid (And.intro hcm (And.intro hc6 hms))
                      have hw1 : IntKind.i64.wrap ((q : Int) * 3) = (q : Int) * 3 := by rw [IntKind.wrap_i64]; omega
                      have hw2 : ((q : Int) * 3).tmod 8 = ((q * 3 % 8 : Nat) : Int) := by rw [Int.tmod_eq_emod_of_nonneg (by omega)]; omega
                      have hz8 : q * 3 % 8 < 8 := Nat.mod_lt _ (by decide)
                      clear hcm hc6 hms
                      generalize m[q] = z at *
                      generalize q * 3 % 8 = z8 at *
                      have hw3 : IntKind.i64.wrap (z8 : Int) = (z8 : Int) := by rw [IntKind.wrap_i64]; omega
                      have hme : ((z8 : Int) == (n : Int)) = decide (z8 = n) := by rw [Bool.eq_iff_iff]; simp; omega
                      have HME := Lib.hid hme
                      clear hme
                      cases hmb : mayB m n x y q with
                      | true =>
                        have HM2 := Lib.hid hmb
                        clear hmb
                        go_wp2_with fail
                        refine seq_start (by kernel_rfl) ?_
                        refine seq_take 0 (v := ?_) rfl (by kernel_rfl) (fun _ _ _ h => h) (by rfl) (fun w' hw' => ?_) ?_
                        rotate_left
                        · go_simp; try with_reducible rfl
                        try simp only [List.getElem_toArray, List.getElem_cons_succ, List.getElem_cons_zero, Act.put, List.setIfInBounds_toArray, List.set_cons_zero, List.set_cons_succ]
                        refine seq_take 1 (v := ?_) rfl (by kernel_rfl) (fun _ _ _ h => h) (by rfl) (fun w' hw' => ?_) ?_
                        rotate_left
                        · go_simp; try with_reducible rfl
                        try simp only [List.getElem_toArray, List.getElem_cons_succ, List.getElem_cons_zero, Act.put, List.setIfInBounds_toArray, List.set_cons_zero, List.set_cons_succ]
                        refine seq_skip 2 rfl (by kernel_rfl) (fun _ _ _ h => h) (by rfl) ?_
                        try simp only [List.getElem_toArray, List.getElem_cons_succ, List.getElem_cons_zero, Act.put, List.setIfInBounds_toArray, List.set_cons_zero, List.set_cons_succ]
                        refine seq_skip 3 rfl (by kernel_rfl) (fun _ _ _ h => h) (by rfl) ?_
                        try simp only [List.getElem_toArray, List.getElem_cons_succ, List.getElem_cons_zero, Act.put, List.setIfInBounds_toArray, List.set_cons_zero, List.set_cons_succ]
                        refine seq_skip 4 rfl (by kernel_rfl) (fun _ _ _ h => h) (by rfl) ?_
                        try simp only [List.getElem_toArray, List.getElem_cons_succ, List.getElem_cons_zero, Act.put, List.setIfInBounds_toArray, List.set_cons_zero, List.set_cons_succ]
                        refine seq_skip 5 rfl (by kernel_rfl) (fun _ _ _ h => h) (by rfl) ?_
                        try simp only [List.getElem_toArray, List.getElem_cons_succ, List.getElem_cons_zero, Act.put, List.setIfInBounds_toArray, List.set_cons_zero, List.set_cons_succ]
                        refine seq_skip 6 rfl (by kernel_rfl) (fun _ _ _ h => h) (by rfl) ?_
                        try simp only [List.getElem_toArray, List.getElem_cons_succ, List.getElem_cons_zero, Act.put, List.setIfInBounds_toArray, List.set_cons_zero, List.set_cons_succ]
                        refine seq_skip 7 rfl (by kernel_rfl) (fun _ _ _ h => h) (by rfl) ?_
                        try simp only [List.getElem_toArray, List.getElem_cons_succ, List.getElem_cons_zero, Act.put, List.setIfInBounds_toArray, List.set_cons_zero, List.set_cons_succ]
                        refine seq_skip 8 rfl (by kernel_rfl) (fun _ _ _ h => h) (by rfl) ?_
                        try simp only [List.getElem_toArray, List.getElem_cons_succ, List.getElem_cons_zero, Act.put, List.setIfInBounds_toArray, List.set_cons_zero, List.set_cons_succ]
                        refine seq_skip 9 rfl (by kernel_rfl) (fun _ _ _ h => h) (by rfl) ?_
                        try simp only [List.getElem_toArray, List.getElem_cons_succ, List.getElem_cons_zero, Act.put, List.setIfInBounds_toArray, List.set_cons_zero, List.set_cons_succ]
                        refine seq_skip 10 rfl (by kernel_rfl) (fun _ _ _ h => h) (by rfl) ?_
                        try simp only [List.getElem_toArray, List.getElem_cons_succ, List.getElem_cons_zero, Act.put, List.setIfInBounds_toArray, List.set_cons_zero, List.set_cons_succ]
                        refine seq_skip 11 rfl (by kernel_rfl) (fun _ _ _ h => h) (by rfl) ?_
                        try simp only [List.getElem_toArray, List.getElem_cons_succ, List.getElem_cons_zero, Act.put, List.setIfInBounds_toArray, List.set_cons_zero, List.set_cons_succ]
                        refine seq_skip 12 rfl (by kernel_rfl) (fun _ _ _ h => h) (by rfl) ?_
                        try simp only [List.getElem_toArray, List.getElem_cons_succ, List.getElem_cons_zero, Act.put, List.setIfInBounds_toArray, List.set_cons_zero, List.set_cons_succ]
                        refine seq_skip 13 rfl (by kernel_rfl) (fun _ _ _ h => h) (by rfl) ?_
                        try simp only [List.getElem_toArray, List.getElem_cons_succ, List.getElem_cons_zero, Act.put, List.setIfInBounds_toArray, List.set_cons_zero, List.set_cons_succ]
                        refine seq_skip 14 rfl (by kernel_rfl) (fun _ _ _ h => h) (by rfl) ?_
                        try simp only [List.getElem_toArray, List.getElem_cons_succ, List.getElem_cons_zero, Act.put, List.setIfInBounds_toArray, List.set_cons_zero, List.set_cons_succ]
                        refine seq_skip 15 rfl (by kernel_rfl) (fun _ _ _ h => h) (by rfl) ?_
                        try simp only [List.getElem_toArray, List.getElem_cons_succ, List.getElem_cons_zero, Act.put, List.setIfInBounds_toArray, List.set_cons_zero, List.set_cons_succ]
                        refine seq_skip 16 rfl (by kernel_rfl) (fun _ _ _ h => h) (by rfl) ?_
                        try simp only [List.getElem_toArray, List.getElem_cons_succ, List.getElem_cons_zero, Act.put, List.setIfInBounds_toArray, List.set_cons_zero, List.set_cons_succ]
                        refine seq_take 17 (v := ?_) rfl (by kernel_rfl) (fun _ _ _ h => h) (by rfl) (fun w' hw' => ?_) ?_
                        rotate_left
                        · go_simp; try with_reducible rfl
                        try simp only [List.getElem_toArray, List.getElem_cons_succ, List.getElem_cons_zero, Act.put, List.setIfInBounds_toArray, List.set_cons_zero, List.set_cons_succ]
                        refine seq_take 18 (v := ?_) rfl (by kernel_rfl) (fun _ _ _ h => h) (by rfl) (fun w' hw' => ?_) ?_
                        rotate_left
                        · go_simp; try with_reducible rfl
                        try simp only [List.getElem_toArray, List.getElem_cons_succ, List.getElem_cons_zero, Act.put, List.setIfInBounds_toArray, List.set_cons_zero, List.set_cons_succ]
                        refine seq_done (by kernel_rfl) ?_
                        go_wp2_with fail
                        go_roundw
                        case rel => exact ⟨q + 1, by omega, by omega, by simp, by rw [HCM.out.2.2, HM2.out]; rfl, HBQ.out.drew⟩
                        case measure => simp [intOf]; omega
                      | false =>
                        have HM2 := Lib.hid hmb
                        clear hmb
                        cases hde : decide (z8 = n) with
                        | false =>
                          have HD2 := Lib.hid hde
                          clear hde
                          go_wp2_with fail
                          refine seq_start (by kernel_rfl) ?_
                          refine seq_take 0 (v := ?_) rfl (by kernel_rfl) (fun _ _ _ h => h) (by rfl) (fun w' hw' => ?_) ?_
                          rotate_left
                          · go_simp; try with_reducible rfl
                          try simp only [List.getElem_toArray, List.getElem_cons_succ, List.getElem_cons_zero, Act.put, List.setIfInBounds_toArray, List.set_cons_zero, List.set_cons_succ]
                          refine seq_take 1 (v := ?_) rfl (by kernel_rfl) (fun _ _ _ h => h) (by rfl) (fun w' hw' => ?_) ?_
                          rotate_left
                          · go_simp; try with_reducible rfl
                          try simp only [List.getElem_toArray, List.getElem_cons_succ, List.getElem_cons_zero, Act.put, List.setIfInBounds_toArray, List.set_cons_zero, List.set_cons_succ]
                          refine seq_take 2 (v := ?_) rfl (by kernel_rfl) (fun _ _ _ h => h) (by rfl) (fun w' hw' => ?_) ?_
                          rotate_left
                          · go_simp; try with_reducible rfl
                          try simp only [List.getElem_toArray, List.getElem_cons_succ, List.getElem_cons_zero, Act.put, List.setIfInBounds_toArray, List.set_cons_zero, List.set_cons_succ]
                          refine seq_take 3 (v := ?_) rfl (by kernel_rfl) (fun _ _ _ h => h) (by rfl) (fun w' hw' => ?_) ?_
                          rotate_left
                          · go_simp; try with_reducible rfl
                          try simp only [List.getElem_toArray, List.getElem_cons_succ, List.getElem_cons_zero, Act.put, List.setIfInBounds_toArray, List.set_cons_zero, List.set_cons_succ]
                          refine seq_take 4 (v := ?_) rfl (by kernel_rfl) (fun _ _ _ h => h) (by rfl) (fun w' hw' => ?_) ?_
                          rotate_left
                          · go_simp; try with_reducible rfl
                          try simp only [List.getElem_toArray, List.getElem_cons_succ, List.getElem_cons_zero, Act.put, List.setIfInBounds_toArray, List.set_cons_zero, List.set_cons_succ]
                          refine seq_take 5 (v := ?_) rfl (by kernel_rfl) (fun _ _ _ h => h) (by rfl) (fun w' hw' => ?_) ?_
                          rotate_left
                          · go_simp; try with_reducible rfl
                          try simp only [List.getElem_toArray, List.getElem_cons_succ, List.getElem_cons_zero, Act.put, List.setIfInBounds_toArray, List.set_cons_zero, List.set_cons_succ]
                          refine seq_take 6 rfl (by kernel_rfl) (fun _ _ _ h => h) (by rfl) (yields_eqi (by kernel_rfl) rfl rfl rfl ((HME.out.trans HD2.out))) ?_
                          try simp only [List.getElem_toArray, List.getElem_cons_succ, List.getElem_cons_zero, Act.put, List.setIfInBounds_toArray, List.set_cons_zero, List.set_cons_succ]
                          refine seq_take 7 (v := ?_) rfl (by kernel_rfl) (fun _ _ _ h => h) (by rfl) (fun w' hw' => ?_) ?_
                          rotate_left
                          · go_simp; try with_reducible rfl
                          try simp only [List.getElem_toArray, List.getElem_cons_succ, List.getElem_cons_zero, Act.put, List.setIfInBounds_toArray, List.set_cons_zero, List.set_cons_succ]
                          refine seq_skip 8 rfl (by kernel_rfl) (fun _ _ _ h => h) (by rfl) ?_
                          try simp only [List.getElem_toArray, List.getElem_cons_succ, List.getElem_cons_zero, Act.put, List.setIfInBounds_toArray, List.set_cons_zero, List.set_cons_succ]
                          refine seq_skip 9 rfl (by kernel_rfl) (fun _ _ _ h => h) (by rfl) ?_
                          try simp only [List.getElem_toArray, List.getElem_cons_succ, List.getElem_cons_zero, Act.put, List.setIfInBounds_toArray, List.set_cons_zero, List.set_cons_succ]
                          refine seq_skip 10 rfl (by kernel_rfl) (fun _ _ _ h => h) (by rfl) ?_
                          try simp only [List.getElem_toArray, List.getElem_cons_succ, List.getElem_cons_zero, Act.put, List.setIfInBounds_toArray, List.set_cons_zero, List.set_cons_succ]
                          refine seq_skip 11 rfl (by kernel_rfl) (fun _ _ _ h => h) (by rfl) ?_
                          try simp only [List.getElem_toArray, List.getElem_cons_succ, List.getElem_cons_zero, Act.put, List.setIfInBounds_toArray, List.set_cons_zero, List.set_cons_succ]
                          refine seq_skip 12 rfl (by kernel_rfl) (fun _ _ _ h => h) (by rfl) ?_
                          try simp only [List.getElem_toArray, List.getElem_cons_succ, List.getElem_cons_zero, Act.put, List.setIfInBounds_toArray, List.set_cons_zero, List.set_cons_succ]
                          refine seq_skip 13 rfl (by kernel_rfl) (fun _ _ _ h => h) (by rfl) ?_
                          try simp only [List.getElem_toArray, List.getElem_cons_succ, List.getElem_cons_zero, Act.put, List.setIfInBounds_toArray, List.set_cons_zero, List.set_cons_succ]
                          refine seq_skip 14 rfl (by kernel_rfl) (fun _ _ _ h => h) (by rfl) ?_
                          try simp only [List.getElem_toArray, List.getElem_cons_succ, List.getElem_cons_zero, Act.put, List.setIfInBounds_toArray, List.set_cons_zero, List.set_cons_succ]
                          refine seq_skip 15 rfl (by kernel_rfl) (fun _ _ _ h => h) (by rfl) ?_
                          try simp only [List.getElem_toArray, List.getElem_cons_succ, List.getElem_cons_zero, Act.put, List.setIfInBounds_toArray, List.set_cons_zero, List.set_cons_succ]
                          refine seq_take 16 (v := ?_) rfl (by kernel_rfl) (fun _ _ _ h => h) (by rfl) (fun w' hw' => ?_) ?_
                          rotate_left
                          · go_simp; try with_reducible rfl
                          try simp only [List.getElem_toArray, List.getElem_cons_succ, List.getElem_cons_zero, Act.put, List.setIfInBounds_toArray, List.set_cons_zero, List.set_cons_succ]
                          refine seq_take 17 (v := ?_) rfl (by kernel_rfl) (fun _ _ _ h => h) (by rfl) (fun w' hw' => ?_) ?_
                          rotate_left
                          · go_simp; try with_reducible rfl
                          try simp only [List.getElem_toArray, List.getElem_cons_succ, List.getElem_cons_zero, Act.put, List.setIfInBounds_toArray, List.set_cons_zero, List.set_cons_succ]
                          refine seq_take 18 (v := ?_) rfl (by kernel_rfl) (fun _ _ _ h => h) (by rfl) (fun w' hw' => ?_) ?_
                          rotate_left
                          · go_simp; try with_reducible rfl
                          try simp only [List.getElem_toArray, List.getElem_cons_succ, List.getElem_cons_zero, Act.put, List.setIfInBounds_toArray, List.set_cons_zero, List.set_cons_succ]
                          refine seq_done (by kernel_rfl) ?_
                          go_wp2_with fail
                          go_roundw
                          case rel => exact ⟨q + 1, by omega, by omega, by simp, by rw [HCM.out.2.2, HM2.out, HD2.out]; rfl, HBQ.out.drew⟩
                          case measure => simp [intOf]; omega
                        | true =>
                          have HD2 := Lib.hid hde
                          clear hde
                          obtain ⟨c, hcc⟩ : ∃ c : Bool, (((z.toNat : Nat) : Int) == ((x.toNat : Nat) : Int)) = c := ⟨_, rfl⟩
                          have HCC := Lib.hid hcc
                          clear hcc
                          go_wp2_with fail
                          refine seq_start (by kernel_rfl) ?_
                          refine seq_take 0 (v := ?_) rfl (by kernel_rfl) (fun _ _ _ h => h) (by rfl) (fun w' hw' => ?_) ?_
                          rotate_left
                          · go_simp; try with_reducible rfl
                          try simp only [List.getElem_toArray, List.getElem_cons_succ, List.getElem_cons_zero, Act.put, List.setIfInBounds_toArray, List.set_cons_zero, List.set_cons_succ]
                          refine seq_take 1 (v := ?_) rfl (by kernel_rfl) (fun _ _ _ h => h) (by rfl) (fun w' hw' => ?_) ?_
                          rotate_left
                          · go_simp; try with_reducible rfl
                          try simp only [List.getElem_toArray, List.getElem_cons_succ, List.getElem_cons_zero, Act.put, List.setIfInBounds_toArray, List.set_cons_zero, List.set_cons_succ]
                          refine seq_take 2 (v := ?_) rfl (by kernel_rfl) (fun _ _ _ h => h) (by rfl) (fun w' hw' => ?_) ?_
                          rotate_left
                          · go_simp; try with_reducible rfl
                          try simp only [List.getElem_toArray, List.getElem_cons_succ, List.getElem_cons_zero, Act.put, List.setIfInBounds_toArray, List.set_cons_zero, List.set_cons_succ]
                          refine seq_take 3 (v := ?_) rfl (by kernel_rfl) (fun _ _ _ h => h) (by rfl) (fun w' hw' => ?_) ?_
                          rotate_left
                          · go_simp; try with_reducible rfl
                          try simp only [List.getElem_toArray, List.getElem_cons_succ, List.getElem_cons_zero, Act.put, List.setIfInBounds_toArray, List.set_cons_zero, List.set_cons_succ]
                          refine seq_take 4 (v := ?_) rfl (by kernel_rfl) (fun _ _ _ h => h) (by rfl) (fun w' hw' => ?_) ?_
                          rotate_left
                          · go_simp; try with_reducible rfl
                          try simp only [List.getElem_toArray, List.getElem_cons_succ, List.getElem_cons_zero, Act.put, List.setIfInBounds_toArray, List.set_cons_zero, List.set_cons_succ]
                          refine seq_take 5 (v := ?_) rfl (by kernel_rfl) (fun _ _ _ h => h) (by rfl) (fun w' hw' => ?_) ?_
                          rotate_left
                          · go_simp; try with_reducible rfl
                          try simp only [List.getElem_toArray, List.getElem_cons_succ, List.getElem_cons_zero, Act.put, List.setIfInBounds_toArray, List.set_cons_zero, List.set_cons_succ]
                          refine seq_take 6 rfl (by kernel_rfl) (fun _ _ _ h => h) (by rfl) (yields_eqi (by kernel_rfl) rfl rfl rfl ((HME.out.trans HD2.out))) ?_
                          try simp only [List.getElem_toArray, List.getElem_cons_succ, List.getElem_cons_zero, Act.put, List.setIfInBounds_toArray, List.set_cons_zero, List.set_cons_succ]
                          refine seq_take 7 (v := ?_) rfl (by kernel_rfl) (fun _ _ _ h => h) (by rfl) (fun w' hw' => ?_) ?_
                          rotate_left
                          · go_simp; try with_reducible rfl
                          try simp only [List.getElem_toArray, List.getElem_cons_succ, List.getElem_cons_zero, Act.put, List.setIfInBounds_toArray, List.set_cons_zero, List.set_cons_succ]
                          refine seq_take 8 (v := ?_) rfl (by kernel_rfl) (fun _ _ _ h => h) (by rfl) (fun w' hw' => ?_) ?_
                          rotate_left
                          · go_simp; try with_reducible rfl
                          try simp only [List.getElem_toArray, List.getElem_cons_succ, List.getElem_cons_zero, Act.put, List.setIfInBounds_toArray, List.set_cons_zero, List.set_cons_succ]
                          refine seq_take 9 (v := ?_) rfl (by kernel_rfl) (fun _ _ _ h => h) (by rfl) (fun w' hw' => ?_) ?_
                          rotate_left
                          · go_simp; try with_reducible rfl
                          try simp only [List.getElem_toArray, List.getElem_cons_succ, List.getElem_cons_zero, Act.put, List.setIfInBounds_toArray, List.set_cons_zero, List.set_cons_succ]
                          refine seq_take 10 (v := ?_) rfl (by kernel_rfl) (fun _ _ _ h => h) (by rfl) (fun w' hw' => ?_) ?_
                          rotate_left
                          · go_simp; try with_reducible rfl
                          try simp only [List.getElem_toArray, List.getElem_cons_succ, List.getElem_cons_zero, Act.put, List.setIfInBounds_toArray, List.set_cons_zero, List.set_cons_succ]
                          refine seq_take 11 rfl (by kernel_rfl) (fun _ _ _ h => h) (by rfl) (seq_ld8 rfl rfl (HCM.out.1)) ?_
                          try simp only [List.getElem_toArray, List.getElem_cons_succ, List.getElem_cons_zero, Act.put, List.setIfInBounds_toArray, List.set_cons_zero, List.set_cons_succ]
                          refine seq_take 12 (v := ?_) rfl (by kernel_rfl) (fun _ _ _ h => h) (by rfl) (fun w' hw' => ?_) ?_
                          rotate_left
                          · go_simp; try with_reducible rfl
                          try simp only [List.getElem_toArray, List.getElem_cons_succ, List.getElem_cons_zero, Act.put, List.setIfInBounds_toArray, List.set_cons_zero, List.set_cons_succ]
                          refine seq_take 13 (v := ?_) rfl (by kernel_rfl) (fun _ _ _ h => h) (by rfl) (fun w' hw' => ?_) ?_
                          rotate_left
                          · go_simp; try with_reducible rfl
                          try simp only [List.getElem_toArray, List.getElem_cons_succ, List.getElem_cons_zero, Act.put, List.setIfInBounds_toArray, List.set_cons_zero, List.set_cons_succ]
                          refine seq_take 14 rfl (by kernel_rfl) (fun _ _ _ h => h) (by rfl) (seq_ld8 rfl rfl (HCM.out.2.1)) ?_
                          try simp only [List.getElem_toArray, List.getElem_cons_succ, List.getElem_cons_zero, Act.put, List.setIfInBounds_toArray, List.set_cons_zero, List.set_cons_succ]
                          refine seq_take 15 rfl (by kernel_rfl) (fun _ _ _ h => h) (by rfl) (yields_eqi (by kernel_rfl) rfl rfl rfl (HCC.out)) ?_
                          try simp only [List.getElem_toArray, List.getElem_cons_succ, List.getElem_cons_zero, Act.put, List.setIfInBounds_toArray, List.set_cons_zero, List.set_cons_succ]
                          refine seq_take 16 (v := ?_) rfl (by kernel_rfl) (fun _ _ _ h => h) (by rfl) (fun w' hw' => ?_) ?_
                          rotate_left
                          · go_simp; try with_reducible rfl
                          try simp only [List.getElem_toArray, List.getElem_cons_succ, List.getElem_cons_zero, Act.put, List.setIfInBounds_toArray, List.set_cons_zero, List.set_cons_succ]
                          refine seq_take 17 (v := ?_) rfl (by kernel_rfl) (fun _ _ _ h => h) (by rfl) (fun w' hw' => ?_) ?_
                          rotate_left
                          · go_simp; try with_reducible rfl
                          try simp only [List.getElem_toArray, List.getElem_cons_succ, List.getElem_cons_zero, Act.put, List.setIfInBounds_toArray, List.set_cons_zero, List.set_cons_succ]
                          refine seq_take 18 (v := ?_) rfl (by kernel_rfl) (fun _ _ _ h => h) (by rfl) (fun w' hw' => ?_) ?_
                          rotate_left
                          · go_simp; try with_reducible rfl
                          try simp only [List.getElem_toArray, List.getElem_cons_succ, List.getElem_cons_zero, Act.put, List.setIfInBounds_toArray, List.set_cons_zero, List.set_cons_succ]
                          refine seq_done (by kernel_rfl) ?_
                          go_wp2_with fail
                          go_roundw
                          case rel => exact ⟨q + 1, by omega, by omega, by simp, by rw [HCM.out.2.2, HM2.out, HD2.out, HCC.out]; simp, HBQ.out.drew⟩
                          case measure => simp [intOf]; omega
                    · have hqi : q = i := by omega
                      subst hqi
                      have hmb := HMB.out
                      go_wp2_with fail
                      go_roundw
                      case rel => exact ⟨n + 1, by omega, by simp, A6.out.2.2.below HBQ.out⟩
                      case measure => simp [intOf]; omega
                · go_wp2_with fail
                  go_ret
                  exact ⟨rfl, HKN.out.bel⟩

set_option maxRecDepth 100000 in
theorem lifted (os : Os) (started : os.Started) (H : Type) (enc : TypeId × Value → H) :
    ReturnsInHanded {} Try.checked os 3 .any (Rows.diskKeepsSpec.pre6 enc Try.prog Try.f3 Rows.diskKeepsRow.domain false) (Rows.diskKeepsSpec.post enc Try.prog Try.f3 false true false false) := by
  refine returnsInHanded_of_change (C := Try.checked) own started (by kernel_rfl) Try.func3
    (ChangeSpec.witness6 (enc := enc) (C := Try.checked) false ⟨#[], #[.slice none 0 0, .slice none 0 0, .slice none 0 0], []⟩ 8 (by kernel_rfl) (by kernel_rfl) (by kernel_rfl) (by kernel_rfl)) ?_
  intro W base args ds gs before hval0 hW hcnd _
  have hval : ∀ (j : Nat) t v, Try.f3.params[j]? = some t → args[j]? = some v → Value.okWide Try.prog W .any base t v := hval0
  have hW' := hW
  obtain ⟨p, q, hA0, hV, rfl, hfz, hnd⟩ := hW
  have hA : DataW.TrodAll enc Try.prog W 0 (fun _ => true) true Try.f3.params.toList args.toList ds p := hA0
  rw [Try.params3] at hA hval
  obtain ⟨v0, v1, v2, d0, d1, d2, p0, p1, p2, rfl, rfl, rfl, h0, h1, h2⟩ := trodAll_three hA
  obtain ⟨rfl, rfl⟩ := trodVars_none hV
  obtain ⟨ao, cap, l, rfl, hc, hm, hat⟩ := open_bytes Try.underlying22 Try.underlying5 cellsU8 (hval 0 22 v0 rfl rfl) h0
  obtain ⟨bo, bcap, m, rfl, hbc, hbm, hbt⟩ := open_bytes Try.underlying22 Try.underlying5 cellsU8 (hval 1 22 v1 rfl rfl) h1
  obtain ⟨po, pcap, P, rfl, hpc, hpm, hpt, _⟩ := open_intsl Try.underlying23 Try.underlying3 (by kernel_rfl) (hval 2 23 v2 rfl rfl) h2
  refine (walk ao bo po l m P cap bcap pcap (by omega) W hat hbt hpt (fun b hb hP => ?_) (by omega) (by omega)).mono fun e W' ⟨he, hb⟩ => ?_
  · obtain ⟨b', hb', hlt⟩ := hpt.lt (by simpa using hP)
    rw [hb] at hb'
    cases hb'
    exact hlt
  subst he
  exact ⟨_, rfl, post_law laidOut rfl rfl Try.underlying4 readable rfl rfl rfl hW' hb⟩

theorem proved : Rows.DiskKeepsSaid :=
  OpenClaim.holds_of_wide 3 Try.f3 rfl rfl rfl rfl rfl rfl rfl ⟨rfl, rfl, rfl, rfl, rfl⟩ rfl rfl rfl rfl rfl (by kernel_rfl) Try.func3 (by kernel_rfl)
    (of_decide_eq_true (by kernel_rfl)) (by unfold Func.isWrapper; first | (rw [if_pos (by decide +kernel)]; kernel_rfl) | (rw [if_neg (by decide +kernel)]; exact ⟨rfl, rfl⟩))
    (fun os started H enc _ => lifted os started H enc)
end Go.Proofs.Ytnonhmjfhcmpgaa.diskKeeps
