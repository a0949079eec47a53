/- THE LAW CrcAdds: sums of two rows of one length, put together, are the sum of the rows put together and of noughts. -/
import Derived.Test.YtmnaomdnjaiggaaDoorTab
namespace Go.Proofs.YtmnaomdnjaiggaaDoor.crcAdds
open Go.ChangeShapes Go.WideShapes Go.ChangeAt Go.RowKit Go.ChangeMaps

/-- What the sums' region lays. -/
def PartOf (A : List UInt8) (v : Value) (w : World) : Prop := ∃ g, v = .slice (some ⟨g, 0, none⟩) 1 1 ∧ Parts w (some ⟨g, 0, none⟩) [A]
def SumIs (n : Nat) (v : Value) : Prop := v = .int .u32 (n : Int)
def Phi (A B : List UInt8) (n : Nat) (k : Nat) (v : Value) (w : World) : Prop := match k with
  | 5 => PartOf A v w
  | 6 => SumIs (crc A) v
  | 10 => PartOf B v w
  | 11 => SumIs (crc B) v
  | 12 => SumIs (crc A ^^^ crc B) v
  | 14 => ∃ g, v = .slice (some ⟨g, 0, none⟩) n n ∧ At w (some ⟨g, 0, none⟩) (bytesV (List.replicate n 0))
  | 15 => PartOf (List.replicate n 0) v w
  | 16 => SumIs (crc (List.replicate n 0)) v
  | 17 => SumIs (crc A ^^^ crc B ^^^ crc (List.replicate n 0)) v
  | 19 => PartOf (xorL A B) v w
  | 20 => SumIs (crc (xorL A B)) v
  | _ => v = .bool true
theorem Phi_mono (A B : List UInt8) (n : Nat) : ∀ k v w w', Phi A B n k v w → Below w.heap.size w w' → Phi A B n k v w' := by
  intro k v w w' h hb
  have hp : ∀ A, PartOf A v w → PartOf A v w' := fun A ⟨g, e, hp⟩ => ⟨g, e, hp.below hb⟩
  unfold Phi at h ⊢
  split at h
  · exact hp _ h
  · exact h
  · exact hp _ h
  · exact h
  · exact h
  · obtain ⟨g, e, ha⟩ := h; exact ⟨g, e, ha.below hb⟩
  · exact hp _ h
  · exact h
  · exact h
  · exact hp _ h
  · exact h
  · exact h

set_option maxRecDepth 100000 in
set_option maxHeartbeats 1000000 in
theorem walk (ao : Option Addr) (l : List UInt8) (cap : Nat) (hc : l.length ≤ cap) (hm : cap ≤ 9223372036854775807) (bo : Option Addr) (m : List UInt8) (cap2 : Nat) (hc2 : m.length ≤ cap2) (hm2 : cap2 ≤ 9223372036854775807) (w : World) (hat : At w ao (bytesV l)) (hat2 : At w bo (bytesV m)) (ht : Tab w) :
    Calls Tryd.prog 4 #[.slice ao l.length cap, .slice bo m.length cap2] w (Says w (.bool true)) := by
  have HT := Lib.hid ht
  have HA := Lib.hid (And.intro hat hat2)
  clear ht hat hat2
  obtain ⟨n, hn⟩ : ∃ n, n = min (min l.length m.length) 2000 := ⟨_, rfl⟩
  have h1 : n ≤ l.length := by omega
  have h2 : n ≤ m.length := by omega
  have h3 : n ≤ 2000 := by omega
  have HN := Lib.hid (show min (min (l.length : Int) (m.length : Int)) 2000 = (n : Int) by omega)
  clear hn
  go_enter Tryd.func4, Tryd.ntmps4
  go_wp2_with (refine op_min3 rfl _ _ _ _ rfl _ _ _ _ _ rfl rfl rfl HN.out ?_)
  go_loopw [6, 7] (fun v i wr => ∃ (k : Nat) (co : Option Addr) (capc : Nat), k ≤ n ∧ i = .int .i64 (k : Int) ∧ v = .slice co k capc ∧ wr.ownsRow w.heap.size 5 1 (.slice co k capc) k (bytesV (xorL (l.take k) (m.take k))) ∧ Below w.heap.size w wr) (fun _ i _ => n - (intOf i).toNat)
  case atStart => exact ⟨0, none, 0, Nat.zero_le _, rfl, rfl, World.ownsRow_nil _ _ _ _, Below.refl _ _⟩
  case round =>
    obtain ⟨k, co, capc, hk, rfl, rfl, hown, hbel⟩ := hrel
    have H := Lib.hid (And.intro hown hbel)
    have hsz := hbel.size
    clear hown hbel
    by_cases hlt : k < n
    · have hkl : k < l.length := by omega
      have hkm : k < m.length := by omega
      obtain ⟨b1, o1, rfl, hcell1⟩ : ∃ b o, ao = some ⟨b, o, none⟩ ∧ ∀ w', GrewB w.heap.size wr.drew w' → w'.cell? ⟨b, o + k, none⟩ = some (.int .u8 ((l[k]).toNat : Int)) := by
        rcases HA.out.1 with e | ⟨b, o, rfl, hx⟩
        · have := congrArg List.length e; rw [bytesV_length, List.length_nil] at this; omega
        · refine ⟨b, o, rfl, fun w' hb => ?_⟩
          have h0 := hx k _ (bytesV_get l k hkl)
          have hlt := World.block_lt_of_cell? (a := ⟨b, o + k, none⟩) w h0
          exact (World.cell?_of_block (a := ⟨b, o + k, none⟩) ((hb.block b hlt).trans (H.out.2.block b hlt))).trans h0
      obtain ⟨b2, o2, rfl, hcell2⟩ : ∃ b o, bo = some ⟨b, o, none⟩ ∧ ∀ w', GrewB w.heap.size wr.drew w' → w'.cell? ⟨b, o + k, none⟩ = some (.int .u8 ((m[k]).toNat : Int)) := by
        rcases HA.out.2 with e | ⟨b, o, rfl, hx⟩
        · have := congrArg List.length e; rw [bytesV_length, List.length_nil] at this; omega
        · refine ⟨b, o, rfl, fun w' hb => ?_⟩
          have h0 := hx k _ (bytesV_get m k hkm)
          have hlt := World.block_lt_of_cell? (a := ⟨b, o + k, none⟩) w h0
          exact (World.cell?_of_block (a := ⟨b, o + k, none⟩) ((hb.block b hlt).trans (H.out.2.block b hlt))).trans h0
      have hxor := bits_xor_u8 (l[k]).toNat (m[k]).toNat (l[k]).toNat_lt (m[k]).toNat_lt
      have hst := Lib.hid (xorL_take_succ l m k hkl hkm)
      have hxn := Lib.hid (show (l[k] ^^^ m[k]).toNat = (l[k]).toNat ^^^ (m[k]).toNat from UInt8.toNat_xor _ _)
      have hxl := (l[k] ^^^ m[k]).toNat_lt
      rw [hxn.out] at hxl
      have HX := Lib.hid hxl
      clear hxl
      go_wp2_with fail
      refine seqb_start w.heap.size (by kernel_rfl) ?_
      refine seqb_take 0 (v := ?v0_1) rfl (by kernel_rfl) (fun _ _ _ h => h) (by rfl) (fun w' hw' => ?hy0_1) ?_
      case hy0_1 => go_simp; try with_reducible rfl
      try simp only [List.getElem_toArray, List.getElem_cons_succ, List.getElem_cons_zero, Act.put, List.setIfInBounds_toArray, List.set_cons_zero, List.set_cons_succ]
      refine seqb_take 1 (v := ?v1_2) rfl (by kernel_rfl) (fun _ _ _ h => h) (by rfl) (fun w' hw' => ?hy1_2) ?_
      case hy1_2 => go_simp; try with_reducible rfl
      try simp only [List.getElem_toArray, List.getElem_cons_succ, List.getElem_cons_zero, Act.put, List.setIfInBounds_toArray, List.set_cons_zero, List.set_cons_succ]
      refine seqb_take 2 (v := ?v2_3) rfl (by kernel_rfl) (fun _ _ _ h => h) (by rfl) (fun w' hw' => ?hy2_3) ?_
      case hy2_3 => go_simp; try with_reducible rfl
      try simp only [List.getElem_toArray, List.getElem_cons_succ, List.getElem_cons_zero, Act.put, List.setIfInBounds_toArray, List.set_cons_zero, List.set_cons_succ]
      refine seqb_take 3 (v := ?v3_4) rfl (by kernel_rfl) (fun _ _ _ h => h) (by rfl) (fun w' hw' => ?hy3_4) ?_
      case hy3_4 => go_simp; try with_reducible rfl
      try simp only [List.getElem_toArray, List.getElem_cons_succ, List.getElem_cons_zero, Act.put, List.setIfInBounds_toArray, List.set_cons_zero, List.set_cons_succ]
      refine seqb_take 5 (v := ?v5_5) rfl (by kernel_rfl) (fun _ _ _ h => h) (by rfl) (fun w' hw' => ?hy5_5) ?_
      case hy5_5 => go_simp; try with_reducible rfl
      try simp only [List.getElem_toArray, List.getElem_cons_succ, List.getElem_cons_zero, Act.put, List.setIfInBounds_toArray, List.set_cons_zero, List.set_cons_succ]
      refine seqb_take 6 (v := ?v6_6) rfl (by kernel_rfl) (fun _ _ _ h => h) (by rfl) (fun w' hw' => ?hy6_6) ?_
      case hy6_6 => go_simp; try with_reducible rfl
      try simp only [List.getElem_toArray, List.getElem_cons_succ, List.getElem_cons_zero, Act.put, List.setIfInBounds_toArray, List.set_cons_zero, List.set_cons_succ]
      refine seqb_take 7 (v := ?v7_7) rfl (by kernel_rfl) (fun _ _ _ h => h) (by rfl) (fun w' hw' => ?hy7_7) ?_
      case hy7_7 => go_simp; try with_reducible rfl
      try simp only [List.getElem_toArray, List.getElem_cons_succ, List.getElem_cons_zero, Act.put, List.setIfInBounds_toArray, List.set_cons_zero, List.set_cons_succ]
      refine seqb_take 4 (v := ?v4_8) rfl (by kernel_rfl) (fun _ _ _ h => h) (by rfl) (fun w' hw' => ?hy4_8) ?_
      case hy4_8 => go_simp; try with_reducible rfl
      try simp only [List.getElem_toArray, List.getElem_cons_succ, List.getElem_cons_zero, Act.put, List.setIfInBounds_toArray, List.set_cons_zero, List.set_cons_succ]
      refine seqb_take 8 (v := ?v8_9) rfl (by kernel_rfl) (fun _ _ _ h => h) (by rfl) (fun w' hw' => ?hy8_9) ?_
      case hy8_9 => go_simp; try with_reducible rfl
      try simp only [List.getElem_toArray, List.getElem_cons_succ, List.getElem_cons_zero, Act.put, List.setIfInBounds_toArray, List.set_cons_zero, List.set_cons_succ]
      refine seqb_take 9 (v := ?v9_10) rfl (by kernel_rfl) (fun _ _ _ h => h) (by rfl) (fun w' hw' => ?hy9_10) ?_
      case hy9_10 => go_simp; try with_reducible rfl
      try simp only [List.getElem_toArray, List.getElem_cons_succ, List.getElem_cons_zero, Act.put, List.setIfInBounds_toArray, List.set_cons_zero, List.set_cons_succ]
      refine seqb_run 10 rfl (by kernel_rfl) (by rfl) (fun KK hKK => ?_)
      go_wp2_with fail
      refine ⟨(Below.refl _ _).alloc (by simp; omega) _, ?_⟩
      refine seqb_run 11 rfl (by kernel_rfl) (by rfl) (fun KK hKK => ?_)
      refine wp_byte _ _ rfl w.heap.size co capc _ _ _ rfl (show wr.drew.ownsRow _ _ _ _ _ _ from H.out.1) _ _ rfl rfl HX.out rfl (by omega) (by simp; omega) ?_
      rintro co' capc' w1 ⟨q1, q2, q3⟩ q4
      simp only [List.getElem_toArray, List.getElem_cons_zero, Act.put, List.setIfInBounds_toArray, List.set_cons_zero, List.set_cons_succ]
      have hb1 : Below w.heap.size wr w1 := (Below.refl _ wr).drew.trans (below_grown (show wr.drew.ownsRow _ _ _ _ _ _ from H.out.1) (by simp; omega) q2)
      refine hKK _ _ ⟨q4, ?_⟩
      refine seqb_take 12 (v := ?v12_11) rfl (by kernel_rfl) (fun _ _ _ h => h) (by rfl) (fun w' hw' => ?hy12_11) ?_
      case hy12_11 => go_simp; try with_reducible rfl
      try simp only [List.getElem_toArray, List.getElem_cons_succ, List.getElem_cons_zero, Act.put, List.setIfInBounds_toArray, List.set_cons_zero, List.set_cons_succ]
      refine seqb_done (by kernel_rfl) ?_
      go_wp2_with fail
      go_roundw
      case rel =>
        refine ⟨k + 1, co', capc', by omega, by simp, rfl, ?_, H.out.2.trans hb1⟩
        have hlen : (xorL (l.take k) (m.take k)).length = k := by have := H.out.1.1; simpa using this
        rw [← hxn.out, UInt8.ofNat_toNat, ← hst.out, hst.out, List.length_append, hlen] at q1
        rw [hst.out]
        exact q1
      case measure => simp [intOf]; omega
    · obtain rfl : k = n := by omega
      have hTr := Lib.hid (HT.out.below H.out.2)
      have hA1 := Lib.hid ((HA.out.1.takeB k).below H.out.2)
      have hA2 := Lib.hid ((HA.out.2.takeB k).below H.out.2)
      have hA3 := Lib.hid (At.own H.out.1)
      have hl3 := Lib.hid (show (xorL (l.take k) (m.take k)).length = k by have := H.out.1.1; simpa using this)
      have hkc : k ≤ cap := by omega
      have hkc2 : k ≤ cap2 := by omega
      have hlA0 : (l.take k).length = k := by rw [List.length_take]; omega
      have hadd0 := crc_adds (l.take k) (m.take k) (by rw [List.length_take, List.length_take]; omega)
      rw [hlA0] at hadd0
      have hadd := Lib.hid hadd0
      have hlA := Lib.hid hlA0
      have hlB := Lib.hid (show (m.take k).length = k by rw [List.length_take]; omega)
      clear hadd0 hlA0
      generalize l.take k = A at *
      generalize m.take k = B at *
      go_wp2_with fail
      refine seq_start (by kernel_rfl) ?_
      refine seq_run 0 rfl (by kernel_rfl) (by rfl) (fun KK hKK => ?_)
      go_wp2_with fail
      refine (sums_any _ hTr.out.drew).mono ?_
      rintro e w1 ⟨rfl, hb1⟩
      have hT1 := Lib.hid (hTr.out.drew.below hb1)
      have hB1 := Lib.hid hb1
      clear hb1
      go_wp2_with fail
      refine ⟨hB1.out, ?_⟩
      refine seq_take 1 (v := ?v1_12) rfl (by kernel_rfl) (fun _ _ _ h => h) (by rfl) (fun w' hw' => ?hy1_12) ?_
      case hy1_12 => go_simp; try with_reducible rfl
      try simp only [List.getElem_toArray, List.getElem_cons_succ, List.getElem_cons_zero, Act.put, List.setIfInBounds_toArray, List.set_cons_zero, List.set_cons_succ]
      refine seq_take 2 (v := ?v2_13) rfl (by kernel_rfl) (fun _ _ _ h => h) (by rfl) (fun w' hw' => ?hy2_13) ?_
      case hy2_13 => go_simp; try with_reducible rfl
      try simp only [List.getElem_toArray, List.getElem_cons_succ, List.getElem_cons_zero, Act.put, List.setIfInBounds_toArray, List.set_cons_zero, List.set_cons_succ]
      refine seq_take 3 (v := ?v3_14) rfl (by kernel_rfl) (fun _ _ _ h => h) (by rfl) (fun w' hw' => ?hy3_14) ?_
      case hy3_14 => go_simp; try with_reducible rfl
      try simp only [List.getElem_toArray, List.getElem_cons_succ, List.getElem_cons_zero, Act.put, List.setIfInBounds_toArray, List.set_cons_zero, List.set_cons_succ]
      refine seq_take 4 (v := ?v4_15) rfl (by kernel_rfl) (fun _ _ _ h => h) (by rfl) (fun w' hw' => ?hy4_15) ?_
      case hy4_15 => go_simp; try with_reducible rfl
      try simp only [List.getElem_toArray, List.getElem_cons_succ, List.getElem_cons_zero, Act.put, List.setIfInBounds_toArray, List.set_cons_zero, List.set_cons_succ]
      refine seq_take 7 (v := ?v7_16) rfl (by kernel_rfl) (fun _ _ _ h => h) (by rfl) (fun w' hw' => ?hy7_16) ?_
      case hy7_16 => go_simp; try with_reducible rfl
      try simp only [List.getElem_toArray, List.getElem_cons_succ, List.getElem_cons_zero, Act.put, List.setIfInBounds_toArray, List.set_cons_zero, List.set_cons_succ]
      refine seq_take 8 (v := ?v8_17) rfl (by kernel_rfl) (fun _ _ _ h => h) (by rfl) (fun w' hw' => ?hy8_17) ?_
      case hy8_17 => go_simp; try with_reducible rfl
      try simp only [List.getElem_toArray, List.getElem_cons_succ, List.getElem_cons_zero, Act.put, List.setIfInBounds_toArray, List.set_cons_zero, List.set_cons_succ]
      refine seq_take 9 (v := ?v9_18) rfl (by kernel_rfl) (fun _ _ _ h => h) (by rfl) (fun w' hw' => ?hy9_18) ?_
      case hy9_18 => go_simp; try with_reducible rfl
      try simp only [List.getElem_toArray, List.getElem_cons_succ, List.getElem_cons_zero, Act.put, List.setIfInBounds_toArray, List.set_cons_zero, List.set_cons_succ]
      refine seq_take 13 (v := ?v13_19) rfl (by kernel_rfl) (fun _ _ _ h => h) (by rfl) (fun w' hw' => ?hy13_19) ?_
      case hy13_19 => go_simp; try with_reducible rfl
      try simp only [List.getElem_toArray, List.getElem_cons_succ, List.getElem_cons_zero, Act.put, List.setIfInBounds_toArray, List.set_cons_zero, List.set_cons_succ]
      refine seq_take 18 (v := ?v18_20) rfl (by kernel_rfl) (fun _ _ _ h => h) (by rfl) (fun w' hw' => ?hy18_20) ?_
      case hy18_20 => go_simp; try with_reducible rfl
      try simp only [List.getElem_toArray, List.getElem_cons_succ, List.getElem_cons_zero, Act.put, List.setIfInBounds_toArray, List.set_cons_zero, List.set_cons_succ]
      refine seq_inv [5, 6, 10, 11, 12, 14, 15, 16, 17, 19, 20, 21, 22, 23] (Phi A B k) (by kernel_rfl) (by kernel_rfl) rfl ?mono ?step ?fin
      case mono => exact Phi_mono A B k
      case step =>
        have hT2 : ∀ w2, Below w1.heap.size w1 w2 → Tab w2 := fun w2 h => hT1.out.below h
        have hA : ∀ w2, Below w1.heap.size w1 w2 → At w2 ao (bytesV A) := fun w2 h => At.below (At.below (w := wr.drew) hA1.out hB1.out) h
        have hB : ∀ w2, Below w1.heap.size w1 w2 → At w2 bo (bytesV B) := fun w2 h => At.below (At.below (w := wr.drew) hA2.out hB1.out) h
        have hC : ∀ w2, Below w1.heap.size w1 w2 → At w2 co (bytesV (xorL A B)) := fun w2 h => At.below (At.below (w := wr.drew) hA3.out hB1.out) h
        have H2 := Lib.hid (And.intro hT2 (And.intro hA (And.intro hB hC)))
        clear hT2 hA hB hC
        refine ⟨stepK_of rfl fun x w2 hb2 hd2 => ?_, stepK_of rfl fun x w2 hb2 hd2 => ?_, stepK_of rfl fun x w2 hb2 hd2 => ?_, stepK_of rfl fun x w2 hb2 hd2 => ?_, stepK_of rfl fun x w2 hb2 hd2 => ?_, stepK_of rfl fun x w2 hb2 hd2 => ?_, stepK_of rfl fun x w2 hb2 hd2 => ?_, stepK_of rfl fun x w2 hb2 hd2 => ?_, stepK_of rfl fun x w2 hb2 hd2 => ?_, stepK_of rfl fun x w2 hb2 hd2 => ?_, stepK_of rfl fun x w2 hb2 hd2 => ?_, stepK_of rfl fun x w2 hb2 hd2 => ?_, stepK_of rfl fun x w2 hb2 hd2 => ?_, stepK_of rfl fun x w2 hb2 hd2 => ?_, trivial⟩
        · clear hd2
          simp only [Fr, List.foldl_cons, List.foldl_nil, List.getElem?_toArray, List.getElem?_cons_succ, List.getElem?_cons_zero, Option.bind_some, Act.put, List.setIfInBounds_toArray, List.set_cons_zero, List.set_cons_succ, List.getElem_toArray, List.getElem_cons_succ, List.getElem_cons_zero]
          refine ⟨by rfl, fun KK hKK => ?_⟩
          go_wp2_with fail
          exact ⟨(Below.refl _ _).alloc (Nat.le_refl _) _, _, rfl, parts_new (cs := #[.slice ao k cap]) rfl ⟨⟨by rw [hlA.out]; omega, ao, k, cap, rfl, hlA.out.symm, H2.out.2.1 _ hb2⟩, trivial⟩⟩
        · obtain ⟨g, hx, hp⟩ := hd2 5 (of_decide_eq_true (by kernel_rfl))
          clear hd2
          simp only [Fr, List.foldl_cons, List.foldl_nil, List.getElem?_toArray, List.getElem?_cons_succ, List.getElem?_cons_zero, Option.bind_some, Act.put, List.setIfInBounds_toArray, List.set_cons_zero, List.set_cons_succ, List.getElem_toArray, List.getElem_cons_succ, List.getElem_cons_zero]
          rw [hx]
          clear hx
          refine ⟨by rfl, fun KK hKK => ?_⟩
          go_wp2_with fail
          refine (sum_any (some ⟨g, 0, none⟩) 1 1 [A] rfl (by omega) w2 hp (H2.out.1 _ hb2)).mono ?_
          rintro e w' ⟨rfl, rfl⟩
          go_wp2_with fail
          exact ⟨Below.refl _ _, congrArg (fun z => Value.int .u32 ((crc z : Nat) : Int)) (by simp)⟩
        · clear hd2
          simp only [Fr, List.foldl_cons, List.foldl_nil, List.getElem?_toArray, List.getElem?_cons_succ, List.getElem?_cons_zero, Option.bind_some, Act.put, List.setIfInBounds_toArray, List.set_cons_zero, List.set_cons_succ, List.getElem_toArray, List.getElem_cons_succ, List.getElem_cons_zero]
          refine ⟨by rfl, fun KK hKK => ?_⟩
          go_wp2_with fail
          exact ⟨(Below.refl _ _).alloc (Nat.le_refl _) _, _, rfl, parts_new (cs := #[.slice bo k cap2]) rfl ⟨⟨by rw [hlB.out]; omega, bo, k, cap2, rfl, hlB.out.symm, H2.out.2.2.1 _ hb2⟩, trivial⟩⟩
        · obtain ⟨g, hx, hp⟩ := hd2 10 (of_decide_eq_true (by kernel_rfl))
          clear hd2
          simp only [Fr, List.foldl_cons, List.foldl_nil, List.getElem?_toArray, List.getElem?_cons_succ, List.getElem?_cons_zero, Option.bind_some, Act.put, List.setIfInBounds_toArray, List.set_cons_zero, List.set_cons_succ, List.getElem_toArray, List.getElem_cons_succ, List.getElem_cons_zero]
          rw [hx]
          clear hx
          refine ⟨by rfl, fun KK hKK => ?_⟩
          go_wp2_with fail
          refine (sum_any (some ⟨g, 0, none⟩) 1 1 [B] rfl (by omega) w2 hp (H2.out.1 _ hb2)).mono ?_
          rintro e w' ⟨rfl, rfl⟩
          go_wp2_with fail
          exact ⟨Below.refl _ _, congrArg (fun z => Value.int .u32 ((crc z : Nat) : Int)) (by simp)⟩
        · have hx6 : x 6 = _ := hd2 6 (of_decide_eq_true (by kernel_rfl))
          have hx11 : x 11 = _ := hd2 11 (of_decide_eq_true (by kernel_rfl))
          have he := bits_xor_u32 (crc A) (crc B) (crc_lt A) (crc_lt B)
          clear hd2
          simp only [Fr, List.foldl_cons, List.foldl_nil, List.getElem?_toArray, List.getElem?_cons_succ, List.getElem?_cons_zero, Option.bind_some, Act.put, List.setIfInBounds_toArray, List.set_cons_zero, List.set_cons_succ, List.getElem_toArray, List.getElem_cons_succ, List.getElem_cons_zero]
          rw [hx6, hx11]
          clear hx6 hx11
          refine ⟨by rfl, fun KK hKK => ?_⟩
          go_wp2_with fail
          exact ⟨Below.refl _ _, rfl⟩
        · clear hd2
          simp only [Fr, List.foldl_cons, List.foldl_nil, List.getElem?_toArray, List.getElem?_cons_succ, List.getElem?_cons_zero, Option.bind_some, Act.put, List.setIfInBounds_toArray, List.set_cons_zero, List.set_cons_succ, List.getElem_toArray, List.getElem_cons_succ, List.getElem_cons_zero]
          refine ⟨by rfl, fun KK hKK => ?_⟩
          refine wp_make _ _ rfl k rfl rfl (by omega) ?_
          intro w3 q1 q2
          exact hKK _ _ ⟨grown_below q2, _, rfl, At.own q1⟩
        · obtain ⟨g, hx, hp⟩ := hd2 14 (of_decide_eq_true (by kernel_rfl))
          clear hd2
          simp only [Fr, List.foldl_cons, List.foldl_nil, List.getElem?_toArray, List.getElem?_cons_succ, List.getElem?_cons_zero, Option.bind_some, Act.put, List.setIfInBounds_toArray, List.set_cons_zero, List.set_cons_succ, List.getElem_toArray, List.getElem_cons_succ, List.getElem_cons_zero]
          rw [hx]
          clear hx
          refine ⟨by rfl, fun KK hKK => ?_⟩
          go_wp2_with fail
          exact ⟨(Below.refl _ _).alloc (Nat.le_refl _) _, _, rfl, parts_new (cs := #[.slice (some ⟨g, 0, none⟩) k k]) rfl ⟨⟨by rw [List.length_replicate]; omega, _, _, _, rfl, List.length_replicate.symm, hp⟩, trivial⟩⟩
        · obtain ⟨g, hx, hp⟩ := hd2 15 (of_decide_eq_true (by kernel_rfl))
          clear hd2
          simp only [Fr, List.foldl_cons, List.foldl_nil, List.getElem?_toArray, List.getElem?_cons_succ, List.getElem?_cons_zero, Option.bind_some, Act.put, List.setIfInBounds_toArray, List.set_cons_zero, List.set_cons_succ, List.getElem_toArray, List.getElem_cons_succ, List.getElem_cons_zero]
          rw [hx]
          clear hx
          refine ⟨by rfl, fun KK hKK => ?_⟩
          go_wp2_with fail
          refine (sum_any (some ⟨g, 0, none⟩) 1 1 [List.replicate k 0] rfl (by omega) w2 hp (H2.out.1 _ hb2)).mono ?_
          rintro e w' ⟨rfl, rfl⟩
          go_wp2_with fail
          exact ⟨Below.refl _ _, congrArg (fun z => Value.int .u32 ((crc z : Nat) : Int)) (by simp)⟩
        · have hx6 : x 12 = _ := hd2 12 (of_decide_eq_true (by kernel_rfl))
          have hx11 : x 16 = _ := hd2 16 (of_decide_eq_true (by kernel_rfl))
          have he := bits_xor_u32 (crc A ^^^ crc B) (crc (List.replicate k 0)) (Nat.xor_lt_two_pow (n := 32) (crc_lt A) (crc_lt B)) (crc_lt _)
          clear hd2
          simp only [Fr, List.foldl_cons, List.foldl_nil, List.getElem?_toArray, List.getElem?_cons_succ, List.getElem?_cons_zero, Option.bind_some, Act.put, List.setIfInBounds_toArray, List.set_cons_zero, List.set_cons_succ, List.getElem_toArray, List.getElem_cons_succ, List.getElem_cons_zero]
          rw [hx6, hx11]
          clear hx6 hx11
          refine ⟨by rfl, fun KK hKK => ?_⟩
          go_wp2_with fail
          exact ⟨Below.refl _ _, rfl⟩
        · clear hd2
          simp only [Fr, List.foldl_cons, List.foldl_nil, List.getElem?_toArray, List.getElem?_cons_succ, List.getElem?_cons_zero, Option.bind_some, Act.put, List.setIfInBounds_toArray, List.set_cons_zero, List.set_cons_succ, List.getElem_toArray, List.getElem_cons_succ, List.getElem_cons_zero]
          refine ⟨by rfl, fun KK hKK => ?_⟩
          go_wp2_with fail
          exact ⟨(Below.refl _ _).alloc (Nat.le_refl _) _, _, rfl, parts_new (cs := #[.slice co k capc]) rfl ⟨⟨by rw [hl3.out]; omega, co, k, capc, rfl, hl3.out.symm, H2.out.2.2.2 _ hb2⟩, trivial⟩⟩
        · obtain ⟨g, hx, hp⟩ := hd2 19 (of_decide_eq_true (by kernel_rfl))
          clear hd2
          simp only [Fr, List.foldl_cons, List.foldl_nil, List.getElem?_toArray, List.getElem?_cons_succ, List.getElem?_cons_zero, Option.bind_some, Act.put, List.setIfInBounds_toArray, List.set_cons_zero, List.set_cons_succ, List.getElem_toArray, List.getElem_cons_succ, List.getElem_cons_zero]
          rw [hx]
          clear hx
          refine ⟨by rfl, fun KK hKK => ?_⟩
          go_wp2_with fail
          refine (sum_any (some ⟨g, 0, none⟩) 1 1 [xorL A B] rfl (by omega) w2 hp (H2.out.1 _ hb2)).mono ?_
          rintro e w' ⟨rfl, rfl⟩
          go_wp2_with fail
          exact ⟨Below.refl _ _, congrArg (fun z => Value.int .u32 ((crc z : Nat) : Int)) (by simp)⟩
        · have hx6 : x 17 = _ := hd2 17 (of_decide_eq_true (by kernel_rfl))
          have hx11 : x 20 = _ := hd2 20 (of_decide_eq_true (by kernel_rfl))
          clear hd2
          simp only [Fr, List.foldl_cons, List.foldl_nil, List.getElem?_toArray, List.getElem?_cons_succ, List.getElem?_cons_zero, Option.bind_some, Act.put, List.setIfInBounds_toArray, List.set_cons_zero, List.set_cons_succ, List.getElem_toArray, List.getElem_cons_succ, List.getElem_cons_zero]
          rw [hx6, hx11, hadd.out]
          clear hx6 hx11
          refine ⟨by rfl, fun KK hKK => ?_⟩
          go_wp2_with fail
          exact ⟨Below.refl _ _, rfl⟩
        · have hx6 : x 21 = _ := hd2 21 (of_decide_eq_true (by kernel_rfl))
          clear hd2
          simp only [Fr, List.foldl_cons, List.foldl_nil, List.getElem?_toArray, List.getElem?_cons_succ, List.getElem?_cons_zero, Option.bind_some, Act.put, List.setIfInBounds_toArray, List.set_cons_zero, List.set_cons_succ, List.getElem_toArray, List.getElem_cons_succ, List.getElem_cons_zero]
          rw [hx6]
          clear hx6
          refine ⟨by rfl, fun KK hKK => ?_⟩
          go_wp2_with fail
          exact ⟨Below.refl _ _, rfl⟩
        · have hx6 : x 22 = _ := hd2 22 (of_decide_eq_true (by kernel_rfl))
          clear hd2
          simp only [Fr, List.foldl_cons, List.foldl_nil, List.getElem?_toArray, List.getElem?_cons_succ, List.getElem?_cons_zero, Option.bind_some, Act.put, List.setIfInBounds_toArray, List.set_cons_zero, List.set_cons_succ, List.getElem_toArray, List.getElem_cons_succ, List.getElem_cons_zero]
          rw [hx6]
          clear hx6
          refine ⟨by rfl, fun KK hKK => ?_⟩
          go_wp2_with fail
          exact ⟨Below.refl _ _, rfl⟩
      case fin =>
        intro x w2 hb2 hx
        have hx23 : x 23 = _ := hx.mem 23 (by simp)
        clear hx
        simp only [Fr, List.foldl_cons, List.foldl_nil, List.getElem?_toArray, List.getElem?_cons_succ, List.getElem?_cons_zero, Option.bind_some, Act.put, List.setIfInBounds_toArray, List.set_cons_zero, List.set_cons_succ]
        rw [hx23]
        clear hx23
        go_wp2_with fail
        go_ret
        have b1 := below_drew hB1.out
        exact ⟨rfl, H.out.2.trans ((b1.mono (by omega)).trans (hb2.mono (by have := b1.size; omega)))⟩
theorem own : ownKnob Tryd.prog.godebug = none := by kernel_rfl
theorem laidOut : laidOutB Tryd.prog = true := by kernel_rfl
theorem readable : ∀ t ∈ Tryd.f4.params.toList, Tryd.prog.readableRec t = true ∧ t < Tryd.prog.types.size := by
  rw [Tryd.params4]
  intro t ht
  simp at ht
  subst ht
  exact ⟨by kernel_rfl, of_decide_eq_true (by kernel_rfl)⟩

theorem laid_met (os : Os) : laidMet Tryd.prog Rows.crcAddsRow.laid ((laidWorld os).forCall (fun _ _ => 0) ⟨#[], #[.slice none 0 0, .slice none 0 0], []⟩).memory :=
  laidMet_of_run' 8 (by kernel_rfl) (by kernel_rfl)
theorem reads (os : Os) {H : Type} (enc : TypeId × Value → H) : DataW.whole enc Tryd.prog ((laidWorld os).forCall (fun _ _ => 0) ⟨#[], #[.slice none 0 0, .slice none 0 0], []⟩).memory Tryd.f4.params.toList Rows.crcAddsSpec.vars false (#[.slice none 0 0, .slice none 0 0] : Array Value).toList 8 = some ([.nil, .nil], [], []) := by kernel_rfl
set_option maxRecDepth 100000 in
theorem lifted (os : Os) (started : os.Started) (H : Type) (enc : TypeId × Value → H) (F : Stop.Interp) :
    ReturnsInHanded {} Tryd.checked os 4 .any ((OpenSpec.ofChange Rows.crcAddsSpec).preRow enc Tryd.prog Tryd.f4 Rows.crcAddsRow.domain false Rows.crcAddsRow.laid) (((OpenSpec.ofChange Rows.crcAddsSpec).at F).post enc Tryd.prog Tryd.f4 false true false false) := by
  have hx := reads os enc
  refine returnsInHanded_of_row (C := Tryd.checked) (s := OpenSpec.ofChange Rows.crcAddsSpec) own started (by kernel_rfl) Tryd.func4
    (witness_row_at (enc := enc) (C := Tryd.checked) false (laidWorld os) #[.slice none 0 0, .slice none 0 0] rfl (by kernel_rfl) (by kernel_rfl) (by kernel_rfl)
      (OpenSpec.preRow_of_cond 8 hx (by kernel_rfl) (fun k hk => by cases hk) (by kernel_rfl) (laid_met os))) ?_
  intro W base args ds gs before hval0 hW _ _ _ hL _ _
  have ht : Tab W := table_of hL
  have hval : ∀ (j : Nat) t v, Tryd.f4.params[j]? = some t → args[j]? = some v → Value.okWide Tryd.prog W .any base t v := hval0
  have hW' := hW
  obtain ⟨p, q, hA0, hV, rfl, hfz, hnd⟩ := hW
  have hA : DataW.TrodAll enc Tryd.prog W 0 (fun _ => true) true Tryd.f4.params.toList args.toList ds p := hA0
  rw [Tryd.params4] at hA hval
  obtain ⟨v0, v1, d0, d1, p0, p1, rfl, rfl, rfl, h0, h1⟩ := trodAll_two hA
  obtain ⟨rfl, rfl⟩ := trodVars_none hV
  obtain ⟨ao, cap, l, rfl, hc, hm, hat⟩ := open_bytes Tryd.underlying22 Tryd.underlying5 cellsU8 (hval 0 22 v0 rfl rfl) h0
  obtain ⟨bo, cap2, m, rfl, hc2, hm2, hat2⟩ := open_bytes Tryd.underlying22 Tryd.underlying5 cellsU8 (hval 1 22 v1 rfl rfl) h1
  refine (walk ao l cap hc hm bo m cap2 hc2 hm2 W hat hat2 ht).mono fun e W' ⟨he, hb⟩ => ?_
  subst he
  exact ⟨_, rfl, post_law laidOut rfl rfl Tryd.underlying4 readable rfl rfl rfl hW' hb⟩

theorem said : Rows.CrcAddsSaid :=
  OpenClaim.holds_of_cond 4 Tryd.f4 rfl rfl rfl rfl rfl rfl rfl ⟨rfl, rfl, rfl, rfl, rfl⟩ rfl rfl rfl rfl rfl (by kernel_rfl) Tryd.func4 (by kernel_rfl)
    (of_decide_eq_true (by kernel_rfl)) (by unfold Func.isWrapper; first | (rw [if_pos (by decide +kernel)]; kernel_rfl) | (rw [if_neg (by decide +kernel)]; exact ⟨rfl, rfl⟩))
    (fun os started H enc _ F => by rw [OpenClaim.pre_eq_preRow]; exact lifted os started H enc F)

/-- No parameter wants a stand-in; the program's own looks are off. -/
theorem plain (f : FuncId) (fn : Func) (hf : Tryd.pinned.checked.prog.funcNamed "scriptor/scriptorlaw02.CrcAdds" = some f) (hfn : Tryd.pinned.checked.prog.funcs[f]? = some fn) :
    false = Tryd.pinned.checked.prog.looks [] ∧ ∀ (j : Nat) t, fn.params[j]? = some t → Tryd.pinned.checked.prog.wantsStandIn t = false := by
  obtain rfl : f = 4 := Option.some.inj ((show Tryd.prog.funcNamed "scriptor/scriptorlaw02.CrcAdds" = some 4 by kernel_rfl).symm.trans hf) |>.symm
  obtain rfl : fn = Tryd.f4 := (Option.some.inj (Tryd.func4.symm.trans hfn)).symm
  refine ⟨by kernel_rfl, fun j t ht => ?_⟩
  have hall : ∀ t ∈ Tryd.f4.params.toList, Tryd.prog.wantsStandIn t = false := by
    rw [Tryd.params4]
    intro t ht
    simp at ht
    subst ht
    kernel_rfl
  exact hall t (Array.mem_toList_iff.2 (Array.mem_of_getElem? ht))

theorem card : Rows.CrcAddsCardSaid :=
  Claim7.holds_tied_plain_at .later [] _ _ _ _ said (fun _ h => by cases h) (by kernel_rfl) (fun _ h => by cases h) crcAdds_row_tie rfl ⟨rfl, rfl⟩ (by kernel_rfl) rfl plain (by kernel_rfl)
end Go.Proofs.YtmnaomdnjaiggaaDoor.crcAdds
