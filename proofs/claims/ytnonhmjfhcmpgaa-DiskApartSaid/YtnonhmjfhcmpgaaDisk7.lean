/- The walks of disk.Image, Copy and Same. -/
import Derived.Test.YtnonhmjfhcmpgaaDisk5
namespace Go.Proofs.Ytnonhmjfhcmpgaa
open Go.RowKit

/-- What lasts, as bytes. -/
def imgL (L : List (Option (List UInt8))) : List UInt8 := (L.map fun o => o.getD zeros).flatten
theorem imgL_succ (L : List (Option (List UInt8))) (i : Nat) (hi : i < L.length) : imgL (L.take (i + 1)) = imgL (L.take i) ++ L[i].getD zeros := by
  unfold imgL
  rw [List.take_succ_eq_append_getElem hi, List.map_append, List.flatten_append]
  simp
theorem imgL_length : ∀ (L : List (Option (List UInt8))), (∀ b, some b ∈ L → b.length = 512) → (imgL L).length = L.length * 512
  | [], _ => rfl
  | o :: L, h => by
    have ih := imgL_length L fun b hb => h b (by simp [hb])
    have ho : (o.getD zeros).length = 512 := by
      cases o with
      | none => exact List.length_replicate
      | some b => exact h b (by simp)
    unfold imgL at ih ⊢
    rw [List.map_cons, List.flatten_cons, List.length_append, ih, ho, List.length_cons]
    omega

set_option maxRecDepth 100000 in
set_option maxHeartbeats 1000000 in
theorem image_any {B : Nat} {M I : Nat → Prop} {d : Nat} {s : DS} (w : World) (h : DiskAt B w M I d s) (hL : s.L.length ≤ 65536) :
    Calls Try.prog 16 #[.pointer (some ⟨d, 0, none⟩)] w (fun e w' => ∃ ao cap, e = .returned (.slice ao (imgL s.L).length cap) ∧ w'.ownsRow w.heap.size 5 1 (.slice ao (imgL s.L).length cap) (imgL s.L).length (bytesV (imgL s.L)) ∧ Below w.heap.size w w') := by
  have hlen : ∀ i, i ≤ s.L.length → (imgL (s.L.take i)).length = i * 512 := by
    intro i hi
    rw [imgL_length _ fun b hb => h.sok.2.1 b (List.mem_of_mem_take hb), List.length_take, Nat.min_eq_left hi]
  have HL := Lib.hid hlen
  obtain ⟨lb, lcap, mb, wo, wcap, lc, f, xs, hcells, hbody, _⟩ := id h
  have hlc : lc.length = s.L.length := hbody.lasts2.1
  have hd0 : w.cell? ⟨d, 0, none⟩ = some (.slice (some ⟨lb, 0, none⟩) s.L.length lcap) := cell_of_row _ d 0 _ _ (0, 0) hcells
  have HB := Lib.hid hbody
  clear hcells hbody h hlen
  go_enter Try.func16, Try.ntmps16
  go_wp2_with fail
  clear hd0
  go_loopw [3, 13] (fun v j wr => ∃ (i : Nat) (ao : Option Addr) (cap : Nat), i ≤ s.L.length ∧ j = .int .i64 (i : Int) ∧ v = .slice ao (imgL (s.L.take i)).length cap ∧ wr.ownsRow w.heap.size 5 1 (.slice ao (imgL (s.L.take i)).length cap) (imgL (s.L.take i)).length (bytesV (imgL (s.L.take i))) ∧ Below w.heap.size w wr) (fun _ j _ => s.L.length - (intOf j).toNat)
  case atStart => exact ⟨0, none, 0, by omega, rfl, rfl, by simpa [imgL] using World.ownsRow_nil _ _ _ 1, Below.refl _ _⟩
  case round =>
    obtain ⟨i, ao, cap, hi, rfl, rfl, hown, hbel⟩ := hrel
    have hsz := hbel.size
    have HO := Lib.hid (And.intro hown hbel)
    clear hown hbel
    by_cases hlt : i < s.L.length
    · have hlv : LastV wr I (lc[i]'(by omega)) s.L[i] := by
        have hb := HB.out.keeps (X := fun _ => False) ⟨HO.out.2.os, HO.out.2.tape, HO.out.2.output, HO.out.2.size, fun k hk _ => HO.out.2.block k hk⟩ (fun _ _ h => h) (fun h => h) (fun h => h) (fun _ _ h => h)
        exact hb.lasts2.2 i _ _ (List.getElem?_eq_getElem (by omega)) (List.getElem?_eq_getElem hlt)
      have hcell : wr.cell? ⟨lb, i, none⟩ = some (lc[i]'(by omega)) := by
        have hb := (At.own HB.out.lasts).below HO.out.2
        have := hb.cell i _ (List.getElem?_eq_getElem (by omega))
        simpa using this
      have hstep := imgL_succ s.L i hlt
      have hbl : (s.L[i].getD zeros).length = 512 := by
        have h1 := HL.out i hi
        have h2 := HL.out (i + 1) hlt
        rw [hstep, List.length_append, h1] at h2
        omega
      generalize lc[i]'(by omega) = v at *
      have HS := Lib.hid (And.intro hlv (And.intro hstep hbl))
      clear hlv hstep hbl
      go_wp2_with fail
      clear hcell
      refine (bare_any v s.L[i] wr HS.out.1).mono ?_
      rintro e w4 ⟨bo, bcap, rfl, hown4, hb4⟩
      have H4 := Lib.hid (And.intro (At.own hown4) (And.intro hb4 (owns_below HO.out.1 (hb4.mono (Nat.le_refl _)))))
      clear hown4 hb4
      have hsz4 := H4.out.2.1.size
      go_wp2_with (at_builtin; refine app_bytes rfl _ _ rfl w.heap.size ao cap (imgL (s.L.take i)) _ rfl H4.out.2.2 bo _ bcap (s.L[i].getD zeros) rfl H4.out.1 rfl (by have := HL.out i hi; rw [HS.out.2.2]; omega) (by omega) ?_; rintro co capc w5 ⟨q1, q2, q3⟩)
      go_roundw
      case rel =>
        refine ⟨i + 1, co, capc, by omega, by simp, by rw [HS.out.2.1, List.length_append], ?_, HO.out.2.trans ((H4.out.2.1.mono hsz).trans (below_grown H4.out.2.2 (by omega) q2))⟩
        rw [HS.out.2.1]
        exact q1
      case measure => simp [intOf]; omega
    · obtain rfl : i = s.L.length := by omega
      go_wp2_with fail
      go_ret
      have := HO.out
      rw [List.take_length] at this
      exact ⟨ao, cap, by rw [List.take_length]; rfl, this⟩

/-- A whole row of sectors onto a row of none. -/
theorem app_rows {w : World} {ops : Array Oper} {rest : List Oper} {o : Oper} {a : Act} {Q : Exit → Act → World → Prop} (hgd : Region.wanted o (yielded ops a.tmps) = true) (s x : Operand)
    (ho : o.op = .call { callee := .builtin .append, args := #[s, x], argTypes := #[49, 49] })
    (base : Nat) (ao : Option Addr) (cap : Nat) (hs : a.eval s = .slice ao 0 cap) (hown : w.ownsRow base 22 1 (.slice ao 0 cap) 0 [])
    (bo : Option Addr) (m c : Nat) (xs : List Value) (hx : a.eval x = .slice bo m c) (hat : At w bo xs) (hm : xs.length = m) (hone : ∀ y ∈ xs, y.oneCell' = true)
    (hb : m ≤ 1000000000) (hbase : base ≤ w.heap.size)
    (h : ∀ ao' cap' w', w'.ownsRow base 22 1 (.slice ao' m cap') m xs → w.grownBy w' (blk ao) → (blk ao' = blk ao ∨ blk ao' = some w.heap.size) → wpList Try.prog ops Q rest (a.put o.dst (.slice ao' m cap')) w') :
    wpList Try.prog ops Q (o :: rest) a w := by
  obtain ⟨i0, hi, hz0, hz1, hz2⟩ := info_parts infoR
  refine wpList_go hgd fun K hK => ?_
  refine wp_append s x 49 49 ho base 22 i0 (.slice none 0 0) 1 24 Try.underlying49 hi hz0 hz1 hz2 rfl _ 0 [] hs hown _ m xs hx
    (hat.src Try.underlying49 (by omega) hone (by decide)) (by unfold maxLen; omega) (by omega) (by omega) ?_
  intro ao' cap' w' h1 h2 h3
  rw [own_slice] at h2 h3
  rw [Nat.zero_add, List.nil_append] at h1
  have := h ao' cap' w' h1 h2 h3
  refine hK _ _ ?_
  rw [Nat.zero_add]
  exact this

set_option maxRecDepth 100000 in
set_option maxHeartbeats 1000000 in
theorem cloneR_any (lb n cap : Nat) (xs : List Value) (w : World) (hat : At w (some ⟨lb, 0, none⟩) xs) (hm : xs.length = n) (hn : n ≤ 1000000000) (hone : ∀ y ∈ xs, y.oneCell' = true) :
    Calls Try.prog 27 #[.slice (some ⟨lb, 0, none⟩) n cap] w (fun e w' => ∃ ao cap', e = .returned (.slice ao n cap') ∧ w'.ownsRow w.heap.size 22 1 (.slice ao n cap') n xs ∧ Below w.heap.size w w') := by
  have HA := Lib.hid hat
  clear hat
  go_enter Try.func27, Try.ntmps27
  have heq := Lib.run_eql_slice_some_nil (P := Try.prog) w ⟨lb, 0, none⟩ n cap Try.underlying49
  go_wp2_with (at_builtin; refine app_rows rfl _ _ rfl w.heap.size (some ⟨w.heap.size, 0, none⟩) 0 rfl (by exact World.ownsRow_lit w #[] 0 (Nat.le_refl _) (by decide) rfl) _ n cap xs rfl (HA.out.below ((Below.refl _ _).alloc (Nat.le_refl _) _)) hm hone (by omega) (by simp) ?_; rintro co capc w1 q1 q2 q3)
  go_ret
  have hb1 : Below w.heap.size w w1 := ((Below.refl _ w).alloc (Nat.le_refl _) _).trans (below_grown (B := w.heap.size) (w := w.alloc (.cells #[] 22)) (ao := some ⟨w.heap.size, 0, none⟩) (m := 0) (cap := 0) (e := 22) (size := 1) (n := 0) (xs := []) (World.ownsRow_lit w #[] 0 (Nat.le_refl _) (by decide) rfl) (by simp) q2)
  exact ⟨co, capc, rfl, q1, hb1⟩

/-- A copy: the same lasts, nothing waits; its sectors are those of the first. -/
def Copied (B : Nat) (w : World) (I : Nat → Prop) (L : List (Option (List UInt8))) (e : Ending) (w' : World) : Prop :=
  ∃ c M2, e = .returned (.pointer (some ⟨c, 0, none⟩)) ∧ DiskAt B w' M2 I c ⟨L, [], -1, false, 0⟩ ∧ (∀ b, M2 b → w.heap.size ≤ b) ∧ Below w.heap.size w w'

set_option maxRecDepth 100000 in
set_option maxHeartbeats 1000000 in
theorem copy_any {B : Nat} {M I : Nat → Prop} {d : Nat} {s : DS} (w : World) (h : DiskAt B w M I d s) (hL : s.L.length ≤ 65536) (hL0 : s.L ≠ []) (hB : B ≤ w.heap.size) :
    Calls Try.prog 17 #[.pointer (some ⟨d, 0, none⟩)] w (Copied B w I s.L) := by
  have hmm := @run_makeMap Try.prog
  have hok := h.sok.2.1
  obtain ⟨lb, lcap, mb, wo, wcap, lc, f, xs, hcells, hbody, _⟩ := id h
  have hlc : lc.length = s.L.length := hbody.lasts2.1
  have hd0 : w.cell? ⟨d, 0, none⟩ = some (.slice (some ⟨lb, 0, none⟩) s.L.length lcap) := cell_of_row _ d 0 _ _ (0, 0) hcells
  have hone : ∀ y ∈ lc, y.oneCell' = true := by
    intro y hy
    obtain ⟨i, hi, rfl⟩ := List.getElem_of_mem hy
    have := hbody.lasts2.2 i _ _ (List.getElem?_eq_getElem hi) (List.getElem?_eq_getElem (by omega : i < s.L.length))
    revert this
    generalize s.L[i] = o
    generalize lc[i] = v
    intro hv
    cases o with
    | none => rw [show v = .slice none 0 0 from hv]; rfl
    | some b => obtain ⟨g, cap, rfl, _⟩ := hv; rfl
  have HB := Lib.hid hbody
  have HI := Lib.hid h.ltI
  clear hcells hbody h
  go_enter Try.func17, Try.ntmps17
  go_wp2_with fail
  clear hd0
  refine (cloneR_any lb s.L.length lcap lc w (At.own HB.out.lasts) hlc (by omega) hone).mono ?_
  rintro e w1 ⟨ao, cap1, rfl, hown1, hb1⟩
  have hsz1 := hb1.size
  obtain ⟨g, rfl, hg, hg1⟩ : ∃ g, ao = some ⟨g, 0, none⟩ ∧ w.heap.size ≤ g ∧ g < w1.heap.size := by
    rcases hown1.2 with ⟨_, h0⟩ | ⟨g, _, _, hv, _⟩
    · exact absurd (List.length_eq_zero_iff.1 h0) hL0
    · simp only [Value.slice.injEq] at hv
      obtain ⟨rfl, _⟩ := hv
      exact ⟨g, rfl, hown1.lt g rfl⟩
  have H1 := Lib.hid (And.intro hown1 hb1)
  clear hown1 hb1
  go_wp2_with fail
  go_returns
  have hI := HI.out
  have hw2 : Below w1.heap.size w1 ((w1.alloc (.map #[] 0)).alloc (.cells #[.slice (some ⟨g, 0, none⟩) s.L.length cap1, .map (some w1.heap.size), .slice none 0 0, .int .i64 (-1), .bool false, .int .i64 0] 53)) := ((Below.refl _ _).alloc (Nat.le_refl _) _).alloc (by simp) _
  have hbw := H1.out.2.trans (hw2.mono hsz1)
  have hImm : ∀ b, I b → B ≤ b ∧ b < w.heap.size := hI
  refine ⟨w1.heap.size + 1, fun b => b = w1.heap.size + 1 ∨ b = g ∨ b = w1.heap.size ∨ blk none = some b, rfl, ⟨g, cap1, w1.heap.size, none, 0, lc, fun _ => none, [], ?_, ?_, by omega, by omega, by omega, by simp [blk], fun h => by have := (hImm _ h).2; omega, ⟨by simp, hok, by simp, by simp⟩, fun _ => Iff.rfl⟩, ?_, hbw⟩
  · simpa using heap_alloc_new (w1.alloc (.map #[] 0)) (.cells #[.slice (some ⟨g, 0, none⟩) s.L.length cap1, .map (some w1.heap.size), .slice none 0 0, .int .i64 (-1), .bool false, .int .i64 0] 53)
  · exact {
      lasts := owns_mono (owns_below H1.out.1 hw2) hB
      lasts2 := (HB.out.keeps (X := fun _ => False) ⟨hbw.os, hbw.tape, hbw.output, hbw.size, fun k hk _ => hbw.block k hk⟩ (fun _ _ h => h) (fun h => h) (fun h => h) (fun _ _ h => h)).lasts2
      map := (MapAt.made w1).below ((Below.refl _ _).alloc (Nat.le_refl _) _)
      mapB := by omega
      now := fun z => rfl
      waits := by simpa using World.ownsRow_nil _ _ _ 2
      waits2 := All2.nil
      imm := fun b h => ⟨(hImm b h).1, by have := (hImm b h).2; have := hbw.size; omega⟩
      lm := by omega
      wl := by simp [blk]
      wm := by simp [blk]
      il := fun h => by have := (hImm _ h).2; omega
      iM := fun h => by have := (hImm _ h).2; omega
      iw := by simp [blk] }
  · rintro b (rfl | rfl | rfl | h)
    · omega
    · exact hg
    · exact hsz1
    · simp [blk] at h

theorem LastV.below {I : Nat → Prop} {w w' : World} {v : Value} {o : Option (List UInt8)} (h : LastV w I v o) (hb : Below w.heap.size w w') : LastV w' I v o := by
  cases o with
  | none => exact h
  | some b => exact SecV.keeps h (X := fun _ => False) ⟨hb.os, hb.tape, hb.output, hb.size, fun k hk _ => hb.block k hk⟩ (fun _ _ _ h => h) (fun _ h => h)

set_option maxRecDepth 100000 in
set_option maxHeartbeats 1000000 in
theorem bytesEq_any (ao bo : Option Addr) (l m : List UInt8) (cap bcap n k : Nat) (w : World) (hn : n = l.length) (hk : k = m.length) (hat : At w ao (bytesV l)) (hbt : At w bo (bytesV m)) :
    Calls Try.prog 30 #[.slice ao n cap, .slice bo k bcap] w (fun e w' => e = .returned (.bool (decide (l = m))) ∧ w = w') := by
  subst hn hk
  have h1 := run_conv_str (P := Try.prog) w 22 5 Try.underlying22 Try.underlying5 ao l _ cap rfl hat 9 Try.underlying9
  have h2 := run_conv_str (P := Try.prog) w 22 5 Try.underlying22 Try.underlying5 bo m _ bcap rfl hbt 9 Try.underlying9
  clear hat hbt
  go_enter Try.func30, Try.ntmps30
  go_wp2_with fail
  go_ret
  exact ⟨by congr 1; cases h : (l == m) <;> simp_all, rfl⟩

set_option maxRecDepth 100000 in
set_option maxHeartbeats 1000000 in
theorem sameS_any {I J : Nat → Prop} (u v : Value) (o q : Option (List UInt8)) (w : World) (hu : LastV w I u o) (hv : LastV w J v q) :
    Calls Try.prog 29 #[u, v] w (fun e w' => e = .returned (.bool (decide (o.getD zeros = q.getD zeros))) ∧ Below w.heap.size w w') := by
  have HU := Lib.hid (And.intro hu hv)
  clear hu hv
  go_enter Try.func29, Try.ntmps29
  go_wp2_with fail
  refine (bare_any u o w HU.out.1).mono ?_
  rintro e w1 ⟨ao, cap, rfl, hown1, hb1⟩
  have H1 := Lib.hid (And.intro (At.own hown1) hb1)
  clear hown1 hb1
  go_wp2_with fail
  refine (bare_any v q w1 (HU.out.2.below H1.out.2)).mono ?_
  rintro e w2 ⟨bo, bcap, rfl, hown2, hb2⟩
  have H2 := Lib.hid (And.intro (At.own hown2) (And.intro hb2 (H1.out.1.below (hb2.mono (Nat.le_refl _)))))
  have hs1 := H1.out.2.size
  clear hown2 hb2
  go_wp2_with fail
  refine (bytesEq_any ao bo _ _ cap bcap _ _ w2 rfl rfl H2.out.2.2 H2.out.1).mono ?_
  rintro e w3 ⟨rfl, rfl⟩
  go_wp2_with fail
  go_returns
  exact ⟨rfl, H1.out.2.trans (H2.out.2.1.mono hs1)⟩

set_option maxRecDepth 100000 in
set_option maxHeartbeats 1000000 in
theorem equalF_any {I J : Nat → Prop} (lb lb2 n cap cap2 : Nat) (lc lc2 : List Value) (L L2 : List (Option (List UInt8))) (w : World) (hn : L.length = n) (hn2 : L2.length = n) (hnb : n ≤ 65536) (h1 : At w (some ⟨lb, 0, none⟩) lc) (h2 : At w (some ⟨lb2, 0, none⟩) lc2) (a1 : All2 (LastV w I) lc L) (a2 : All2 (LastV w J) lc2 L2) :
    Calls Try.prog 28 #[.slice (some ⟨lb, 0, none⟩) n cap, .slice (some ⟨lb2, 0, none⟩) n cap2, .func (.func 29) #[] #[]] w (fun e w' => e = .returned (.bool (decide (L.map (fun o => o.getD zeros) = L2.map fun o => o.getD zeros))) ∧ Below w.heap.size w w') := by
  have HA := Lib.hid (And.intro h1 (And.intro h2 (And.intro a1 a2)))
  have hl1 : lc.length = n := a1.1.trans hn
  have hl2 : lc2.length = n := a2.1.trans hn2
  clear h1 h2 a1 a2
  have HN := Lib.hid (And.intro hn (And.intro hn2 (And.intro hl1 hl2)))
  clear hn hn2 hl1 hl2
  go_enter Try.func28, Try.ntmps28
  go_wp2_with fail
  go_loopw [17] (fun j wr => ∃ i : Nat, i ≤ n ∧ j = .int .i64 (i : Int) ∧ (∀ k, k < i → (L.getD k none).getD zeros = (L2.getD k none).getD zeros) ∧ Below w.heap.size w wr) (fun j _ => n - (intOf j).toNat)
  case atStart => exact ⟨0, by omega, rfl, fun k hk => by omega, Below.refl _ _⟩
  case round =>
    obtain ⟨i, hi, rfl, hall, hbel⟩ := hrel
    have hsz := hbel.size
    have HO := Lib.hid (And.intro hall hbel)
    clear hall hbel
    by_cases hlt : i < n
    · obtain ⟨hn, hn2, hl1, hl2⟩ := HN.out
      have c1 : wr.cell? ⟨lb, i, none⟩ = some (lc[i]'(by omega)) := by
        have := (HA.out.1.below HO.out.2).cell i _ (List.getElem?_eq_getElem (by omega))
        simpa using this
      have c2 : wr.cell? ⟨lb2, i, none⟩ = some (lc2[i]'(by omega)) := by
        have := (HA.out.2.1.below HO.out.2).cell i _ (List.getElem?_eq_getElem (by omega))
        simpa using this
      have v1 : LastV wr I (lc[i]'(by omega)) (L.getD i none) := by
        have := (HA.out.2.2.1.2 i _ _ (List.getElem?_eq_getElem (by omega)) (List.getElem?_eq_getElem (by omega : i < L.length))).below HO.out.2
        simpa [List.getD, List.getElem?_eq_getElem (by omega : i < L.length)] using this
      have v2 : LastV wr J (lc2[i]'(by omega)) (L2.getD i none) := by
        have := (HA.out.2.2.2.2 i _ _ (List.getElem?_eq_getElem (by omega)) (List.getElem?_eq_getElem (by omega : i < L2.length))).below HO.out.2
        simpa [List.getD, List.getElem?_eq_getElem (by omega : i < L2.length)] using this
      generalize lc[i]'(by omega) = x at *
      generalize lc2[i]'(by omega) = y at *
      have HV := Lib.hid (And.intro v1 v2)
      clear v1 v2 hn hn2 hl1 hl2
      go_wp2_with fail
      clear c1 c2
      refine (sameS_any x y _ _ wr HV.out.1 HV.out.2).mono ?_
      rintro e w2 ⟨rfl, hb2⟩
      by_cases he : (L.getD i none).getD zeros = (L2.getD i none).getD zeros
      · have H2 := Lib.hid (And.intro he hb2)
        clear hb2
        simp only [he, decide_true]
        clear he
        go_wp2_with fail
        go_roundw
        case rel =>
          refine ⟨i + 1, by omega, by simp, fun k hk => ?_, HO.out.2.trans (H2.out.2.mono hsz)⟩
          rcases Nat.lt_or_ge k i with h | h
          · exact HO.out.1 k h
          · obtain rfl : k = i := by omega
            exact H2.out.1
        case measure => simp [intOf]; omega
      · have H2 := Lib.hid (And.intro he hb2)
        clear hb2
        simp only [he, decide_false]
        clear he
        go_wp2_with fail
        go_ret
        have hd : decide (L.map (fun o => o.getD zeros) = L2.map fun o => o.getD zeros) = false := by
          refine decide_eq_false fun e => H2.out.1 ?_
          have := congrArg (fun l => l[i]?) e
          obtain ⟨hn, hn2, _⟩ := HN.out
          simpa [List.getD, List.getElem?_eq_getElem (by omega : i < L.length), List.getElem?_eq_getElem (by omega : i < L2.length)] using this
        rw [hd]
        exact ⟨rfl, HO.out.2.trans (H2.out.2.mono hsz)⟩
    · obtain rfl : i = n := by omega
      go_wp2_with fail
      go_ret
      have hd : decide (L.map (fun o => o.getD zeros) = L2.map fun o => o.getD zeros) = true := by
        refine decide_eq_true ?_
        obtain ⟨hn, hn2, _⟩ := HN.out
        refine List.ext_getElem (by simp [hn, hn2]) fun k hk1 hk2 => ?_
        have hk1' : k < L.length := by simpa using hk1
        have hk2' : k < L2.length := by simpa using hk2
        have := HO.out.1 k (by omega)
        simpa [List.getD, List.getElem?_eq_getElem hk1', List.getElem?_eq_getElem hk2'] using this
      rw [hd]
      exact ⟨rfl, HO.out.2⟩

set_option maxRecDepth 100000 in
set_option maxHeartbeats 1000000 in
theorem same_any {B B2 : Nat} {M I M2 I2 : Nat → Prop} {d c : Nat} {s s2 : DS} (w : World) (h : DiskAt B w M I d s) (h2 : DiskAt B2 w M2 I2 c s2) (n : Nat) (hn : s.L.length = n) (hn2 : s2.L.length = n) (hnb : n ≤ 65536) :
    Calls Try.prog 18 #[.pointer (some ⟨d, 0, none⟩), .pointer (some ⟨c, 0, none⟩)] w (fun e w' => e = .returned (.bool (decide (s.L.map (fun o => o.getD zeros) = s2.L.map fun o => o.getD zeros))) ∧ Below w.heap.size w w') := by
  obtain ⟨lb, lcap, mb, wo, wcap, lc, f, xs, hcells, hbody, _⟩ := h
  obtain ⟨lb2, lcap2, mb2, wo2, wcap2, lc2, f2, xs2, hcells2, hbody2, _⟩ := h2
  have hd0 : w.cell? ⟨d, 0, none⟩ = some (.slice (some ⟨lb, 0, none⟩) n lcap) := by rw [← hn]; exact cell_of_row _ d 0 _ _ (0, 0) hcells
  have hc0 : w.cell? ⟨c, 0, none⟩ = some (.slice (some ⟨lb2, 0, none⟩) n lcap2) := by rw [← hn2]; exact cell_of_row _ c 0 _ _ (0, 0) hcells2
  have HB := Lib.hid (And.intro hbody (And.intro hbody2 (And.intro hn hn2)))
  clear hcells hbody hcells2 hbody2 hn hn2
  go_enter Try.func18, Try.ntmps18
  go_wp2_with fail
  refine seq_start (by kernel_rfl) ?_
  refine seq_take 0 (v := ?_) rfl (by kernel_rfl) (fun _ _ _ h => h) (by rfl) (fun w' hw' => ?_) ?_
  rotate_left
  · go_simp; try with_reducible rfl
  try simp only [List.getElem_toArray, List.getElem_cons_succ, List.getElem_cons_zero, Act.put, List.setIfInBounds_toArray, List.set_cons_zero, List.set_cons_succ]
  refine seq_take 1 (v := ?_) rfl (by kernel_rfl) (fun _ _ _ h => h) (by rfl) (fun w' hw' => ?_) ?_
  rotate_left
  · go_simp; try with_reducible rfl
  try simp only [List.getElem_toArray, List.getElem_cons_succ, List.getElem_cons_zero, Act.put, List.setIfInBounds_toArray, List.set_cons_zero, List.set_cons_succ]
  refine seq_take 2 (v := ?_) rfl (by kernel_rfl) (fun _ _ _ h => h) (by rfl) (fun w' hw' => ?_) ?_
  rotate_left
  · go_simp; try with_reducible rfl
  try simp only [List.getElem_toArray, List.getElem_cons_succ, List.getElem_cons_zero, Act.put, List.setIfInBounds_toArray, List.set_cons_zero, List.set_cons_succ]
  refine seq_take 3 rfl (by kernel_rfl) (fun _ _ _ h => h) (by rfl) (seq_ldss rfl rfl (hd0)) ?_
  try simp only [List.getElem_toArray, List.getElem_cons_succ, List.getElem_cons_zero, Act.put, List.setIfInBounds_toArray, List.set_cons_zero, List.set_cons_succ]
  refine seq_take 4 (v := ?_) rfl (by kernel_rfl) (fun _ _ _ h => h) (by rfl) (fun w' hw' => ?_) ?_
  rotate_left
  · go_simp; try with_reducible rfl
  try simp only [List.getElem_toArray, List.getElem_cons_succ, List.getElem_cons_zero, Act.put, List.setIfInBounds_toArray, List.set_cons_zero, List.set_cons_succ]
  refine seq_take 5 (v := ?_) rfl (by kernel_rfl) (fun _ _ _ h => h) (by rfl) (fun w' hw' => ?_) ?_
  rotate_left
  · go_simp; try with_reducible rfl
  try simp only [List.getElem_toArray, List.getElem_cons_succ, List.getElem_cons_zero, Act.put, List.setIfInBounds_toArray, List.set_cons_zero, List.set_cons_succ]
  refine seq_take 6 (v := ?_) rfl (by kernel_rfl) (fun _ _ _ h => h) (by rfl) (fun w' hw' => ?_) ?_
  rotate_left
  · go_simp; try with_reducible rfl
  try simp only [List.getElem_toArray, List.getElem_cons_succ, List.getElem_cons_zero, Act.put, List.setIfInBounds_toArray, List.set_cons_zero, List.set_cons_succ]
  refine seq_take 7 rfl (by kernel_rfl) (fun _ _ _ h => h) (by rfl) (seq_ldss rfl rfl (hc0)) ?_
  try simp only [List.getElem_toArray, List.getElem_cons_succ, List.getElem_cons_zero, Act.put, List.setIfInBounds_toArray, List.set_cons_zero, List.set_cons_succ]
  refine seq_run 8 rfl (by kernel_rfl) (by rfl) (fun KK hKK => ?_)
  go_wp2_with fail
  clear hd0 hc0
  have hdr : Below w.heap.size w w.drew := (Below.refl _ w).drew
  refine (equalF_any lb lb2 n lcap lcap2 lc lc2 s.L s2.L w.drew HB.out.2.2.1 HB.out.2.2.2 hnb ((At.own HB.out.1.lasts).below hdr) ((At.own HB.out.2.1.lasts).below hdr) (HB.out.1.lasts2.mono fun _ _ _ h => LastV.below h hdr) (HB.out.2.1.lasts2.mono fun _ _ _ h => LastV.below h hdr)).mono ?_
  rintro e w2 ⟨rfl, hb2⟩
  have H2 := Lib.hid hb2
  clear hb2 hdr
  go_wp2_with fail
  refine ⟨H2.out, ?_⟩
  refine seq_take 9 (v := ?_) rfl (by kernel_rfl) (fun _ _ _ h => h) (by rfl) (fun w' hw' => ?_) ?_
  rotate_left
  · go_simp; try with_reducible rfl
  try simp only [List.getElem_toArray, List.getElem_cons_succ, List.getElem_cons_zero, Act.put, List.setIfInBounds_toArray, List.set_cons_zero, List.set_cons_succ]
  refine seq_done (by kernel_rfl) ?_
  go_wp2_with fail
  go_ret
  exact ⟨rfl, below_drew H2.out⟩

end Go.Proofs.Ytnonhmjfhcmpgaa
