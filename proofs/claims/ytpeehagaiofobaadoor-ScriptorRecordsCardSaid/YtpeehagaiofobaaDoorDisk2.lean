/- The walks of a disk's Write and Read. -/
import Derived.Test.YtpeehagaiofobaaDoorDisk
namespace Go.Proofs.YtpeehagaiofobaaDoor
open Go.RowKit

/-- What a call on a disk may leave. -/
def Upd (B : Nat) (w : World) (M I : Nat → Prop) (d : Nat) (s' : DS) (w' : World) : Prop :=
  ∃ M' I', DiskAt B w' M' I' d s' ∧ Keeps M w w' ∧ (∀ b, M' b → M b ∨ w.heap.size ≤ b) ∧ (∀ b, I' b → I b ∨ w.heap.size ≤ b)
theorem Upd.same {B : Nat} {w : World} {M I : Nat → Prop} {d : Nat} {s : DS} (h : DiskAt B w M I d s) : Upd B w M I d s w := ⟨M, I, h, Keeps.refl _ _, fun _ h => .inl h, fun _ h => .inl h⟩
theorem Upd.head {B : Nat} {w w' : World} {M I : Nat → Prop} {d : Nat} {s s' : DS} (h0 : DiskAt B w M I d s) (h : DiskAt B w' M I d s') (hg : w.grownBy w' (some d)) : Upd B w M I d s' w' := by
  obtain ⟨_, _, _, _, _, _, _, _, _, _, _, _, _, _, _, _, h6⟩ := h0
  exact ⟨M, I, h, Keeps.of_grown hg ((h6 d).2 (.inl rfl)), fun _ h => .inl h, fun _ h => .inl h⟩
def DS.write (s : DS) (n : Int) (b : List UInt8) : Nat × DS :=
  if s.off then (8, s) else if inR n s.L.length = false then (1, s) else if s.left = 0 then (8, s.spend) else (0, { s.spend with W := s.W ++ [(n.toNat, b)] })

theorem infoW : (Tryd.prog.info? 89).map (fun i => (i.zero, i.size, i.bytes)) = some (some (.agg #[.int .i64 0, .slice none 0 0]), 2, 32) := by kernel_rfl

/-- One write more in the row of those that wait. -/
theorem app_wait {w : World} {ops : Array Oper} {rest : List Oper} {o : Oper} {a : Act} {Q : Exit → Act → World → Prop} (hgd : Region.wanted o (yielded ops a.tmps) = true) (s x : Operand)
    (ho : o.op = .call { callee := .builtin .append, args := #[s, x], argTypes := #[50, 50] })
    (base : Nat) (ao : Option Addr) (cap n : Nat) (xs : List Value) (hs : a.eval s = .slice ao n cap) (hown : w.ownsRow base 89 2 (.slice ao n cap) n xs)
    (u v : Value) (hu : u.oneCell' = true) (hv : v.oneCell' = true) (hx : a.eval x = .slice (some ⟨w.heap.size, 0, none⟩) 1 1)
    (hb : n ≤ 1000000000) (hbase : base ≤ w.heap.size)
    (h : ∀ ao' cap' w', w'.ownsRow base 89 2 (.slice ao' (n + 1) cap') (n + 1) (xs ++ [u, v]) → Keeps (fun i => blk ao = some i) w w' → (blk ao' = blk ao ∨ ∀ g, blk ao' = some g → w.heap.size < g) → wpList Tryd.prog ops Q rest (a.put o.dst (.slice ao' (n + 1) cap')) w') :
    wpList Tryd.prog ops Q (o :: rest) a (w.alloc (.cells #[u, v] 89)) := by
  obtain ⟨i0, hi, hz0, hz1, hz2⟩ := info_parts infoW
  refine wpList_go hgd fun K hK => ?_
  have hat : At (w.alloc (.cells #[u, v] 89)) (some ⟨w.heap.size, 0, none⟩) [u, v] := At.new w #[u, v] _
  refine wp_append s x 50 50 ho base 89 i0 (.agg #[.int .i64 0, .slice none 0 0]) 2 32 Tryd.underlying50 hi hz0 hz1 hz2 rfl _ n xs hs (hown.alloc _) _ 1 [u, v] hx
    (hat.src Tryd.underlying50 rfl (by intro y hy; simp at hy; rcases hy with rfl | rfl; exact hu; exact hv) (by decide)) (by unfold maxLen; omega) (by omega) (by simp; omega) ?_
  intro ao' cap' w' h1 h2 h3
  rw [own_slice] at h2 h3
  refine hK _ _ (h ao' cap' w' h1 ?_ ?_)
  · refine ⟨h2.os, h2.tape, h2.output, by have := h2.size; simp at this; omega, fun k hk hne => ?_⟩
    rw [h2.block k (by simp; omega) (fun e => hne e.symm)]
    exact Below.heap_alloc w _ k hk
  · exact h3.imp id fun e g hg => by rw [e] at hg; simp at hg; omega

theorem DBody.wrote {B : Nat} {I : Nat → Prop} {w0 w1 w3 w4 w5 : World} {lb lcap mb d g : Nat} {wo wo' : Option Addr} {wcap wcap' : Nat} {lc : List Value} {f : Int → Option Value} {xs : List (List Value)} {s : DS} {n : Nat} {v : Value} {b : List UInt8}
    (hb : DBody B w1 I lb lcap mb wo wcap lc f xs s) (h01 : ∀ i, (I i ∨ i = lb ∨ i = mb ∨ blk wo = some i) → i < w0.heap.size) (hdl : d ≠ lb) (hdm : d ≠ mb) (hdw : blk wo ≠ some d) (hdI : ¬ I d) (hd0 : d < w0.heap.size)
    (hg0 : w0.heap.size ≤ g) (hBg : B ≤ g) (hg1 : g < w1.heap.size) (hv : SecV w1 (fun i => I i ∨ i = g) v b)
    (k13 : Keeps (fun i => blk wo = some i) w1 w3) (hown : w3.ownsRow B 89 2 (.slice wo' (s.W.length + 1) wcap') (s.W.length + 1) (xs.flatten ++ [.int .i64 (n : Int), v])) (hwo : blk wo' = blk wo ∨ ∀ g, blk wo' = some g → w1.heap.size < g)
    (k34 : w3.grownBy w4 (some d)) (k45 : w4.grownBy w5 (some mb)) (hmap : MapAt w5 mb (putM f n v)) :
    DBody B w5 (fun i => I i ∨ i = g) lb lcap mb wo' wcap' lc (putM f n v) (xs ++ [[.int .i64 (n : Int), v]]) { s with W := s.W ++ [(n, b)] } := by
  have K34 : Keeps (fun i => i = d ∨ i = mb) w3 w4 := Keeps.of_grown k34 (.inl rfl)
  have K45 : Keeps (fun i => i = d ∨ i = mb) w4 w5 := Keeps.of_grown k45 (.inr rfl)
  have K35 := K34.trans' K45
  have K15 : Keeps (fun i => blk wo = some i ∨ i = d ∨ i = mb) w1 w5 := (k13.mono fun i _ h => .inl h).trans K35 fun i _ h => .inr h
  have hIne : ∀ i, (I i ∨ i = g) → ¬ (blk wo = some i ∨ i = d ∨ i = mb) := by
    rintro i (hi | rfl) (h | h | h)
    · exact hb.iw i h hi
    · rw [h] at hi; exact hdI hi
    · rw [h] at hi; exact hb.iM hi
    · have := h01 i (.inr (.inr (.inr h))); omega
    · omega
    · have := h01 mb (by simp); omega
  have hwo1 : ∀ i, blk wo' = some i → (i < w0.heap.size ∧ blk wo = some i) ∨ w1.heap.size < i := by
    intro i hi
    rcases hwo with h | h
    · rw [h] at hi; exact .inl ⟨h01 i (.inr (.inr (.inr hi))), hi⟩
    · exact .inr (h i hi)
  have hl0 := h01 lb (by simp)
  have hm0 := h01 mb (by simp)
  have hsec : ∀ v b, SecV w1 I v b → SecV w5 (fun i => I i ∨ i = g) v b := fun v b h => h.keeps K15 (fun i hi _ => hIne i (.inl hi)) fun _ h => .inl h
  have hv5 : SecV w5 (fun i => I i ∨ i = g) v b := hv.keeps K15 (fun i hi _ => hIne i hi) fun _ h => h
  exact {
    lasts := owns_keeps hb.lasts K15 (by rw [own_slice]; rintro i ⟨⟩ (h | h | h); exact hb.wl h; exact hdl h.symm; exact hb.lm h)
    lasts2 := hb.lasts2.mono fun a o _ ho => by
      cases o with
      | none => exact ho
      | some b => exact hsec _ _ ho
    map := hmap
    mapB := hb.mapB
    now := fun z => by
      have := hb.now z
      rw [lastW_snoc]
      unfold putM
      by_cases hz : (n : Int) = z
      · rw [if_pos hz, if_pos hz.symm]
        exact ⟨v, rfl, hv5⟩
      · rw [if_neg hz, if_neg (fun e => hz e.symm)]
        cases hl : lastW s.W z with
        | none => rw [hl] at this; exact this
        | some b' =>
          rw [hl] at this
          obtain ⟨u, hu, hs⟩ := this
          exact ⟨u, hu, hsec _ _ hs⟩
    waits := by
      have := owns_keeps hown K35 (by
        rw [own_slice]
        intro i hi h
        rcases hwo1 i hi with ⟨_, h2⟩ | h2
        · rcases h with rfl | rfl
          · exact hdw h2
          · exact hb.wm h2
        · have := hb.map.lt; have := k13.size; omega)
      simpa using this
    waits2 := (hb.waits2.mono fun a p _ ⟨v, hv, hs⟩ => ⟨v, hv, hsec _ _ hs⟩).snoc ⟨v, rfl, hv5⟩
    imm := fun i hi => by
      have hs := K15.size
      rcases hi with hi | rfl
      · have := hb.imm i hi; exact ⟨this.1, by omega⟩
      · exact ⟨hBg, by omega⟩
    lm := hb.lm
    wl := fun h => by rcases hwo1 lb h with ⟨_, h2⟩ | h2; exact hb.wl h2; have := K15.size; omega
    wm := fun h => by rcases hwo1 mb h with ⟨_, h2⟩ | h2; exact hb.wm h2; omega
    il := by rintro (h | h); exact hb.il h; omega
    iM := by rintro (h | h); exact hb.iM h; omega
    iw := fun i hi h => by
      rcases hwo1 i hi with ⟨h1, h2⟩ | h2
      · rcases h with h | h
        · exact hb.iw i h2 h
        · omega
      · rcases h with h | h
        · have := (hb.imm i h).2; omega
        · omega }

set_option maxRecDepth 100000 in
set_option maxHeartbeats 1000000 in
theorem write_any' {B : Nat} {M I : Nat → Prop} {d : Nat} {s : DS} (w : World) (h : DiskAt B w M I d s) (hst : s.steps ≤ 1000000000) (hWl : s.W.length ≤ 1000000000) (n : Int) (ao : Option Addr) (cap : Nat) (b : List UInt8) (hb : b.length = 512) (hat : At w ao (bytesV b)) (hne : ∀ g, blk ao = some g → ¬ M g) (hB : B ≤ w.heap.size) :
    Calls Tryd.prog 36 #[.pointer (some ⟨d, 0, none⟩), .int .i64 n, .slice ao 512 cap] w (fun e w' => e = .returned (.int .i64 ((s.write n b).1 : Int)) ∧ Upd B w M I d (s.write n b).2 w' ∧ CellKept d w w') := by
  have H := Lib.hid h
  have HA := Lib.hid (And.intro hat (And.intro hne hb))
  have HR := Lib.hid (show s.write n b = if s.off then (8, s) else if inR n s.L.length = false then (1, s) else if s.left = 0 then (8, s.spend) else (0, { s.spend with W := s.W ++ [(n.toNat, b)] }) from rfl)
  generalize s.write n b = R at *
  have hdM : M d := by obtain ⟨_, _, _, _, _, _, _, _, _, _, _, _, _, _, _, _, h6⟩ := h; exact (h6 d).2 (.inl rfl)
  have hinr : inR n s.L.length = true → 0 ≤ n ∧ n < s.L.length := fun h => of_decide_eq_true h
  have HIN := Lib.hid hinr
  clear h hat hne hb hinr
  go_enter Tryd.func36, Tryd.ntmps36
  go_wp2_with fail
  refine (on_any w H.out).mono ?_
  rintro e w' ⟨rfl, rfl⟩
  by_cases hoff : s.off = true
  · have hR : R = (8, s) := by rw [HR.out, if_pos hoff]
    have HRR := Lib.hid hR
    clear hR
    rw [if_pos hoff]
    have HO := Lib.hid hoff
    clear hoff
    go_wp2_with fail
    go_returns
    rw [HRR.out]
    exact ⟨rfl, Upd.same H.out, fun _ h => h⟩
  · rw [if_neg hoff]
    have HO := Lib.hid hoff
    clear hoff
    go_wp2_with fail
    refine (there_any w H.out n).mono ?_
    rintro e w' ⟨rfl, rfl⟩
    cases hin : inR n s.L.length with
    | false =>
      have hR : R = (1, s) := by rw [HR.out, if_neg HO.out, if_pos hin]
      have HRR := Lib.hid hR
      clear hR
      have HI := Lib.hid hin
      clear hin
      go_wp2_with fail
      go_returns
      rw [HRR.out]
      exact ⟨rfl, Upd.same H.out, fun _ h => h⟩
    | true =>
      have HI := Lib.hid hin
      clear hin
      go_wp2_with fail
      refine (spend_any' w H.out hst).mono ?_
      rintro e w1 ⟨rfl, hd1, hg1, hck⟩
      have HCK := Lib.hid hck
      clear hck
      have H1 := Lib.hid (And.intro hd1 hg1)
      have hsz1 := hg1.size
      clear hd1 hg1
      by_cases hl : s.left = 0
      · have hR : R = (8, s.spend) := by rw [HR.out, if_neg HO.out, if_neg (by rw [HI.out]; simp), if_pos hl]
        have HRR := Lib.hid hR
        clear hR
        rw [if_pos hl]
        have HL := Lib.hid hl
        clear hl
        go_wp2_with fail
        go_returns
        rw [HRR.out]
        exact ⟨rfl, Upd.head H.out H1.out.1 H1.out.2, HCK.out⟩
      · have hR : R = (0, { s.spend with W := s.W ++ [(n.toNat, b)] }) := by rw [HR.out, if_neg HO.out, if_neg (by rw [HI.out]; simp), if_neg hl]
        have HRR := Lib.hid hR
        clear hR
        rw [if_neg hl]
        have HL := Lib.hid hl
        clear hl
        have hat1 : At w1 ao (bytesV b) := HA.out.1.keeps (X := fun i => i = d) (Keeps.of_grown H1.out.2 rfl) (fun g hg _ e => HA.out.2.1 g hg (by rw [e]; exact hdM))
        have HA1 := Lib.hid hat1
        clear hat1
        go_wp2_with fail
        refine (clone_any ao b 512 cap HA.out.2.2.symm (by rw [HA.out.2.2]; decide) w1 HA1.out).mono ?_
        rintro e w2 ⟨co, capc, rfl, hown, hb2⟩
        rw [HA.out.2.2] at hown ⊢
        have hsz2 := hb2.size
        obtain ⟨g, rfl, hg0, hg2, hsec⟩ := secV_new HA.out.2.2 hown I
        have hd2 := H1.out.1.below hb2
        obtain ⟨lb, lcap, mb, wo, wcap, lc, f, xs, hd, hbd, hBd, h1, h2, h3, h4, h5, h6⟩ := hd2
        have hsW : s.spend.W = s.W := by unfold DS.spend; split <;> rfl
        have hsL : s.spend.L = s.L := by unfold DS.spend; split <;> rfl
        have c1 := cell_of_row _ d 1 _ _ (0, 0) hd
        have c2 := cell_of_row _ d 2 _ _ (0, 0) hd
        have f2 := frozen_of_row _ d 2 _ _ hd
        simp only [List.getElem?_toArray, List.getElem?_cons_succ, List.getElem?_cons_zero] at c1 c2
        rw [hsW] at c2
        have hw0 := hbd.waits
        rw [hsW] at hw0
        have HD := Lib.hid (And.intro hd (And.intro hbd (And.intro hsec (And.intro h5 h6))))
        have HW0 := Lib.hid hw0
        have HN := Lib.hid (And.intro h1 (And.intro h2 (And.intro h3 h4)))
        have hBsz : B ≤ w2.heap.size := by omega
        have HB2 := Lib.hid hb2
        clear hown hb2 hd hbd hsec h5 h6 hw0 h1 h2 h3 h4
        obtain ⟨k, rfl⟩ := Int.eq_ofNat_of_zero_le (HIN.out HI.out).1
        have HR2 := Lib.hid (show R = (0, { s.spend with W := s.W ++ [(k, b)] }) from HRR.out)
        have hdlt : d < w2.heap.size := (Array.getElem?_eq_some_iff.1 HD.out.1).1
        clear c1 f2
        go_wp2_with (first | (at_mapUpdate; refine op_mapUpdate (mty := 49) (kt := 3) (et := 40) rfl _ _ _ rfl (by kernel_rfl) (by kernel_rfl) mb f ((HD.out.2.1.map.keeps Q.out.2.1 HD.out.2.1.wm).keep (setCell_else0 _ _ _ _ _ (Ne.symm HN.out.2.1))) (k : Int) _ rfl rfl rfl ?_; rintro w5 m1 m2) | (at_builtin; refine app_wait rfl _ _ rfl B wo wcap s.W.length xs.flatten rfl HW0.out _ _ rfl rfl rfl hWl hBsz ?_; rintro wo' wcap' w3 q1 q2 q3; have hrow3 : w3.heap[d]? = _ := (q2.block d hdlt HN.out.2.2.1).trans HD.out.1; have c1' : w3.cell? ⟨d, 1, none⟩ = some (.map (some mb)) := cell_of_row _ d 1 _ _ (0, 0) hrow3; have c2' : w3.cell? ⟨d, 2, none⟩ = some (.slice wo s.W.length wcap) := (cell_of_row _ d 2 _ _ (0, 0) hrow3).trans (by rw [hsW]; rfl); have f2' := frozen_of_row _ d 2 _ _ hrow3; have Q := Lib.hid (And.intro q1 (And.intro q2 q3)); have HROW := Lib.hid hrow3; clear q1 q2 q3 hrow3 c2))
        go_returns
        rw [HR2.out]
        have hm := HD.out.2.2.2.2
        have hlt0 := H.out.lt
        have hltI := H.out.ltI
        have g34 := setCell_grown0 w3 d 2 (.slice wo' (s.W.length + 1) wcap')
        have hbody := DBody.wrote (w0 := w) (n := k) (b := b) HD.out.2.1
          (fun i hi => by
            rcases hi with hi | rfl | rfl | hi
            · exact (hltI i hi).2
            · exact (hlt0 _ ((hm _).2 (by simp))).2
            · exact (hlt0 _ ((hm _).2 (by simp))).2
            · exact (hlt0 _ ((hm _).2 (by simp [hi]))).2)
          HN.out.1 HN.out.2.1 HN.out.2.2.1 HN.out.2.2.2 (hlt0 d hdM).2 (by omega) (by omega) hg2 HD.out.2.2.1 Q.out.2.1 (by rw [hsW]; exact Q.out.1) Q.out.2.2 g34 m2 m1
        have hin := HIN.out HI.out
        have hrow5 : w5.heap[d]? = some (.cells #[.slice (some ⟨lb, 0, none⟩) s.spend.L.length lcap, .map (some mb), .slice wo' (s.W.length + 1) wcap', .int .i64 s.spend.left, .bool s.spend.off, .int .i64 (s.spend.steps : Int)] 52 (0, 0)) := by
          rw [m2.block d (by have := g34.size; have := Q.out.2.1.size; omega) (by simp [HN.out.2.1]), setCell_row0 2 _ HROW.out]
          rfl
        have hck5 : CellKept d w w5 := by
          intro m hmm
          have h1 := HCK.out m hmm
          have h2 : w2.cell? ⟨d, 1, none⟩ = some m := (World.cell?_of_block (HB2.out.block d (World.block_lt_of_cell? (a := ⟨d, 1, none⟩) w1 h1))).trans h1
          have h3 : w2.cell? ⟨d, 1, none⟩ = some (.map (some mb)) := cell_of_row _ d 1 _ _ (0, 0) HD.out.1
          rw [h2] at h3
          rw [h3]
          exact cell_of_row _ d 1 _ _ (0, 0) hrow5
        have K35 : Keeps M w3 w5 := (Keeps.of_grown g34 hdM).trans' (Keeps.of_grown m2 ((hm mb).2 (by simp)))
        have K : Keeps M w w5 := ((Keeps.of_grown H1.out.2 hdM).trans' (Keeps.of_below HB2.out)).trans' ((Q.out.2.1.mono fun i _ hi => (hm i).2 (by simp [hi])).trans' K35)
        refine ⟨rfl, ⟨fun i => i = d ∨ i = lb ∨ i = mb ∨ blk wo' = some i, fun i => I i ∨ i = g, ⟨lb, lcap, mb, wo', wcap', lc, putM f (k : Int) (.slice (some ⟨g, 0, none⟩) 512 capc), xs ++ [[.int .i64 (k : Int), .slice (some ⟨g, 0, none⟩) 512 capc]], ?_, ?_, hBd, HN.out.1, HN.out.2.1, ?_, ?_, ?_, fun _ => Iff.rfl⟩, K, ?_, ?_⟩, hck5⟩
        · simpa using hrow5
        · simpa [hsW] using hbody
        · intro e
          rcases Q.out.2.2 with h | h
          · exact HN.out.2.2.1 (by rw [← h]; exact e)
          · have := h d e; omega
        · rintro (h | h)
          · exact HN.out.2.2.2 h
          · have := (hlt0 d hdM).2; omega
        · obtain ⟨o1, o2, o3, o4⟩ := HD.out.2.2.2.1
          refine ⟨?_, o2, o3, o4⟩
          intro p hp
          simp only at hp
          rw [hsL]
          rcases List.mem_append.1 hp with hp | hp
          · have := o1 p (by rw [hsW]; exact hp)
            rwa [hsL] at this
          · simp at hp
            rw [hp]
            exact ⟨by simp only; omega, HA.out.2.2⟩
        · rintro i (rfl | rfl | rfl | hi)
          · exact .inl hdM
          · exact .inl ((hm _).2 (by simp))
          · exact .inl ((hm _).2 (by simp))
          · rcases Q.out.2.2 with h | h
            · exact .inl ((hm i).2 (by rw [← h]; simp [hi]))
            · have := h i hi; exact .inr (by omega)
        · rintro i (hi | rfl)
          · exact .inl hi
          · exact .inr (by omega)

theorem write_any {B : Nat} {M I : Nat → Prop} {d : Nat} {s : DS} (w : World) (h : DiskAt B w M I d s) (hst : s.steps ≤ 1000000000) (hWl : s.W.length ≤ 1000000000) (n : Int) (ao : Option Addr) (cap : Nat) (b : List UInt8) (hb : b.length = 512) (hat : At w ao (bytesV b)) (hne : ∀ g, blk ao = some g → ¬ M g) (hB : B ≤ w.heap.size) :
    Calls Tryd.prog 36 #[.pointer (some ⟨d, 0, none⟩), .int .i64 n, .slice ao 512 cap] w (fun e w' => e = .returned (.int .i64 ((s.write n b).1 : Int)) ∧ Upd B w M I d (s.write n b).2 w') :=
  (write_any' w h hst hWl n ao cap b hb hat hne hB).mono fun _ _ ⟨h1, h2, _⟩ => ⟨h1, h2⟩

/-- What is read. -/
def DS.readE (s : DS) (n : Int) : Nat × List UInt8 := if s.off then (8, []) else if inR n s.L.length = false then (1, []) else (0, s.read n.toNat)
def Read (w : World) (r : Nat × List UInt8) (e : Ending) (w' : World) : Prop :=
  ∃ ao cap, e = .returned (.tuple #[.slice ao r.2.length cap, .int .i64 (r.1 : Int)]) ∧ w'.ownsRow w.heap.size 5 1 (.slice ao r.2.length cap) r.2.length (bytesV r.2) ∧ Below w.heap.size w w'

theorem zeroB (w : World) : (zeroValue 40).run Tryd.prog w = .ok (.slice none 0 0) w := by kernel_rfl

set_option maxRecDepth 100000 in
set_option maxHeartbeats 1000000 in
theorem read_any {B : Nat} {M I : Nat → Prop} {d : Nat} {s : DS} (w : World) (h : DiskAt B w M I d s) (n : Int) :
    Calls Tryd.prog 43 #[.pointer (some ⟨d, 0, none⟩), .int .i64 n] w (Read w (s.readE n)) := by
  have H := Lib.hid h
  have HR := Lib.hid (show s.readE n = if s.off then (8, []) else if inR n s.L.length = false then (1, []) else (0, s.read n.toNat) from rfl)
  generalize s.readE n = R at *
  have hinr : inR n s.L.length = true → 0 ≤ n ∧ n < s.L.length := fun h => of_decide_eq_true h
  have HIN := Lib.hid hinr
  clear h hinr
  go_enter Tryd.func43, Tryd.ntmps43
  go_wp2_with fail
  refine (on_any w H.out).mono ?_
  rintro e w' ⟨rfl, rfl⟩
  by_cases hoff : s.off = true
  · have hR : R = (8, []) := by rw [HR.out, if_pos hoff]
    have HRR := Lib.hid hR
    rw [if_pos hoff]
    clear hoff hR
    go_wp2_with fail
    go_returns
    rw [HRR.out]
    exact ⟨none, 0, rfl, World.ownsRow_nil _ _ _ _, Below.refl _ _⟩
  · rw [if_neg hoff]
    have HO := Lib.hid hoff
    clear hoff
    go_wp2_with fail
    refine (there_any w H.out n).mono ?_
    rintro e w' ⟨rfl, rfl⟩
    cases hin : inR n s.L.length with
    | false =>
      have hR : R = (1, []) := by rw [HR.out, if_neg HO.out, if_pos hin]
      have HRR := Lib.hid hR
      clear hin hR
      go_wp2_with fail
      go_returns
      rw [HRR.out]
      exact ⟨none, 0, rfl, World.ownsRow_nil _ _ _ _, Below.refl _ _⟩
    | true =>
      have hR : R = (0, s.read n.toNat) := by rw [HR.out, if_neg HO.out, if_neg (by rw [hin]; simp)]
      obtain ⟨k, hk⟩ := Int.eq_ofNat_of_zero_le (HIN.out hin).1
      have hkl : k < s.L.length := by have := (HIN.out hin).2; omega
      rw [hk, Int.toNat_natCast] at hR
      have HK := Lib.hid hk
      have HRR := Lib.hid hR
      clear hin hR hk
      obtain ⟨lb, lcap, mb, wo, wcap, lc, f, xs, hd, hbd, _⟩ := H.out
      have c0 := cell_of_row _ d 0 _ _ (0, 0) hd
      have c1 := cell_of_row _ d 1 _ _ (0, 0) hd
      simp only [List.getElem?_toArray, List.getElem?_cons_succ, List.getElem?_cons_zero] at c0 c1
      have hlk : s.L.length ≤ lcap := by obtain ⟨_, _, e, h⟩ := owns_form hbd.lasts; cases e; exact h
      obtain ⟨v, hv, hlv⟩ := hbd.lasts2.get k hkl
      have hcell : w.cell? ⟨lb, k, none⟩ = some v := by rw [hbd.lasts.cellAt k (by omega)]; exact hv
      have hnow := hbd.now (k : Int)
      have HM := Lib.hid (And.intro hbd.map hlv)
      have HC := Lib.hid hcell
      have zb := zeroB
      have HZ := Lib.hid zb
      have hrd : s.read k = match lastW s.W (k : Int) with | some b => b | none => (s.L[k]).getD zeros := by
        unfold DS.read
        cases lastW s.W (k : Int) with
        | some b => rfl
        | none => simp [List.getD, hkl]
      rw [HK.out]
      clear hd hbd hv hlv hcell zb
      cases hl : lastW s.W (k : Int) with
      | some b =>
        rw [hl] at hnow hrd
        obtain ⟨u, hu, hs⟩ := hnow
        have HS := Lib.hid (And.intro hu (And.intro hs hrd))
        clear hu hs hrd hl
        go_wp2_with (at_lookup; refine op_lookup (mty := 49) (kt := 3) (et := 40) rfl _ _ rfl (by kernel_rfl) (by kernel_rfl) mb f HM.out.1 (k : Int) _ (HZ.out _) rfl rfl ?_; rw [HS.out.1, Option.getD_some, Option.isSome_some])
        refine (bare_any (I := I) u (some b) w HS.out.2.1).mono ?_
        rintro e w1 ⟨ao, cap, rfl, h1, h2⟩
        have H1 := Lib.hid (And.intro h1 h2)
        clear h1 h2
        go_wp2_with fail
        go_returns
        rw [HRR.out, HS.out.2.2]
        exact ⟨ao, cap, rfl, H1.out.1, H1.out.2⟩
      | none =>
        rw [hl] at hnow hrd
        have HS := Lib.hid (And.intro hnow hrd)
        have hcell := HC.out
        have hkc : (k : Int) < s.L.length := by omega
        clear hnow hrd hl
        go_wp2_with (at_lookup; refine op_lookup (mty := 49) (kt := 3) (et := 40) rfl _ _ rfl (by kernel_rfl) (by kernel_rfl) mb f HM.out.1 (k : Int) _ (HZ.out _) rfl rfl ?_; rw [HS.out.1, Option.getD_none, Option.isSome_none])
        refine (bare_any (I := I) v (s.L[k]) w HM.out.2).mono ?_
        rintro e w1 ⟨ao, cap, rfl, h1, h2⟩
        have H1 := Lib.hid (And.intro h1 h2)
        clear h1 h2
        go_wp2_with fail
        go_returns
        rw [HRR.out, HS.out.2]
        exact ⟨ao, cap, rfl, H1.out.1, H1.out.2⟩

end Go.Proofs.YtpeehagaiofobaaDoor
