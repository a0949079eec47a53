/- The walk of come: a step that is come to. -/
import Derived.Test.YtnhdefaagicejaaDoorCodeM
import Derived.Deep.Cut
namespace Go.Proofs.YtnhdefaagicejaaDoor
set_option linter.unusedSimpArgs false
set_option linter.unusedVariables false
open Go.RowKit

theorem zeroFr (w : World) : (zeroValue 87).run Tryd.prog w = .ok (.agg #[.int .i64 0, .int .i64 0, .slice none 0 0]) w := by
  have h : (Tryd.prog.info? 87).map (fun i => i.zero) = some (some (.agg #[.int .i64 0, .int .i64 0, .slice none 0 0])) := by kernel_rfl
  obtain ⟨i, hi, hz⟩ := Option.map_eq_some_iff.1 h
  simp [zeroValue, typeInfo, hi, hz]
/-- A map's update, one operation. -/
theorem wp_mapUpdate {mty kt et : TypeId} {w : World} {o : Oper} {a : Act} {K : Act → World → Prop} {Q : Exit → Act → World → Prop} (m k x : Operand) (ho : o.op = .mapUpdate mty m k x)
    (hm : Tryd.prog.underlying mty = some (.map kt et)) (hd : Tryd.prog.underlying kt = some (.int .i64)) (b : Nat) (f : Int → Option Value) (h : MapAt w b f) (n : Int) (v : Value) (hmv : a.eval m = .map (some b)) (hkv : a.eval k = .int .i64 n) (hxv : a.eval x = v)
    (hk : ∀ w', MapAt w' b (putM f n v) → w.grownBy w' (some b) → K (a.put o.dst undef) w') : o.wp Tryd.prog a w K Q := by
  obtain ⟨w', hr, h1, h2⟩ := run_mapUpdate_int (P := Tryd.prog) hm hd h n v
  unfold Oper.wp execOp
  simp only [ho, hmv, hkv, hxv, hr, Sem.run_bind, Sem.run_pure, Result.andThen_ok]
  exact hk w' h1 h2
theorem app_queue {w : World} {ops : Array Oper} {rest : List Oper} {o : Oper} {a : Act} {Q : Exit → Act → World → Prop} (hgd : Region.wanted o (yielded ops a.tmps) = true) (s x : Operand)
    (ho : o.op = .call { callee := .builtin .append, args := #[s, x], argTypes := #[22, 22] })
    (B : Nat) (ao : Option Addr) (cap n : Nat) (xs : List Int) (hn : n = xs.length) (hs : a.eval s = .slice ao n cap) (hq : QueueAt w B ao cap xs) (y : Int) (g : Nat) (hx : a.eval x = .slice (some ⟨g, 0, none⟩) 1 1) (hg : w.cell? ⟨g, 0, none⟩ = some (.int .i64 y))
    (hb : n ≤ 1000000000) (hB : B ≤ w.heap.size)
    (h : ∀ ao' cap' w', QueueAt w' B ao' cap' (xs ++ [y]) → Keeps (fun i => blk ao = some i) w w' → (∀ j, blk ao' = some j → blk ao = some j ∨ w.heap.size ≤ j) → wpList Tryd.prog ops Q rest (a.put o.dst (.slice ao' (n + 1) cap')) w') : wpList Tryd.prog ops Q (o :: rest) a w :=
  wpList_go hgd fun _ hK => wp_queue s x ho B ao cap n xs hn hs hq y g hx hg hb hB fun ao' cap' w' h1 h2 h3 => hK _ _ (h ao' cap' w' h1 h2 h3)
theorem seq_ldm {o : Oper} {x : Operand} {a : Act} {w : World} (ho : o.op = .load 54 x) {ad : Addr} {v : Value} (hx : a.eval x = .pointer (some ad)) (hc : w.cell? ad = some v) :
    ∀ w', Below w.heap.size w w' → (execOp a.eval o).run Tryd.prog w' = .ok (.value v) w' := by
  intro w' hb
  have hc' := (World.cell?_of_block (hb.block ad.block (World.block_lt_of_cell? (a := ad) w hc))).trans hc
  have hu := Tryd.underlying54
  unfold execOp
  simp only [ho, hx]
  go_simp
/-- What a call to come leaves. -/
def Comes (B : Nat) (A : Nat → Prop) (w : World) (c : CodeP) (L : List Int) (s : CS) (wo : Option Addr) (S : Int → Option FrP) (W : List Int) (to : Int) (g : FrP) (e : Ending) (w' : World) : Prop :=
  Keeps (s.X wo) w w' ∧ ((comeOk c S to g = true ∧ e = .returned (.tuple #[]) ∧ ∃ wo', ChkAt B A w' c L s wo' (comeS S to g) (comeW S W to) ∧ ∀ b, blk wo' = some b → blk wo = some b ∨ w.heap.size ≤ b) ∨ (comeOk c S to g = false ∧ e = .panicked [disP]))
set_option maxRecDepth 100000 in
set_option maxHeartbeats 4000000 in
theorem come_any {B : Nat} {A : Nat → Prop} {w : World} {c : CodeP} {L : List Int} {s : CS} {wo : Option Addr} {S : Int → Option FrP} {W : List Int} (hc : ChkAt B A w c L s wo S W) (hB : B ≤ w.heap.size) (hil : c.ins.length ≤ 65536) (hSl : ∀ z f, S z = some f → f.op.length ≤ 1000000) (hWl : W.length ≤ 1000000)
    (to : Int) (hto : R64i to) (g : FrP) (hgl : g.op.length ≤ 1000000) (v : Value) (hv : FrV w (fun b => ¬ s.X wo b ∧ b < w.heap.size ∧ A b) v g) :
    Calls Tryd.prog 32 #[.pointer (some ⟨s.cb, 0, none⟩), .int .i64 to, v] w (Comes B A w c L s wo S W to g) := by
  obtain ⟨oo, ocap, rfl, v2, v3, v4, v5⟩ := id hv
  have HV := Lib.hid (And.intro v4 v5)
  have HC := Lib.hid hc
  have HVV := Lib.hid hv
  have HSl := Lib.hid hSl
  have hcbl := hc.cbl
  clear hv v4 v5 hSl
  obtain ⟨W1, hW1⟩ : ∃ W1, w.alloc (.cells #[.int .i64 (g.fn : Int), .int .i64 g.h, .slice oo g.op.length ocap] 87) = W1 := ⟨_, rfl⟩
  have hb1 : Below w.heap.size w W1 := by rw [← hW1]; exact (Below.refl _ w).alloc (Nat.le_refl _) _
  have hf1 : FrCell W1 w.heap.size g.fn g.h oo g.op.length ocap := by rw [← hW1]; exact FrCell.new w _ _ _ _ _
  have hs1 : W1.heap.size = w.heap.size + 1 := by rw [← hW1]; simp
  have hc1 := hc.below hb1
  have H1 := Lib.hid (And.intro hb1 (And.intro hf1 (And.intro hs1 hc1)))
  obtain ⟨wcap, hrow, hq⟩ := hc1.row
  have c0 : W1.cell? ⟨s.cb, 0, none⟩ = some (.slice s.io c.ins.length s.icap) := cell_of_row _ _ 0 _ _ (0, 0) hrow
  obtain ⟨f0, f1, f2⟩ := hf1
  have HR := Lib.hid (And.intro hrow hq)
  have HK1 := Lib.hid (show Keeps (s.X wo) w W1 from Keeps.of_below hb1)
  have hsw1 : w.heap.size < W1.heap.size := by omega
  clear hrow hq hc1 hc hb1 hs1
  by_cases hin : 0 ≤ to ∧ to < c.ins.length
  · have hbt : betw to 0 ((c.ins.length : Int) - 1) = true := decide_eq_true ⟨hin.1, by omega⟩
    by_cases hh : g.h ≤ 10000
    · have hd1 : decide (g.h ≤ 10000) = true := decide_eq_true hh
      have hd2 : decide (10000 < g.h) = false := decide_eq_false (by omega)
      go_enter Tryd.func32, Tryd.ntmps32
      go_wp2_with fail
      clear hW1
      refine (within_any to 0 ((c.ins.length : Int) - 1) W1).mono ?_
      rintro e w2 ⟨rfl, rfl⟩
      rw [hbt]
      go_wp2_with fail
      refine (need_any true W1).mono ?_
      rintro e w2 ⟨hn, rfl⟩
      obtain ⟨_, rfl⟩ : True ∧ e = .returned (.tuple #[]) := by
        rcases hn with ⟨_, h⟩ | ⟨h, _⟩
        · exact ⟨trivial, h⟩
        · cases h
      clear hn
      obtain ⟨V, hm, hVn, hVs⟩ := H1.out.2.2.2.seen
      have c5 : W1.cell? ⟨s.cb, 5, none⟩ = some (.map (some s.mb)) := cell_of_row _ _ 5 _ _ (0, 0) HR.out.1
      cases hS : S to with
      | none =>
        have hV := hVn to hS
        have HM := Lib.hid (And.intro hm (And.intro hV (And.intro hS (And.intro hVn hVs))))
        clear hm hVn hVs hV
        go_wp2_with (at_lookup; refine op_lookup (mty := 54) (kt := 3) (et := 87) rfl _ _ rfl (by kernel_rfl) (by kernel_rfl) s.mb V HM.out.1 to _ (zeroFr _) rfl rfl ?_; rw [HM.out.2.1, Option.getD_none, Option.isSome_none])
        obtain ⟨W2, hW2⟩ : ∃ W2, W1.alloc (.cells #[.int .i64 0, .int .i64 0, .slice none 0 0] 87) = W2 := ⟨_, rfl⟩
        rw [hW2]
        have hb12 : Below W1.heap.size W1 W2.drew := by rw [← hW2]; exact ((Below.refl _ W1).alloc (Nat.le_refl _) _).drew
        have hs2 : W2.heap.size = W1.heap.size + 1 := by rw [← hW2]; simp
        have H2 := Lib.hid (And.intro hb12 (And.intro (H1.out.2.1.below hb12) (HM.out.1.below hb12)))
        have c52 : W2.drew.cell? ⟨s.cb, 5, none⟩ = some (.map (some s.mb)) := (World.cell?_of_block (a := ⟨s.cb, 5, none⟩) (hb12.block s.cb (by have := H1.out.2.2.1; omega))).trans c5
        have HC5 := Lib.hid c52
        clear hW2 hb12 c5 c52 f0 f1 f2 c0
        refine seql_start [6] (by kernel_rfl) ?_
        refine seql_take 0 (v := ?_) rfl (by kernel_rfl) (fun _ _ _ h => h) (by rfl) (fun w' hw' => ?_) ?_
        rotate_left
        · go_simp; try with_reducible rfl
        try simp only [List.getElem_toArray, List.getElem_cons_succ, List.getElem_cons_zero, Act.put, List.setIfInBounds_toArray, List.set_cons_zero, List.set_cons_succ]
        refine seql_take 1 (v := ?_) rfl (by kernel_rfl) (fun _ _ _ h => h) (by rfl) (fun w' hw' => ?_) ?_
        rotate_left
        · go_simp; try with_reducible rfl
        try simp only [List.getElem_toArray, List.getElem_cons_succ, List.getElem_cons_zero, Act.put, List.setIfInBounds_toArray, List.set_cons_zero, List.set_cons_succ]
        refine seql_take 2 (v := ?_) rfl (by kernel_rfl) (fun _ _ _ h => h) (by rfl) (fun w' hw' => ?_) ?_
        rotate_left
        · go_simp; try with_reducible rfl
        try simp only [List.getElem_toArray, List.getElem_cons_succ, List.getElem_cons_zero, Act.put, List.setIfInBounds_toArray, List.set_cons_zero, List.set_cons_succ]
        refine seql_take 3 rfl (by kernel_rfl) (fun _ _ _ h => h) (by rfl) (seq_ldm rfl rfl HC5.out) ?_
        try simp only [List.getElem_toArray, List.getElem_cons_succ, List.getElem_cons_zero, Act.put, List.setIfInBounds_toArray, List.set_cons_zero, List.set_cons_succ]
        refine seql_take 4 (v := ?_) rfl (by kernel_rfl) (fun _ _ _ h => h) (by rfl) (fun w' hw' => ?_) ?_
        rotate_left
        · go_simp; try with_reducible rfl
        try simp only [List.getElem_toArray, List.getElem_cons_succ, List.getElem_cons_zero, Act.put, List.setIfInBounds_toArray, List.set_cons_zero, List.set_cons_succ]
        refine seql_take 5 rfl (by kernel_rfl) (fun _ _ _ h => h) (by rfl) (seq_ldf rfl rfl H2.out.2.1) ?_
        try simp only [List.getElem_toArray, List.getElem_cons_succ, List.getElem_cons_zero, Act.put, List.setIfInBounds_toArray, List.set_cons_zero, List.set_cons_succ]
        refine seql_last 6 rfl (by kernel_rfl) (by kernel_rfl) (by rfl) (fun KK hKK => ?_)
        refine wp_mapUpdate (mty := 54) (kt := 3) (et := 87) _ _ _ rfl (by kernel_rfl) (by kernel_rfl) s.mb V H2.out.2.2 to _ rfl rfl rfl ?_
        intro w3 hm3 hg3
        refine hKK _ _ ?_
        refine seql_done (by kernel_rfl) ?_
        have hcne := H1.out.2.2.2.ne
        have hcwc := H1.out.2.2.2.wc
        have hs12 := H2.out.1.size
        have hs23 := hg3.size
        have hk3 : Keeps (fun b => b = s.mb) W1 w3 := (Keeps.of_below H2.out.1).trans' (Keeps.of_grown hg3 rfl)
        have hrow3 : w3.heap[s.cb]? = _ := (hk3.block s.cb (by omega) hcne).trans HR.out.1
        have hq3 : QueueAt w3 B wo wcap W := HR.out.2.keeps hk3 (fun b hb h => hcwc.2 (by rw [hb, h]))
        have c6 : w3.cell? ⟨s.cb, 6, none⟩ = some (.slice wo W.length wcap) := cell_of_row _ _ 6 _ _ (0, 0) hrow3
        have hb34 : Below w3.heap.size w3 (w3.alloc (.cells #[.int .i64 to] 3)) := (Below.refl _ w3).alloc (Nat.le_refl _) _
        have hrg : (w3.alloc (.cells #[.int .i64 to] 3)).heap[w3.heap.size]? = _ := heap_alloc_new w3 _
        have hq4 := hq3.below hb34
        have hcg : (w3.alloc (.cells #[.int .i64 to] 3)).cell? ⟨w3.heap.size, 0, none⟩ = some (.int .i64 to) := cell_of_row _ _ 0 _ _ (0, 0) hrg
        have hrow4 : (w3.alloc (.cells #[.int .i64 to] 3)).heap[s.cb]? = _ := (hb34.block s.cb (by omega)).trans hrow3
        have hs34 : (w3.alloc (.cells #[.int .i64 to] 3)).heap.size = w3.heap.size + 1 := by simp
        have H4 := Lib.hid (And.intro hq4 (And.intro hcg (And.intro hrow4 (And.intro hb34 (And.intro hs34 (And.intro hk3 hm3))))))
        clear hg3 hrow3 hq3 hb34 hrg hq4 hcg hrow4 hs34 hk3 hm3
        go_wp2_with (at_builtin; refine app_queue rfl _ _ rfl B wo wcap W.length W rfl rfl H4.out.1 to w3.heap.size rfl H4.out.2.1 (by omega) (by have := H4.out.2.2.2.2.1; omega) ?_; rintro ao5 cap5 w5 q1 q2 q3; have hrow5 : w5.heap[s.cb]? = _ := (q2.block s.cb (by have := H4.out.2.2.2.2.1; omega) hcwc.1).trans H4.out.2.2.1; have c65 : w5.cell? ⟨s.cb, 6, none⟩ = some (.slice wo W.length wcap) := cell_of_row _ _ 6 _ _ (0, 0) hrow5; have f65 := frozen_of_row _ s.cb 6 _ _ hrow5; have Q := Lib.hid (And.intro q1 (And.intro q2 (And.intro q3 hrow5))); clear q1 q2 q3 hrow5)
        go_end0
        have hok : comeOk c S to g = true := decide_eq_true ⟨hin.1, hin.2, hh, .inl HM.out.2.2.1⟩
        have eS : comeS S to g = fun z => if z = to then some g else S z := by unfold comeS; rw [if_pos HM.out.2.2.1]
        have eW : comeW S W to = W ++ [to] := by unfold comeW; rw [if_pos HM.out.2.2.1]
        generalize hF : w5.setCell ⟨s.cb, 6, none⟩ (.slice ao5 (W.length + 1) cap5) = F
        obtain ⟨q1, q2, q3, hrow5⟩ := Q.out
        have hkF5 : Keeps (fun b => b = s.cb) w5 F := by rw [← hF]; exact Keeps.of_grown (setCell_grown0 _ _ _ _) rfl
        have hk3F : Keeps (fun b => b = s.cb ∨ blk wo = some b) w3 F := ((Keeps.of_below H4.out.2.2.2.1).trans' (q2.mono (fun _ _ h => .inr h))).trans' (hkF5.mono (fun _ _ h => .inl h))
        have hk1F : Keeps (s.X wo) W1 F := (H4.out.2.2.2.2.2.1.mono (fun _ _ h => .inr (.inl h))).trans' (hk3F.mono (fun _ _ h => h.elim .inl (fun h => .inr (.inr h))))
        have hkF : Keeps (s.X wo) w F := HK1.out.trans' hk1F
        have hsF := hk1F.size
        have hs4 := H4.out.2.2.2.2.1
        have hsw := H1.out.2.2.1
        have hch := H1.out.2.2.2
        have hmbl := hch.mb
        have hXl := hch.Xl
        have hno : ∀ b, b < W1.heap.size → ¬ s.X wo b → ¬ s.X ao5 b := fun b hb hx h => by
          rcases h with h | h | h
          · exact hx (.inl h)
          · exact hx (.inr (.inl h))
          · rcases q3 b h with h' | h'
            · exact hx (.inr (.inr h'))
            · omega
        refine ⟨hkF, .inl ⟨hok, rfl, ao5, ?_, fun b hb => ?_⟩⟩
        · rw [eS, eW]
          refine ⟨⟨cap5, ?_, q1.keeps hkF5 (fun b hb h => ?_)⟩, hch.code.keeps hk1F (fun b hb h => ?_), hch.frees.keeps hk1F (fun b hb hne h => (hch.lf b hb (fun e => hne (by rw [e]; rfl))).1 h), ⟨putM V to _, H4.out.2.2.2.2.2.2.keeps hk3F (fun h => ?_), fun z hz => ?_, fun z f hz => ?_⟩, hch.cb, ⟨hmbl.1, by omega⟩, hch.ne, ⟨fun h => ?_, fun h => ?_⟩, fun b hb hne => ?_⟩
          · rw [← hF, setCell_row0 6 _ hrow5, List.length_append, List.length_singleton]
            rfl
          · subst h
            rcases q3 _ hb with h' | h'
            · exact hcwc.1 h'
            · omega
          · have := (hXl b h).1; omega
          · rcases h with h | h
            · exact hcne h.symm
            · exact hcwc.2 h
          · unfold putM
            simp only at hz ⊢
            split at hz
            · cases hz
            · rename_i hne
              rw [if_neg hne]
              exact HM.out.2.2.2.1 z hz
          · unfold putM
            simp only at hz ⊢
            split at hz
            · rename_i he
              cases hz
              rw [if_pos he]
              refine ⟨_, rfl, (HVV.out.keeps hkF (fun b hb h => hb.1 h)).mono (fun b hb => ⟨hno b (by have := hb.2.1; omega) hb.1, by have := hb.2.1; omega, hb.2.2⟩)⟩
            · rename_i hne
              rw [if_neg hne]
              obtain ⟨u, hu1, hu2⟩ := HM.out.2.2.2.2 z f hz
              exact ⟨u, hu1, (hu2.keeps hk1F (fun b hb h => hb.1 h)).mono (fun b hb => ⟨hno b hb.2.1 hb.1, by have := hb.2.1; omega, hb.2.2⟩)⟩
          · rcases q3 _ h with h' | h'
            · exact hcwc.1 h'
            · omega
          · rcases q3 _ h with h' | h'
            · exact hcwc.2 h'
            · omega
          · have := hch.lf b hb hne
            exact ⟨hno b this.2.1 this.1, by have := this.2.1; omega, this.2.2⟩
        · rcases q3 b hb with h | h
          · exact .inl h
          · exact .inr (by omega)
      | some g' =>
        obtain ⟨u, hVu, hfu⟩ := hVs to g' hS
        have HFU := Lib.hid hfu
        obtain ⟨po, pcap, rfl, u2, u3, u4, u5⟩ := hfu
        have HM := Lib.hid (And.intro hm (And.intro hVu hS))
        have hgl' := HSl.out to g' hS
        obtain ⟨W2, hW2⟩ : ∃ W2, W1.alloc (.cells #[.int .i64 (g'.fn : Int), .int .i64 g'.h, .slice po g'.op.length pcap] 87) = W2 := ⟨_, rfl⟩
        have hb12 : Below W1.heap.size W1 W2 := by rw [← hW2]; exact (Below.refl _ W1).alloc (Nat.le_refl _) _
        have hfc : FrCell W2 W1.heap.size g'.fn g'.h po g'.op.length pcap := by rw [← hW2]; exact FrCell.new W1 _ _ _ _ _
        have hfc1 := H1.out.2.1.below hb12
        have hbw2 : Below w.heap.size w W2 := H1.out.1.trans (hb12.mono H1.out.1.size)
        have HS := Lib.hid (And.intro (fsame_any g g' _ _ (fun b => True) hgl hgl' W2 ((HVV.out.below hbw2).mono (fun _ _ => trivial)) ((HFU.out.below hb12).mono (fun _ _ => trivial))) (And.intro hb12 hbw2))
        obtain ⟨k0, k1, k2⟩ := hfc
        obtain ⟨j0, j1, j2⟩ := hfc1
        clear hm hVn hVs hVu u2 u3 u4 u5 hb12 f0 f1 f2 c0 hbw2
        go_wp2_with (at_lookup; refine op_lookup (mty := 54) (kt := 3) (et := 87) rfl _ _ rfl (by kernel_rfl) (by kernel_rfl) s.mb V HM.out.1 to _ (zeroFr _) rfl rfl ?_; rw [HM.out.2.1, Option.getD_some, Option.isSome_some])
        refine HS.out.1.mono ?_
        rintro e w3 ⟨rfl, hb3⟩
        have H3 := Lib.hid (And.intro hb3 (HS.out.2.1.trans (hb3.mono HS.out.2.1.size)))
        clear hb3 hW2 k0 k1 k2 j0 j1 j2
        go_wp2_with fail
        by_cases hgg : g = g'
        · subst hgg
          rw [decide_eq_true rfl]
          refine (need_any true w3).mono ?_
          rintro e w4 ⟨hn, rfl⟩
          obtain ⟨_, rfl⟩ : True ∧ e = .returned (.tuple #[]) := by
            rcases hn with ⟨_, h⟩ | ⟨h, _⟩
            · exact ⟨trivial, h⟩
            · cases h
          clear hn
          go_wp2_with fail
          refine bodyPost_ret (results_none rfl _ _ _) rfl ?_
          have hok : comeOk c S to g = true := decide_eq_true ⟨hin.1, hin.2, hh, .inr HM.out.2.2⟩
          have eS : comeS S to g = S := by unfold comeS; rw [if_neg (by rw [HM.out.2.2]; simp)]
          have eW : comeW S W to = W := by unfold comeW; rw [if_neg (by rw [HM.out.2.2]; simp)]
          refine ⟨HK1.out.trans' (Keeps.of_below H3.out.2), .inl ⟨hok, rfl, wo, ?_, fun b hb => .inl hb⟩⟩
          rw [eS, eW]
          exact H1.out.2.2.2.below H3.out.2
        · rw [decide_eq_false hgg]
          refine (need_any false w3).mono ?_
          rintro e w4 ⟨hn, rfl⟩
          obtain ⟨_, rfl⟩ : True ∧ e = .panicked [disP] := by
            rcases hn with ⟨h, _⟩ | ⟨_, h⟩
            · cases h
            · exact ⟨trivial, h⟩
          clear hn
          go_wp2_with fail
          have hok : comeOk c S to g = false := decide_eq_false (fun h => by
            rcases h.2.2.2 with h | h
            · rw [HM.out.2.2] at h; cases h
            · rw [HM.out.2.2] at h; cases h; exact hgg rfl)
          exact ⟨rfl, HK1.out.trans' (Keeps.of_below H3.out.2), .inr ⟨hok, rfl⟩⟩
    · have hd1 : decide (g.h ≤ 10000) = false := decide_eq_false hh
      have hd2 : decide (10000 < g.h) = true := decide_eq_true (by omega)
      go_enter Tryd.func32, Tryd.ntmps32
      go_wp2_with fail
      clear hW1
      refine (within_any to 0 ((c.ins.length : Int) - 1) W1).mono ?_
      rintro e w2 ⟨rfl, rfl⟩
      rw [hbt]
      go_wp2_with fail
      refine (need_any false W1).mono ?_
      rintro e w2 ⟨hn, rfl⟩
      obtain ⟨_, rfl⟩ : True ∧ e = .panicked [disP] := by
        rcases hn with ⟨h, _⟩ | ⟨_, h⟩
        · cases h
        · exact ⟨trivial, h⟩
      clear hn
      go_wp2_with fail
      exact ⟨rfl, HK1.out, .inr ⟨decide_eq_false (fun h => by have := h.2.2.1; omega), rfl⟩⟩
  · have hbt : betw to 0 ((c.ins.length : Int) - 1) = false := decide_eq_false (fun h => hin ⟨h.1, by omega⟩)
    go_enter Tryd.func32, Tryd.ntmps32
    go_wp2_with fail
    clear hW1
    refine (within_any to 0 ((c.ins.length : Int) - 1) W1).mono ?_
    rintro e w2 ⟨rfl, rfl⟩
    rw [hbt]
    go_wp2_with fail
    refine (need_any false W1).mono ?_
    rintro e w2 ⟨hn, rfl⟩
    obtain ⟨_, rfl⟩ : True ∧ e = .panicked [disP] := by
      rcases hn with ⟨h, _⟩ | ⟨_, h⟩
      · cases h
      · exact ⟨trivial, h⟩
    clear hn
    go_wp2_with fail
    exact ⟨rfl, HK1.out, .inr ⟨decide_eq_false (fun h => by have := h.1; have := h.2.1; omega), rfl⟩⟩
end Go.Proofs.YtnhdefaagicejaaDoor
