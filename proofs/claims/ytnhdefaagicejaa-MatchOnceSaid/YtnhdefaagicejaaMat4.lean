/- The walk of match's take: a row, when a test held at a place. -/
import Derived.Test.YtnhdefaagicejaaMat3
import Derived.Test.YtnhdefaagicejaaRegK
namespace Go.Proofs.Ytnhdefaagicejaa
set_option linter.unusedSimpArgs false
set_option linter.unusedVariables false
open Go.RowKit

theorem seq_ldPat1 {o : Oper} {x : Operand} {a : Act} {w : World} (ho : o.op = .load 50 x) {g : Nat} {k m : Int} {t : List UInt8} {ao : Option Addr} {n cap : Nat} (hx : a.eval x = .pointer (some ⟨g, 1, none⟩)) (hc : w.cell? ⟨g, 1, none⟩ = some (.int .i64 k) ∧ w.cell? ⟨g, 2, none⟩ = some (.int .i64 m) ∧ w.cell? ⟨g, 3, none⟩ = some (.string ⟨t.toArray⟩) ∧ w.cell? ⟨g, 4, none⟩ = some (.slice ao n cap)) :
    ∀ w', Below w.heap.size w w' → (execOp a.eval o).run Try.prog w' = .ok (.value (patV k m t ao n cap)) w' := by
  intro w' hb
  obtain ⟨c0, c1, c2, c3⟩ := hc
  have hl : g < w.heap.size := World.block_lt_of_cell? (a := ⟨g, 1, none⟩) w c0
  have d0 : w'.cell? ⟨g, 1, none⟩ = _ := (World.cell?_of_block (a := ⟨g, 1, none⟩) (hb.block g hl)).trans c0
  have d1 : w'.cell? ⟨g, 2, none⟩ = _ := (World.cell?_of_block (a := ⟨g, 2, none⟩) (hb.block g hl)).trans c1
  have d2 : w'.cell? ⟨g, 3, none⟩ = _ := (World.cell?_of_block (a := ⟨g, 3, none⟩) (hb.block g hl)).trans c2
  have d3 : w'.cell? ⟨g, 4, none⟩ = _ := (World.cell?_of_block (a := ⟨g, 4, none⟩) (hb.block g hl)).trans c3
  have hu := Try.underlying50
  unfold execOp patV
  simp only [ho, hx]
  go_simp
theorem seq_ldCs {o : Oper} {x : Operand} {a : Act} {w : World} (ho : o.op = .load 60 x) {ad : Addr} {v : Value} (hx : a.eval x = .pointer (some ad)) (hc : w.cell? ad = some v) :
    ∀ w', Below w.heap.size w w' → (execOp a.eval o).run Try.prog w' = .ok (.value v) w' := by
  intro w' hb
  have hc' : w'.cell? ad = some v := (World.cell?_of_block (hb.block ad.block (World.block_lt_of_cell? (a := ad) w hc))).trans hc
  have hu := Try.underlying60
  unfold execOp
  simp only [ho, hx]
  go_simp
theorem clonePath_any {w : World} {D : Nat → Prop} {v : Value} {path : List Nat} (hp : PathIn w D v path) (hl : path.length ≤ 900000000) :
    Calls Try.prog 16 #[v] w (fun e w' => ∃ ao cap, e = .returned (.slice ao path.length cap) ∧ w'.ownsRow w.heap.size 3 1 (.slice ao path.length cap) path.length (natsV path) ∧ Below w.heap.size w w') := by
  obtain ⟨po, pcap, rfl, _, _, h1, _⟩ := hp
  rw [natsV_ints] at h1
  have h := cloneI_any po (path.map fun (i : Nat) => (i : Int)) pcap (by rw [List.length_map]; exact hl) w h1
  simp only [List.length_map, ← natsV_ints] at h
  exact h
theorem wp_path {w : World} {o : Oper} {a : Act} {K : Act → World → Prop} {Q : Exit → Act → World → Prop} (s x : Operand)
    (ho : o.op = .call { callee := .builtin .append, args := #[s, x], argTypes := #[25, 25] })
    (base : Nat) (ao : Option Addr) (cap : Nat) (path : List Nat) (hs : a.eval s = .slice ao path.length cap) (hown : w.ownsRow base 3 1 (.slice ao path.length cap) path.length (natsV path))
    (g : Nat) (hx : a.eval x = .slice (some ⟨g, 0, none⟩) 1 1) (i : Nat) (hat : At w (some ⟨g, 0, none⟩) [.int .i64 (i : Int)])
    (hb : path.length ≤ 900000000) (hbase : base ≤ w.heap.size)
    (h : ∀ ao' cap' w', w'.ownsRow base 3 1 (.slice ao' (path ++ [i]).length cap') (path ++ [i]).length (natsV (path ++ [i])) → w.grownBy w' (blk ao) → (blk ao' = blk ao ∨ blk ao' = some w.heap.size) → K (a.put o.dst (.slice ao' (path ++ [i]).length cap')) w') : o.wp Try.prog a w K Q := by
  rw [natsV_ints] at hown
  refine wp_ints s x ho base ao cap _ _ hs hown _ 1 1 [(i : Int)] hx hat rfl (by omega) hbase fun ao' cap' w' h1 h2 h3 => ?_
  have e : (path ++ [i]).length = path.length + 1 := by simp
  rw [show (path.map fun (i : Nat) => (i : Int)) ++ [(i : Int)] = (path ++ [i]).map fun (i : Nat) => (i : Int) by simp, ← natsV_ints, ← e] at h1
  have := h ao' cap' w' h1 h2 h3
  rw [e] at this
  exact this
theorem PathIn.of_own {w : World} {base : Nat} {D : Nat → Prop} {ao : Option Addr} {cap : Nat} {p : List Nat} (h : w.ownsRow base 3 1 (.slice ao p.length cap) p.length (natsV p)) (hD : ∀ b, blk ao = some b → D b) : PathIn w D (.slice ao p.length cap) p := by
  have hlt := h.lt
  have hc : p.length ≤ cap ∧ cap ≤ 9223372036854775807 := by
    rcases h.2 with ⟨e, _⟩ | ⟨g, cap', cur, hv, _, _, hnc, hcm, _⟩
    · obtain ⟨_, h0, hc⟩ := Value.slice.inj e
      omega
    · cases hv
      unfold maxLen at hcm
      exact ⟨hnc, by omega⟩
  exact ⟨ao, cap, rfl, hc.1, hc.2, At.own h, fun _ b hb => ⟨hD b hb, (hlt b (by rw [own_slice]; exact hb)).2⟩⟩
theorem kidCells_snoc (path : List Nat) (k : PV) : ∀ (ks : List PV) (i : Nat), kidCells path i (ks ++ [k]) = kidCells path i ks ++ (if openP k then [] else [⟨path ++ [i + ks.length], k⟩])
  | [], i => by simp [kidCells]
  | x :: ks, i => by
    rw [List.cons_append, kidCells, kidCells_snoc path k ks (i + 1), kidCells, List.append_assoc, List.length_cons, show i + 1 + ks.length = i + (ks.length + 1) by omega]
theorem cells_le_size : ∀ cs : List CellM, cs.length ≤ sizeC cs
  | [] => Nat.zero_le _
  | c :: cs => by
    have := cells_le_size cs
    have := sizeV_pos c.p
    rw [List.length_cons, sizeC_cons]
    omega
theorem kids_le : ∀ ks : List PV, ks.length ≤ sizeVs ks
  | [] => Nat.zero_le _
  | k :: ks => by
    have := kids_le ks
    have := sizeV_pos k
    rw [List.length_cons, sizeVs]
    omega
theorem sizeVs_take : ∀ (ks : List PV) (j : Nat), sizeVs (ks.take j) ≤ sizeVs ks
  | [], _ => by simp
  | k :: ks, 0 => by simp [sizeVs]
  | k :: ks, j + 1 => by
    have := sizeVs_take ks j
    rw [List.take_succ_cons, sizeVs, sizeVs]
    omega
theorem results_take (tmps : Array Value) (W : World) (g : Nat) (num : Int) (co : Option Addr) (n cap : Nat) (z : Value) (hp : tmps[6]?.getD undef = .pointer (some ⟨g, 0, none⟩)) (hz : tmps[7]?.getD undef = z) (c0 : W.cell? ⟨g, 0, none⟩ = some (.int .i64 num)) (c1 : W.cell? ⟨g, 1, none⟩ = some (.slice co n cap)) :
    (results Try.f30 tmps).run Try.prog W = .ok (.tuple #[.agg #[.int .i64 num, .slice co n cap], z]) W := by
  have hu := Try.underlying63
  simp only [results, Try.results30]
  go_simp
/-- The blocks that a row that is being made reaches: those of D, and what is new but its own. -/
def DD (D : Nat → Prop) (W w : World) (ao : Option Addr) (b : Nat) : Prop := D b ∨ (W.heap.size ≤ b ∧ b < w.heap.size ∧ blk ao ≠ some b)
/-- A row that is being made, in the block g of the world W. -/
def TakeI (n : Nat) (D : Nat → Prop) (W : World) (g : Nat) (num : Int) (l : List CellM) (wr : World) : Prop :=
  ∃ ao cap, wr.heap[g]? = some (.cells #[.int .i64 num, .slice ao l.length cap] 63 (0, 0)) ∧ CellsOwn n wr W.heap.size (DD D W wr ao) ao cap l ∧ Keeps (fun b => b = g ∨ W.heap.size ≤ b) W wr
/-- What a call to take leaves. -/
def Takes (n : Nat) (w : World) (D : Nat → Prop) (r : RowM) (path : List Nat) (x : TestM) (e : Ending) (w' : World) : Prop :=
  Below w.heap.size w w' ∧ ((∃ l cv, takeC path x r.cells = some l ∧ e = .returned (.tuple #[.agg #[.int .i64 r.num, cv], .bool true]) ∧ CellsIn n w' (fun b => D b ∨ (w.heap.size ≤ b ∧ b < w'.heap.size)) cv l) ∨ (takeC path x r.cells = none ∧ e = .returned (.tuple #[.agg #[.int .i64 0, .slice none 0 0], .bool false])))
theorem four (w : World) (A B C E : Obj) : ((((w.alloc A).alloc B).alloc C).alloc E).heap.size = w.heap.size + 4 ∧ Below w.heap.size w ((((w.alloc A).alloc B).alloc C).alloc E) ∧ ((((w.alloc A).alloc B).alloc C).alloc E).heap[w.heap.size]? = some A ∧ ((((w.alloc A).alloc B).alloc C).alloc E).heap[w.heap.size + 1]? = some B ∧ ((((w.alloc A).alloc B).alloc C).alloc E).heap[w.heap.size + 2]? = some C ∧ ((((w.alloc A).alloc B).alloc C).alloc E).heap[w.heap.size + 3]? = some E := by
  refine ⟨by simp <;> omega, ((((Below.refl _ w).alloc (Nat.le_refl _) _).alloc (by simp) _).alloc (by simp; omega) _).alloc (by simp; omega) _, ?_, ?_, ?_, ?_⟩
  · rw [Below.heap_alloc _ _ _ (by simp <;> omega), Below.heap_alloc _ _ _ (by simp <;> omega), Below.heap_alloc _ _ _ (by simp)]
    exact heap_alloc_new w _
  · rw [Below.heap_alloc _ _ _ (by simp <;> omega), Below.heap_alloc _ _ _ (by simp)]
    have := heap_alloc_new (w.alloc A) B
    simp only [World.size_alloc] at this
    exact this
  · rw [Below.heap_alloc _ _ _ (by simp)]
    have := heap_alloc_new ((w.alloc A).alloc B) C
    simp only [World.size_alloc] at this
    exact this
  · have := heap_alloc_new (((w.alloc A).alloc B).alloc C) E
    simp only [World.size_alloc] at this
    exact this
theorem take_step {n : Nat} {D : Nat → Prop} {W wr w2 wa w4 : World} {g : Nat} {num : Int} {l : List CellM} {c : CellM} {ao ao4 : Option Addr} {cap cap4 m : Nat}
    (hr : w2.heap[g + 3]? = some (.cells #[.int .i64 num, .slice ao m cap] 63 (0, 0))) (hk : Keeps (fun b => b = g + 3 ∨ W.heap.size ≤ b) W w2) (hs : W.heap.size = g + 4) (hao : ∀ j, blk ao = some j → W.heap.size ≤ j ∧ j < wr.heap.size) (hba : Below w2.heap.size w2 wa) (hs2 : wr.heap.size ≤ w2.heap.size) (hDg : ∀ b, D b → b < g)
    (q1 : CellsOwn n w4 W.heap.size (DD D W wr ao) ao4 cap4 (l ++ [c])) (q2 : Keeps (fun i => blk ao = some i) wa w4) (q3 : ∀ j, blk ao4 = some j → blk ao = some j ∨ j = wa.heap.size) :
    w4.cell? ⟨g + 3, 1, none⟩ = some (.slice ao m cap) ∧ w4.frozen? ⟨g + 3, 1, none⟩ = false ∧ TakeI n D W (g + 3) num (l ++ [c]) (w4.setCell ⟨g + 3, 1, none⟩ (.slice ao4 (l ++ [c]).length cap4)) := by
  have hsa := hba.size
  have hs4 := q2.size
  have hsk := hk.size
  have hk24 : Keeps (fun i => blk ao = some i) w2 w4 := (Keeps.of_below hba).trans' q2
  have hr4 : w4.heap[g + 3]? = _ := (hk24.block (g + 3) (by omega) (fun h => by have := (hao _ h).1; omega)).trans hr
  have hk6 : Keeps (fun b => b = g + 3) w4 (w4.setCell ⟨g + 3, 1, none⟩ (.slice ao4 (l ++ [c]).length cap4)) := Keeps.of_grown (setCell_grown0 _ _ _ _) rfl
  have hlt4 := q1.lt
  refine ⟨cell_of_row _ _ 1 _ _ (0, 0) hr4, frozen_of_row w4 (g + 3) 1 _ _ hr4, ao4, cap4, ?_, ?_, (hk.trans' (hk24.mono (fun b _ h => .inr (hao b h).1))).trans' (hk6.mono (fun _ _ h => .inl h))⟩
  · rw [setCell_row0 1 _ hr4]
    rfl
  · refine (q1.keeps (elemC n) hk6 (fun b hb h => ?_) (fun j hj h => by have := (hlt4 j hj).1; omega)).grow (elemC n) (Nat.le_refl _) (fun b hb => ?_) (fun j hj hd => ?_)
    · rcases hb with hb | hb
      · have := hDg b hb; omega
      · omega
    · rcases hb with hb | hb
      · exact .inl hb
      · refine .inr ⟨hb.1, by have := hk6.size; omega, fun h => ?_⟩
        exact q1.2 b h (.inr hb)
    · rcases hd with hd | hd
      · exact q1.2 j hj (.inl hd)
      · exact hd.2.2 hj
theorem TakeI.below {n : Nat} {D : Nat → Prop} {W wr w' : World} {g : Nat} {num : Int} {l : List CellM} (h : TakeI n D W g num l wr) (hg : g < wr.heap.size) (hb : Below wr.heap.size wr w') : TakeI n D W g num l w' := by
  obtain ⟨ao, cap, h1, h2, h3⟩ := h
  have hlt := h2.lt
  have hs := hb.size
  refine ⟨ao, cap, (hb.block g hg).trans h1, (h2.below (elemC n) hb).grow (elemC n) (Nat.le_refl _) (fun b hd => ?_) (fun j hj hd => ?_), h3.trans' (Keeps.of_below hb)⟩
  · rcases hd with hd | hd
    · exact .inl hd
    · exact .inr ⟨hd.1, by omega, hd.2.2⟩
  · rcases hd with hd | hd
    · exact h2.2 j hj (.inl hd)
    · exact hd.2.2 hj
theorem kid_step {n : Nat} {D : Nat → Prop} {W wj wa w3 : World} {g : Nat} {num : Int} {l2 l4 : List CellM} {ao2 ao4 : Option Addr} {cap2 cap4 : Nat}
    (hr : wj.heap[g]? = some (.cells #[.int .i64 num, .slice ao2 l2.length cap2] 63 (0, 0))) (hk : Keeps (fun b => b = g ∨ W.heap.size ≤ b) W wj) (hg : g < W.heap.size) (hDg : ∀ b, D b → b < g)
    (hba : Below wj.heap.size wj wa) (own : CellsOwn n w3 W.heap.size (DD D W wa ao2) ao4 cap4 l4) (hb3 : Below wa.heap.size wa w3) :
    w3.cell? ⟨g, 1, none⟩ = some (.slice ao2 l2.length cap2) ∧ w3.frozen? ⟨g, 1, none⟩ = false ∧ TakeI n D W g num l4 (w3.setCell ⟨g, 1, none⟩ (.slice ao4 l4.length cap4)) ∧ Keeps (fun b => b = g) wj (w3.setCell ⟨g, 1, none⟩ (.slice ao4 l4.length cap4)) := by
  have hsa := hba.size
  have hs3 := hb3.size
  have hsk := hk.size
  have hb13 : Below wj.heap.size wj w3 := hba.trans (hb3.mono hsa)
  have hr3 : w3.heap[g]? = _ := (hb13.block g (by omega)).trans hr
  have hk6 : Keeps (fun b => b = g) w3 (w3.setCell ⟨g, 1, none⟩ (.slice ao4 l4.length cap4)) := Keeps.of_grown (setCell_grown0 _ _ _ _) rfl
  have hkj : Keeps (fun b => b = g) wj (w3.setCell ⟨g, 1, none⟩ (.slice ao4 l4.length cap4)) := (Keeps.of_below hb13).trans' hk6
  have hlt4 := own.lt
  refine ⟨cell_of_row _ _ 1 _ _ (0, 0) hr3, frozen_of_row w3 g 1 _ _ hr3, ⟨ao4, cap4, ?_, ?_, hk.trans' (hkj.mono fun _ _ h => .inl h)⟩, hkj⟩
  · rw [setCell_row0 1 _ hr3]
    rfl
  · refine (own.keeps (elemC n) hk6 (fun b hb h => ?_) (fun j hj h => by have := (hlt4 j hj).1; omega)).grow (elemC n) (Nat.le_refl _) (fun b hb => ?_) (fun j hj hd => ?_)
    · rcases hb with hb | hb
      · have := hDg b hb; omega
      · omega
    · rcases hb with hb | hb
      · exact .inl hb
      · exact .inr ⟨hb.1, by have := hk6.size; omega, fun h => own.2 b h (.inr hb)⟩
    · rcases hd with hd | hd
      · exact own.2 j hj (.inl hd)
      · exact hd.2.2 hj
theorem takeC_none_of {path : List Nat} {x : TestM} : ∀ {cs : List CellM} {i : Nat}, takeC path x (cs.take i) = none → takeC path x cs = none
  | [], i, h => by simpa using h
  | c :: cs, 0, h => by simp [takeC] at h
  | c :: cs, i + 1, h => by
    rw [List.take_succ_cons, takeC] at h
    rw [takeC]
    cases h1 : cellC path x c with
    | none => rfl
    | some a =>
      cases h2 : takeC path x (cs.take i) with
      | none => rw [takeC_none_of h2]
      | some b => rw [h1, h2] at h; cases h
set_option maxRecDepth 100000 in
set_option maxHeartbeats 8000000 in
theorem take_any {n : Nat} {w : World} {D : Nat → Prop} {r : RowM} {co : Option Addr} {ccap : Nat} (hc : InL 5 (CellIn n) w D co r.cells) (hD : ∀ b, D b → b < w.heap.size) (hl : sizeC r.cells ≤ 100000) (hpl : ∀ c ∈ r.cells, c.path.length + sizeV c.p ≤ 100000)
    {path : List Nat} {po : Option Addr} {pcap : Nat} (hp : PathIn w D (.slice po path.length pcap) path) (hpl2 : path.length ≤ 100000) (x : TestM) (xo : Option Addr) (xcap : Nat) :
    Calls Try.prog 30 #[.agg #[.int .i64 r.num, .slice co r.cells.length ccap], .slice po path.length pcap, patV x.op x.num x.text xo x.n xcap] w (Takes n w D r path x) := by
  unfold patV
  obtain ⟨g, hg⟩ : ∃ g, w.heap.size = g := ⟨_, rfl⟩
  obtain ⟨W, hW⟩ : ∃ W, (((w.alloc (.cells #[.int .i64 r.num, .slice co r.cells.length ccap] 63)).alloc (.cells #[.int .i64 x.op, .int .i64 x.num, .string ⟨x.text.toArray⟩, .slice xo x.n xcap] 50)).alloc (.cells #[.int .i64 0, .slice none 0 0] 63)).alloc (.cells #[.int .i64 r.num, .slice none 0 0] 63) = W := ⟨_, rfl⟩
  have h4 := four w (.cells #[.int .i64 r.num, .slice co r.cells.length ccap] 63) (.cells #[.int .i64 x.op, .int .i64 x.num, .string ⟨x.text.toArray⟩, .slice xo x.n xcap] 50) (.cells #[.int .i64 0, .slice none 0 0] 63) (.cells #[.int .i64 r.num, .slice none 0 0] 63)
  rw [hW] at h4
  rw [hg] at h4
  have H := Lib.hid (And.intro h4 (And.intro (hc.below (elemC _) (by rw [hg]; exact h4.2.1)) (And.intro (hp.below (by rw [hg]; exact h4.2.1)) (And.intro (show ∀ b, D b → b < g by rw [← hg]; exact hD) (And.intro hpl (And.intro hl (And.intro hg hW)))))))
  have hcl : r.cells.length ≤ 100000 := Nat.le_trans (cells_le_size _) hl
  clear h4 hc hp hD hpl hl hg hW
  go_enter Try.func30, Try.ntmps30
  go_upto_block 0 with (fail)
  rw [H.out.2.2.2.2.2.2.2, H.out.2.2.2.2.2.2.1]
  have k1 : W.cell? ⟨g, 1, none⟩ = some (.slice co r.cells.length ccap) := cell_of_row _ _ 1 _ _ (0, 0) H.out.1.2.2.1
  clear k1
  go_wp2_with fail
  go_loopw [19] (fun v19 wr => ∃ (i : Nat) (l : List CellM), i ≤ r.cells.length ∧ v19 = .int .i64 (i : Int) ∧ takeC path x (r.cells.take i) = some l ∧ TakeI n D W (g + 3) r.num l wr) (fun v19 _ => r.cells.length - (intOf v19).toNat)
  case atStart => exact ⟨0, [], by omega, rfl, rfl, none, 0, H.out.1.2.2.2.2.2, OwnL.nil _ _ _, Keeps.refl _ _⟩
  case round =>
    obtain ⟨i, l, hi, rfl, htk, hI⟩ := hrel
    have HMM := Lib.hid hI
    obtain ⟨ao, cap, hr, hown, hk⟩ := hI
    have hs4 := H.out.1.1
    have hsk := hk.size
    have hao := hown.lt
    have hcw : InL 5 (CellIn n) wr D co r.cells := H.out.2.1.keeps (elemC _) hk (fun b hb h => by have := H.out.2.2.2.1 b hb; omega)
    have hpw : PathIn wr D (.slice po path.length pcap) path := H.out.2.2.1.keeps hk (fun b hb h => by have := H.out.2.2.2.1 b hb; omega)
    have hll : l.length ≤ 100000 := by
      have h1 := (takeC_size htk).1
      have h2 : sizeC (r.cells.take i) ≤ sizeC r.cells := by
        conv => rhs; rw [← List.take_append_drop i r.cells, sizeC_append]
        omega
      have h3 := cells_le_size l
      have := H.out.2.2.2.2.2.1
      omega
    have HM := Lib.hid (And.intro hr (And.intro hown (And.intro hk (And.intro hao (And.intro hpw htk)))))
    by_cases hlt : i < r.cells.length
    · have hd1 : decide ((i : Int) < (r.cells.length : Int)) = true := decide_eq_true (by omega)
      cases n with
      | zero =>
        obtain ⟨_, _, _, _, ⟨_, _, _, _, hv⟩, _⟩ := hcw.get (elemC _) (by decide) i hlt
        exact hv.elim
      | succ n' =>
      obtain ⟨b, o, pv, k, m, t, kao, ks, kcap, rfl, hx, hpi, hv, c0, c1, c2, c3, c4, hblt, hDb⟩ := CellsIn.cells (len := 0) (ccap := 0) hcw i hlt
      obtain ⟨cp, hcp⟩ : ∃ cp, r.cells[i].path = cp := ⟨_, rfl⟩
      rw [hcp] at hpi
      obtain ⟨qo, qcap, hpv, hq1, hq2, hq3, hq4⟩ := id hpi
      subst hpv
      have hbA : Below wr.heap.size wr (wr.alloc (.cells #[.slice qo cp.length qcap, .int .i64 k, .int .i64 m, .string ⟨t.toArray⟩, .slice kao ks.length kcap] 71)) := (Below.refl _ _).alloc (Nat.le_refl _) _
      have hrowA : (wr.alloc (.cells #[.slice qo cp.length qcap, .int .i64 k, .int .i64 m, .string ⟨t.toArray⟩, .slice kao ks.length kcap] 71)).heap[wr.heap.size]? = some (.cells #[.slice qo cp.length qcap, .int .i64 k, .int .i64 m, .string ⟨t.toArray⟩, .slice kao ks.length kcap] 71 (0, 0)) := heap_alloc_new wr _
      have hcpl : cp.length + sizeV (.mk k m t ks) ≤ 100000 := by rw [← hx, ← hcp]; exact H.out.2.2.2.2.1 _ (List.getElem_mem hlt)
      have heq := equalP_any (hpi.below hbA) (hpw.below hbA) (by omega)
      have hone : takeC path x (r.cells.take (i + 1)) = match takeC path x (r.cells.take i), cellC path x ⟨cp, .mk k m t ks⟩ with
        | some a, some b => some (a ++ b)
        | _, _ => none := by
        rw [List.take_succ_eq_append_getElem hlt, takeC_snoc]
        rw [show r.cells[i] = ⟨cp, .mk k m t ks⟩ by rw [← hcp, ← hx]]
        rfl
      have HX := Lib.hid (And.intro heq (And.intro hone (And.intro hv (And.intro hbA (And.intro hrowA (And.intro hpi hcpl))))))
      clear hr hown hk hao hcw hpw htk hx hcp hpi hq1 hq2 hq3 hq4 hv heq hbA hrowA hone
      go_wp2_with fail
      refine HX.out.1.mono ?_
      rintro e w2 ⟨rfl, hb2⟩
      have hbr2 : Below wr.heap.size wr w2 := HX.out.2.2.2.1.trans (hb2.mono HX.out.2.2.2.1.size)
      have hrow2 : w2.heap[wr.heap.size]? = _ := (hb2.block wr.heap.size (by simp)).trans HX.out.2.2.2.2.1
      have hg2 : w2.heap[g + 3]? = _ := (hbr2.block (g + 3) (by omega)).trans HM.out.1
      have hs2 := hbr2.size
      have d0 : w2.cell? ⟨wr.heap.size, 0, none⟩ = some (.slice qo cp.length qcap) := cell_of_row _ _ 0 _ _ (0, 0) hrow2
      have d1 : w2.cell? ⟨wr.heap.size, 1, none⟩ = some (.int .i64 k) := cell_of_row _ _ 1 _ _ (0, 0) hrow2
      have d2 : w2.cell? ⟨wr.heap.size, 2, none⟩ = some (.int .i64 m) := cell_of_row _ _ 2 _ _ (0, 0) hrow2
      have d3 : w2.cell? ⟨wr.heap.size, 3, none⟩ = some (.string ⟨t.toArray⟩) := cell_of_row _ _ 3 _ _ (0, 0) hrow2
      have d4 : w2.cell? ⟨wr.heap.size, 4, none⟩ = some (.slice kao ks.length kcap) := cell_of_row _ _ 4 _ _ (0, 0) hrow2
      have e1 : w2.cell? ⟨g + 3, 1, none⟩ = some (.slice ao l.length cap) := cell_of_row _ _ 1 _ _ (0, 0) hg2
      have hk2 : Keeps (fun b => b = g + 3 ∨ W.heap.size ≤ b) W w2 := HM.out.2.2.1.trans' (Keeps.of_below hbr2)
      have hown2 : CellsOwn (n' + 1) w2 W.heap.size (DD D W wr ao) ao cap l := HM.out.2.1.below (elemC _) hbr2
      have HG2 := Lib.hid (And.intro hg2 (And.intro hk2 (And.intro hown2 (And.intro hbr2 (And.intro hrow2 hb2)))))
      clear c0 c1 c2 c3 c4 hb2 hbr2 hrow2 hg2 hk2 hown2
      by_cases heq : cp = path
      · rw [decide_eq_true heq]
        subst heq
        obtain ⟨wo, hwo⟩ : ∃ wo : World, wo = wr := ⟨_, rfl⟩
        subst hwo
        have hkl : ks.length ≤ 100000 := by have := kids_le ks; have := sizeV_kids (.mk k m t ks); simp only [PV.kids] at this; have := HX.out.2.2.2.2.2.2; omega
        have HPX := Lib.hid (show PatAt w2 (g + 1) x.op x.num x.text xo x.n xcap from PatAt.row ((HG2.out.2.1.block (g + 1) (by omega) (by omega)).trans H.out.1.2.2.2.1))
        have HRT := Lib.hid (show w2.heap[g + 2]? = _ from (HG2.out.2.1.block (g + 2) (by omega) (by omega)).trans H.out.1.2.2.2.2.1)
        obtain ⟨y, hy⟩ : ∃ y, testK k m t ks.length = y := ⟨_, rfl⟩
        have ht := test_any k m t kao ks.length kcap (by omega)
        rw [hy] at ht
        have HT := Lib.hid ht
        have HY := Lib.hid hy
        clear ht hy e1
        go_wp2_with fail
        refine seq_start (by kernel_rfl) ?_
        refine seq_take 0 (v := ?_) rfl (by kernel_rfl) (fun _ _ _ h => h) (by rfl) (fun w' hw' => ?_) ?_
        rotate_left
        · go_simp; try with_reducible rfl
        try simp only [List.getElem_toArray, List.getElem_cons_succ, List.getElem_cons_zero, Act.put, List.setIfInBounds_toArray, List.set_cons_zero, List.set_cons_succ]
        refine seq_take 1 rfl (by kernel_rfl) (fun _ _ _ h => h) (by rfl) (seq_ldPat1 rfl rfl (⟨d1, d2, d3, d4⟩)) ?_
        try simp only [List.getElem_toArray, List.getElem_cons_succ, List.getElem_cons_zero, Act.put, List.setIfInBounds_toArray, List.set_cons_zero, List.set_cons_succ]
        refine seq_take 3 rfl (by kernel_rfl) (fun _ _ _ h => h) (by rfl) (seq_ldPat rfl rfl (HPX.out)) ?_
        try simp only [List.getElem_toArray, List.getElem_cons_succ, List.getElem_cons_zero, Act.put, List.setIfInBounds_toArray, List.set_cons_zero, List.set_cons_succ]
        refine seq_run 2 rfl (by kernel_rfl) (by rfl) (fun KK hKK => ?_)
        go_wp2_with fail
        refine (HT.out _).mono ?_
        rintro e w3 ⟨⟨ko3, kc3, rfl⟩, hb3⟩
        have HB3 := Lib.hid hb3
        clear hb3
        go_wp2_with fail
        refine ⟨HB3.out, ?_⟩
        refine seq_run 4 rfl (by kernel_rfl) (by rfl) (fun KK hKK => ?_)
        go_wp2_with fail
        refine (same_any y x _ _ _ _ _).mono ?_
        rintro e w4 ⟨rfl, hb4⟩
        have HB4 := Lib.hid hb4
        clear hb4
        go_wp2_with fail
        refine ⟨HB4.out, ?_⟩
        refine seq_take 5 (v := ?_) rfl (by kernel_rfl) (fun _ _ _ h => h) (by rfl) (fun w' hw' => ?_) ?_
        rotate_left
        · go_simp; try with_reducible rfl
        try simp only [List.getElem_toArray, List.getElem_cons_succ, List.getElem_cons_zero, Act.put, List.setIfInBounds_toArray, List.set_cons_zero, List.set_cons_succ]
        refine seq_done (by kernel_rfl) ?_
        obtain ⟨W5, hW5⟩ : ∃ W5, w4 = W5 := ⟨_, rfl⟩
        have hb5 : Below w2.heap.size w2 W5 := by
          rw [← hW5]
          exact ((Below.refl _ w2).drew.trans (HB3.out.mono (by simp))).trans (HB4.out.mono (by have := HB3.out.size; simp at this ⊢; omega))
        rw [hW5]
        have HB5 := Lib.hid hb5
        clear hW5
        have hrow5 : W5.heap[wo.heap.size]? = _ := (hb5.block wo.heap.size (World.block_lt_of_cell? (a := ⟨wo.heap.size, 0, none⟩) w2 d0)).trans HG2.out.2.2.2.2.1
        have f1 : W5.cell? ⟨wo.heap.size, 1, none⟩ = some (.int .i64 k) := cell_of_row _ _ 1 _ _ (0, 0) hrow5
        have f4 : W5.cell? ⟨wo.heap.size, 4, none⟩ = some (.slice kao ks.length kcap) := cell_of_row _ _ 4 _ _ (0, 0) hrow5
        have hb05 : Below wo.heap.size wo W5 := HG2.out.2.2.2.1.trans (hb5.mono hs2)
        have HI5 := Lib.hid (HMM.out.below (by omega) hb05)
        have HR5 := Lib.hid (And.intro ((hb5.block (g + 2) (by have := HG2.out.2.1.size; omega)).trans HRT.out) (And.intro hb05 (show g + 4 ≤ W5.heap.size by have := HG2.out.2.1.size; have := hb5.size; omega)))
        clear d0 d1 d2 d3 d4 hrow5 hb5 hb05
        by_cases hyx : y = x
        · rw [decide_eq_true hyx, Bool.not_true]
          have HYX := Lib.hid (show testP (.mk k m t ks) = x from (testP_mk k m t ks).trans (HY.out.trans hyx))
          clear hyx
          by_cases h5 : 5 ≤ k
          · have hd5 : decide (5 ≤ k) = true := decide_eq_true h5
            have HC := Lib.hid (show takeC cp x (r.cells.take (i + 1)) = some (l ++ kidCells cp 0 ks) by rw [HX.out.2.1, HM.out.2.2.2.2.2]; unfold cellC; simp only [if_true]; rw [if_pos HYX.out, if_pos (show 5 ≤ (PV.mk k m t ks).kind from h5)]; rfl)
            clear h5
            go_wp2_with fail
            go_loopw [49] (fun v49 wj => ∃ j : Nat, j ≤ ks.length ∧ v49 = .int .i64 (j : Int) ∧ TakeI (n' + 1) D W (g + 3) r.num (l ++ kidCells cp 0 (ks.take j)) wj ∧ Keeps (fun b => b = g + 3) W5 wj) (fun v49 _ => ks.length - (intOf v49).toNat)
            case atStart => exact ⟨0, by omega, rfl, by simpa [kidCells] using HI5.out, Keeps.refl _ _⟩
            case round =>
              obtain ⟨j, hj, rfl, hIj, hkj⟩ := hrel
              have HIJ := Lib.hid (And.intro hIj hkj)
              obtain ⟨l2, hl2⟩ : ∃ l2, l ++ kidCells cp 0 (ks.take j) = l2 := ⟨_, rfl⟩
              rw [hl2] at hIj
              obtain ⟨ao2, cap2, hr2, hown2, hk2⟩ := hIj
              have hsj := hk2.size
              have hs5 := hkj.size
              by_cases hjl : j < ks.length
              · have hdj : decide ((j : Int) < (ks.length : Int)) = true := decide_eq_true (by omega)
                obtain ⟨_, _, hve, hcs, hlc, hcc, hks⟩ := HX.out.2.2.1.val
                simp only [List.cons.injEq, Value.slice.injEq, and_true, true_and] at hcs
                obtain ⟨rfl, rfl⟩ := hcs
                have hks2 := (hks.below HR5.out.2.1).keeps hkj (fun b hb h => by have := H.out.2.2.2.1 b hb; omega)
                cases n' with
                | zero =>
                  obtain ⟨_, _, _, _, hv, _⟩ := hks2.get j hjl
                  exact hv.elim
                | succ n'' =>
                obtain ⟨kb, ko, k2, m2, t2, kao2, ks2, kcap2, hkao, hx2, hv2, e0, e1, e2, e3, hlt2⟩ := hks2.cells j hjl
                subst hkao
                have hbA : Below wr.heap.size wr (wr.alloc (.cells #[.int .i64 k2, .int .i64 m2, .string ⟨t2.toArray⟩, .slice kao2 ks2.length kcap2] 50)) := (Below.refl _ _).alloc (Nat.le_refl _) _
                have g1 : wr.cell? ⟨g + 3, 1, none⟩ = some (.slice ao2 l2.length cap2) := cell_of_row _ _ 1 _ _ (0, 0) hr2
                have hpj := (H.out.2.2.1.keeps hk2 (fun b hb h => by have := H.out.2.2.2.1 b hb; omega))
                have HJ := Lib.hid (And.intro hr2 (And.intro hown2 (And.intro hk2 (And.intro hpj (And.intro hv2 (And.intro hx2 (And.intro hl2 (And.intro hkj hbA))))))))
                have hsA : wr.heap.size < (wr.alloc (.cells #[.int .i64 k2, .int .i64 m2, .string ⟨t2.toArray⟩, .slice kao2 ks2.length kcap2] 50)).heap.size := by simp
                have g2 := (World.cell?_of_block (a := ⟨g + 3, 1, none⟩) (hbA.block (g + 3) (by omega))).trans g1
                have HA := Lib.hid (And.intro g2 (And.intro (PatAt.new wr k2 m2 t2 kao2 ks2.length kcap2 50) hsA))
                clear hr2 hown2 hk2 hkj hl2 hks2 hks hve hlc hcc hv2 hx2 hpj hbA hsA g2
                go_wp2_with fail
                have HLL := Lib.hid (show l2.length ≤ 1000000 by rw [← HJ.out.2.2.2.2.2.2.1, List.length_append]; have h1 := cells_le_size (kidCells cp 0 (ks.take j)); have h2 := kidCells_size cp (ks.take j) 0; have h3 := sizeVs_take ks j; have h4 := sizeV_kids (.mk k m t ks); simp only [PV.kids] at h4; have h5 := HX.out.2.2.2.2.2.2; omega)
                refine seqk_start (fun b => (wr.alloc (.cells #[.int .i64 k2, .int .i64 m2, .string ⟨t2.toArray⟩, .slice kao2 ks2.length kcap2] 50)).heap.size ≤ b) [10] (by kernel_rfl) ?_
                refine seqk_take 0 (v := ?_) rfl (by kernel_rfl) (fun _ _ _ h => h) (by rfl) (fun w' hw' => ?_) ?_
                rotate_left
                · go_simp; try with_reducible rfl
                try simp only [List.getElem_toArray, List.getElem_cons_succ, List.getElem_cons_zero, Act.put, List.setIfInBounds_toArray, List.set_cons_zero, List.set_cons_succ]
                refine seqk_take 1 rfl (by kernel_rfl) (fun _ _ _ h => h) (by rfl) (fun w' hw' => (seq_ldCs rfl rfl (keeps_cell hw' (by (intro h; first | exact h | (simp at h; omega) | omega)) (HA.out.1))) w' (Below.refl _ _)) ?_
                try simp only [List.getElem_toArray, List.getElem_cons_succ, List.getElem_cons_zero, Act.put, List.setIfInBounds_toArray, List.set_cons_zero, List.set_cons_succ]
                refine seqk_take 2 (v := ?_) rfl (by kernel_rfl) (fun _ _ _ h => h) (by rfl) (fun w' hw' => ?_) ?_
                rotate_left
                · go_simp; try with_reducible rfl
                try simp only [List.getElem_toArray, List.getElem_cons_succ, List.getElem_cons_zero, Act.put, List.setIfInBounds_toArray, List.set_cons_zero, List.set_cons_succ]
                refine seqk_take 4 (v := ?_) rfl (by kernel_rfl) (fun _ _ _ h => h) (by rfl) (fun w' hw' => ?_) ?_
                rotate_left
                · go_simp; try with_reducible rfl
                try simp only [List.getElem_toArray, List.getElem_cons_succ, List.getElem_cons_zero, Act.put, List.setIfInBounds_toArray, List.set_cons_zero, List.set_cons_succ]
                refine seqk_take 7 rfl (by kernel_rfl) (fun _ _ _ h => h) (by rfl) (fun w' hw' => (seq_ldPat rfl rfl ((show PatAt (wr.alloc (.cells #[.int .i64 k2, .int .i64 m2, .string ⟨t2.toArray⟩, .slice kao2 ks2.length kcap2] 50)).drew wr.heap.size k2 m2 t2 kao2 ks2.length kcap2 from HA.out.2.1).keeps hw' (fun hx => by have := HA.out.2.2; omega))) w' (Below.refl _ _)) ?_
                try simp only [List.getElem_toArray, List.getElem_cons_succ, List.getElem_cons_zero, Act.put, List.setIfInBounds_toArray, List.set_cons_zero, List.set_cons_succ]
                refine seqk_two 3 5 rfl rfl (by kernel_rfl) (by rfl) (by rfl) (fun KK hKK => ?_) (fun KK hKK => ?_)
                · go_wp2_with fail
                  have hpA : PathIn (wr.alloc (.cells #[.int .i64 k2, .int .i64 m2, .string ⟨t2.toArray⟩, .slice kao2 ks2.length kcap2] 50)).drew D (.slice po cp.length pcap) cp := HJ.out.2.2.2.1.below (HJ.out.2.2.2.2.2.2.2.2.drew)
                  refine (clonePath_any hpA (by omega)).mono ?_
                  rintro e w3 ⟨po3, pcap3, rfl, hown3, hb3⟩
                  simp only [World.size_drew] at hown3 hb3
                  have HCL0 := Lib.hid hown3
                  have HB3' := Lib.hid (show Below (wr.alloc (.cells #[.int .i64 k2, .int .i64 m2, .string ⟨t2.toArray⟩, .slice kao2 ks2.length kcap2] 50)).heap.size (wr.alloc (.cells #[.int .i64 k2, .int .i64 m2, .string ⟨t2.toArray⟩, .slice kao2 ks2.length kcap2] 50)) w3 from (Below.refl _ (wr.alloc (.cells #[.int .i64 k2, .int .i64 m2, .string ⟨t2.toArray⟩, .slice kao2 ks2.length kcap2] 50))).drew.trans (hb3.mono (by simp)))
                  have HK3 := Lib.hid (show Keeps (fun b => (wr.alloc (.cells #[.int .i64 k2, .int .i64 m2, .string ⟨t2.toArray⟩, .slice kao2 ks2.length kcap2] 50)).heap.size ≤ b) (wr.alloc (.cells #[.int .i64 k2, .int .i64 m2, .string ⟨t2.toArray⟩, .slice kao2 ks2.length kcap2] 50)).drew w3 from Keeps.of_below (by simpa using hb3))
                  clear hown3 hb3 hpA
                  go_wp2_with fail
                  refine ⟨HK3.out, ?_⟩
                  refine seqk_run 5 rfl (by kernel_rfl) (by rfl) (fun KK hKK => ?_)
                  go_wp2_with fail
                  refine ⟨Keeps.alloc _ _ _, ?_⟩
                  have hbL : Below w3.heap.size w3 (w3.alloc (.cells #[.int .i64 (j : Int)] 3)) := (Below.refl _ _).alloc (Nat.le_refl _) _
                  have HCL := Lib.hid (owns_below HCL0.out hbL)
                  have HLIT := Lib.hid (At.new w3 #[.int .i64 (j : Int)] 3)
                  have HBB := Lib.hid (HB3'.out.trans (hbL.mono HB3'.out.size))
                  have HLT := Lib.hid (show ∀ b, blk po3 = some b → (wr.alloc (.cells #[.int .i64 k2, .int .i64 m2, .string ⟨t2.toArray⟩, .slice kao2 ks2.length kcap2] 50)).heap.size ≤ b ∧ b < w3.heap.size from fun b hb => HCL0.out.lt b (by rw [own_slice]; exact hb))
                  clear hbL
                  refine seqk_run 6 rfl (by kernel_rfl) (by rfl) (fun KK hKK => ?_)
                  refine wp_path _ _ rfl (wr.alloc (.cells #[.int .i64 k2, .int .i64 m2, .string ⟨t2.toArray⟩, .slice kao2 ks2.length kcap2] 50)).heap.size po3 pcap3 cp (by rfl) HCL.out w3.heap.size (by rfl) j HLIT.out (by omega) HBB.out.size ?_
                  intro po4 pcap4 w6 q1 q2 q3
                  have hown6 := q1.lt
                  refine hKK _ _ ⟨Keeps.of_grown' q2 (fun b hb => by have := (HLT.out b hb).1; omega), ?_⟩
                  have hb6 : Below ((wr.alloc (.cells #[.int .i64 k2, .int .i64 m2, .string ⟨t2.toArray⟩, .slice kao2 ks2.length kcap2] 50))).heap.size ((wr.alloc (.cells #[.int .i64 k2, .int .i64 m2, .string ⟨t2.toArray⟩, .slice kao2 ks2.length kcap2] 50))) w6 := HBB.out.trans ((Keeps.of_grown' (X := fun b => ((wr.alloc (.cells #[.int .i64 k2, .int .i64 m2, .string ⟨t2.toArray⟩, .slice kao2 ks2.length kcap2] 50))).heap.size ≤ b) q2 (fun b hb => by have := (HLT.out b hb).1; omega)).below (fun b hb h => by omega) HBB.out.size)
                  have hpb : ∀ b, blk po4 = some b → ((wr.alloc (.cells #[.int .i64 k2, .int .i64 m2, .string ⟨t2.toArray⟩, .slice kao2 ks2.length kcap2] 50))).heap.size ≤ b ∧ b < w6.heap.size := fun b hb => by
                    have h1 := (hown6 b (by rw [own_slice]; exact hb)).2
                    rcases q3 with h | h
                    · have := (HLT.out b (by rw [← h]; exact hb)).1
                      exact ⟨by omega, h1⟩
                    · rw [hb] at h
                      have h0 := Option.some.inj h
                      have := HBB.out.size
                      have := HBB.out.size
                      exact ⟨by omega, h1⟩
                  have hao2 := HJ.out.2.1.lt
                  have hs6 := hb6.size
                  have hA2 := HA.out.2.2
                  have hjA := HJ.out.2.2.2.2.2.2.2.2.trans (hb6.mono HJ.out.2.2.2.2.2.2.2.2.size)
                  have hadd := add_any (n := n'' + 1 + 1) (w := w6) (base := W.heap.size) (D := DD D W w6 ao2) ((HJ.out.2.1.below (elemC _) hjA).grow (elemC _) (Nat.le_refl _) (fun b hb => (by
                    rcases hb with h | h
                    · exact .inl h
                    · exact .inr ⟨h.1, by omega, h.2.2⟩)) (fun i hi hd => (by
                    rcases hd with h | h
                    · exact HJ.out.2.1.2 i hi (.inl h)
                    · exact h.2.2 hi))) (fun b hb => (by
                    rcases hb with h | h
                    · have := H.out.2.2.2.1 b h; omega
                    · exact h.2.1)) (by omega) (by have := HLL.out; omega) (path := cp ++ [j]) (po := po4) (pcap := pcap4) (p := .mk k2 m2 t2 ks2) (PathIn.of_own q1 (fun b hb => .inr ⟨by have := (hpb b hb).1; omega, (hpb b hb).2, fun h => by have := (hao2 b h).2; have := (hpb b hb).1; omega⟩)) (((HJ.out.2.2.2.2.1.below hjA).mono (fun b hb => .inl hb)).deep (by omega))
                  rw [show (cp ++ [j]).length = cp.length + 1 by simp] at hadd
                  change Calls _ _ #[_, _, patV k2 m2 t2 kao2 ks2.length kcap2] _ _ at hadd
                  obtain ⟨l4, hl4⟩ : ∃ l4, l2 ++ (if openP (.mk k2 m2 t2 ks2) then [] else [⟨cp ++ [j], .mk k2 m2 t2 ks2⟩]) = l4 := ⟨_, rfl⟩
                  rw [hl4] at hadd
                  have HL4 := Lib.hid hl4
                  clear hl4
                  have HADD := Lib.hid hadd
                  have H6 := Lib.hid (And.intro hb6 hjA)
                  clear q1 q2 q3 hown6 hpb hao2 hadd hb6 hjA
                  refine seqk_run 8 rfl (by kernel_rfl) (by rfl) (fun KK hKK => ?_)
                  go_wp2_with fail
                  refine HADD.out.mono ?_
                  rintro e w7 ⟨ao8, cap8, rfl, hown8, hb8⟩
                  have HS8 := Lib.hid (kid_step (l2 := l2) HJ.out.1 HJ.out.2.2.1 (by omega) (fun b hb => by have := H.out.2.2.2.1 b hb; omega) H6.out.2 hown8 hb8)
                  have HB8 := Lib.hid hb8
                  clear hown8 hb8
                  go_wp2_with fail
                  refine ⟨Keeps.of_below HB8.out, ?_⟩
                  refine seqk_take 9 (v := ?_) rfl (by kernel_rfl) (fun _ _ _ h => h) (by rfl) (fun w' hw' => ?_) ?_
                  rotate_left
                  · go_simp; try with_reducible rfl
                  try simp only [List.getElem_toArray, List.getElem_cons_succ, List.getElem_cons_zero, Act.put, List.setIfInBounds_toArray, List.set_cons_zero, List.set_cons_succ]
                  have r1 : w7.cell? ⟨g + 3, 1, none⟩ = some (.slice ao2 l2.length cap2) := HS8.out.1
                  have r2 : w7.frozen? ⟨g + 3, 1, none⟩ = false := HS8.out.2.1
                  refine seqk_last 10 rfl (by kernel_rfl) (by kernel_rfl) (by rfl) (fun KK hKK => ?_)
                  go_wp2_with fail
                  refine seql_done (by kernel_rfl) ?_
                  have HF := Lib.hid (And.intro HS8.out.2.2.1 HS8.out.2.2.2)
                  have HC4 := Lib.hid (show l ++ kidCells cp 0 (ks.take (j + 1)) = l4 by rw [List.take_succ_eq_append_getElem hjl, kidCells_snoc, ← List.append_assoc, HJ.out.2.2.2.2.2.2.1, ← HL4.out, HJ.out.2.2.2.2.2.1, List.length_take, Nat.min_eq_left (Nat.le_of_lt hjl), Nat.zero_add])
                  go_wp2_with fail
                  go_roundw
                  case rel => exact ⟨j + 1, by omega, by simp, by rw [HC4.out]; exact HF.out.1, HJ.out.2.2.2.2.2.2.2.1.trans' HF.out.2⟩
                  case measure => simp [intOf]; omega
                · go_wp2_with fail
                  refine ⟨Keeps.alloc _ _ _, ?_⟩
                  have hbL : Below (wr.alloc (.cells #[.int .i64 k2, .int .i64 m2, .string ⟨t2.toArray⟩, .slice kao2 ks2.length kcap2] 50)).heap.size (wr.alloc (.cells #[.int .i64 k2, .int .i64 m2, .string ⟨t2.toArray⟩, .slice kao2 ks2.length kcap2] 50)) ((wr.alloc (.cells #[.int .i64 k2, .int .i64 m2, .string ⟨t2.toArray⟩, .slice kao2 ks2.length kcap2] 50)).drew.alloc (.cells #[.int .i64 (j : Int)] 3)) := (Below.refl _ (wr.alloc (.cells #[.int .i64 k2, .int .i64 m2, .string ⟨t2.toArray⟩, .slice kao2 ks2.length kcap2] 50))).drew.alloc (by simp) _
                  have hsL : (wr.alloc (.cells #[.int .i64 k2, .int .i64 m2, .string ⟨t2.toArray⟩, .slice kao2 ks2.length kcap2] 50)).heap.size ≤ ((wr.alloc (.cells #[.int .i64 k2, .int .i64 m2, .string ⟨t2.toArray⟩, .slice kao2 ks2.length kcap2] 50)).drew.alloc (.cells #[.int .i64 (j : Int)] 3)).heap.size := hbL.size
                  have hpA : PathIn ((wr.alloc (.cells #[.int .i64 k2, .int .i64 m2, .string ⟨t2.toArray⟩, .slice kao2 ks2.length kcap2] 50)).drew.alloc (.cells #[.int .i64 (j : Int)] 3)) D (.slice po cp.length pcap) cp := (HJ.out.2.2.2.1.below HJ.out.2.2.2.2.2.2.2.2).below hbL
                  have HPA := Lib.hid (And.intro hpA (And.intro hbL hsL))
                  clear hpA hbL hsL
                  refine seqk_run 3 rfl (by kernel_rfl) (by rfl) (fun KK hKK => ?_)
                  go_wp2_with fail
                  refine (clonePath_any HPA.out.1 (by omega)).mono ?_
                  rintro e w3 ⟨po3, pcap3, rfl, hown3, hb3⟩
                  have HCL := Lib.hid hown3
                  have HLIT := Lib.hid (show At w3 (some ⟨wr.heap.size + 1, 0, none⟩) #[.int .i64 (j : Int)].toList from (by have h := (At.new (wr.alloc (.cells #[.int .i64 k2, .int .i64 m2, .string ⟨t2.toArray⟩, .slice kao2 ks2.length kcap2] 50)).drew #[.int .i64 (j : Int)] 3).below hb3; simp only [World.size_drew, World.size_alloc] at h; exact h))
                  have HBB := Lib.hid (HPA.out.2.1.trans (hb3.mono HPA.out.2.2))
                  have HK3 := Lib.hid (show Keeps (fun b => (wr.alloc (.cells #[.int .i64 k2, .int .i64 m2, .string ⟨t2.toArray⟩, .slice kao2 ks2.length kcap2] 50)).heap.size ≤ b) ((wr.alloc (.cells #[.int .i64 k2, .int .i64 m2, .string ⟨t2.toArray⟩, .slice kao2 ks2.length kcap2] 50)).drew.alloc (.cells #[.int .i64 (j : Int)] 3)) w3 from Keeps.of_below hb3)
                  have HLT := Lib.hid (show ∀ b, blk po3 = some b → (wr.alloc (.cells #[.int .i64 k2, .int .i64 m2, .string ⟨t2.toArray⟩, .slice kao2 ks2.length kcap2] 50)).heap.size ≤ b ∧ b < w3.heap.size from fun b hb => by have := HCL.out.lt b (by rw [own_slice]; exact hb); have := HPA.out.2.2; exact ⟨by omega, by omega⟩)
                  have HB5B := Lib.hid hb3.size
                  clear hown3 hb3
                  go_wp2_with fail
                  refine ⟨HK3.out, ?_⟩
                  refine seqk_run 6 rfl (by kernel_rfl) (by rfl) (fun KK hKK => ?_)
                  refine wp_path _ _ rfl ((wr.alloc (.cells #[.int .i64 k2, .int .i64 m2, .string ⟨t2.toArray⟩, .slice kao2 ks2.length kcap2] 50)).drew.alloc (.cells #[.int .i64 (j : Int)] 3)).heap.size po3 pcap3 cp (by rfl) HCL.out (wr.heap.size + 1) (by rfl) j HLIT.out (by omega) HB5B.out ?_
                  intro po4 pcap4 w6 q1 q2 q3
                  have hown6 := q1.lt
                  refine hKK _ _ ⟨Keeps.of_grown' q2 (fun b hb => by have := (HLT.out b hb).1; omega), ?_⟩
                  have hb6 : Below ((wr.alloc (.cells #[.int .i64 k2, .int .i64 m2, .string ⟨t2.toArray⟩, .slice kao2 ks2.length kcap2] 50))).heap.size ((wr.alloc (.cells #[.int .i64 k2, .int .i64 m2, .string ⟨t2.toArray⟩, .slice kao2 ks2.length kcap2] 50))) w6 := HBB.out.trans ((Keeps.of_grown' (X := fun b => ((wr.alloc (.cells #[.int .i64 k2, .int .i64 m2, .string ⟨t2.toArray⟩, .slice kao2 ks2.length kcap2] 50))).heap.size ≤ b) q2 (fun b hb => by have := (HLT.out b hb).1; omega)).below (fun b hb h => by omega) HBB.out.size)
                  have hpb : ∀ b, blk po4 = some b → ((wr.alloc (.cells #[.int .i64 k2, .int .i64 m2, .string ⟨t2.toArray⟩, .slice kao2 ks2.length kcap2] 50))).heap.size ≤ b ∧ b < w6.heap.size := fun b hb => by
                    have h1 := (hown6 b (by rw [own_slice]; exact hb)).2
                    rcases q3 with h | h
                    · have := (HLT.out b (by rw [← h]; exact hb)).1
                      exact ⟨by omega, h1⟩
                    · rw [hb] at h
                      have h0 := Option.some.inj h
                      have := HBB.out.size
                      have := HBB.out.size
                      exact ⟨by omega, h1⟩
                  have hao2 := HJ.out.2.1.lt
                  have hs6 := hb6.size
                  have hA2 := HA.out.2.2
                  have hjA := HJ.out.2.2.2.2.2.2.2.2.trans (hb6.mono HJ.out.2.2.2.2.2.2.2.2.size)
                  have hadd := add_any (n := n'' + 1 + 1) (w := w6) (base := W.heap.size) (D := DD D W w6 ao2) ((HJ.out.2.1.below (elemC _) hjA).grow (elemC _) (Nat.le_refl _) (fun b hb => (by
                    rcases hb with h | h
                    · exact .inl h
                    · exact .inr ⟨h.1, by omega, h.2.2⟩)) (fun i hi hd => (by
                    rcases hd with h | h
                    · exact HJ.out.2.1.2 i hi (.inl h)
                    · exact h.2.2 hi))) (fun b hb => (by
                    rcases hb with h | h
                    · have := H.out.2.2.2.1 b h; omega
                    · exact h.2.1)) (by omega) (by have := HLL.out; omega) (path := cp ++ [j]) (po := po4) (pcap := pcap4) (p := .mk k2 m2 t2 ks2) (PathIn.of_own q1 (fun b hb => .inr ⟨by have := (hpb b hb).1; omega, (hpb b hb).2, fun h => by have := (hao2 b h).2; have := (hpb b hb).1; omega⟩)) (((HJ.out.2.2.2.2.1.below hjA).mono (fun b hb => .inl hb)).deep (by omega))
                  rw [show (cp ++ [j]).length = cp.length + 1 by simp] at hadd
                  change Calls _ _ #[_, _, patV k2 m2 t2 kao2 ks2.length kcap2] _ _ at hadd
                  obtain ⟨l4, hl4⟩ : ∃ l4, l2 ++ (if openP (.mk k2 m2 t2 ks2) then [] else [⟨cp ++ [j], .mk k2 m2 t2 ks2⟩]) = l4 := ⟨_, rfl⟩
                  rw [hl4] at hadd
                  have HL4 := Lib.hid hl4
                  clear hl4
                  have HADD := Lib.hid hadd
                  have H6 := Lib.hid (And.intro hb6 hjA)
                  clear q1 q2 q3 hown6 hpb hao2 hadd hb6 hjA
                  refine seqk_run 8 rfl (by kernel_rfl) (by rfl) (fun KK hKK => ?_)
                  go_wp2_with fail
                  refine HADD.out.mono ?_
                  rintro e w7 ⟨ao8, cap8, rfl, hown8, hb8⟩
                  have HS8 := Lib.hid (kid_step (l2 := l2) HJ.out.1 HJ.out.2.2.1 (by omega) (fun b hb => by have := H.out.2.2.2.1 b hb; omega) H6.out.2 hown8 hb8)
                  have HB8 := Lib.hid hb8
                  clear hown8 hb8
                  go_wp2_with fail
                  refine ⟨Keeps.of_below HB8.out, ?_⟩
                  refine seqk_take 9 (v := ?_) rfl (by kernel_rfl) (fun _ _ _ h => h) (by rfl) (fun w' hw' => ?_) ?_
                  rotate_left
                  · go_simp; try with_reducible rfl
                  try simp only [List.getElem_toArray, List.getElem_cons_succ, List.getElem_cons_zero, Act.put, List.setIfInBounds_toArray, List.set_cons_zero, List.set_cons_succ]
                  have r1 : w7.cell? ⟨g + 3, 1, none⟩ = some (.slice ao2 l2.length cap2) := HS8.out.1
                  have r2 : w7.frozen? ⟨g + 3, 1, none⟩ = false := HS8.out.2.1
                  refine seqk_last 10 rfl (by kernel_rfl) (by kernel_rfl) (by rfl) (fun KK hKK => ?_)
                  go_wp2_with fail
                  refine seql_done (by kernel_rfl) ?_
                  have HF := Lib.hid (And.intro HS8.out.2.2.1 HS8.out.2.2.2)
                  have HC4 := Lib.hid (show l ++ kidCells cp 0 (ks.take (j + 1)) = l4 by rw [List.take_succ_eq_append_getElem hjl, kidCells_snoc, ← List.append_assoc, HJ.out.2.2.2.2.2.2.1, ← HL4.out, HJ.out.2.2.2.2.2.1, List.length_take, Nat.min_eq_left (Nat.le_of_lt hjl), Nat.zero_add])
                  go_wp2_with fail
                  go_roundw
                  case rel => exact ⟨j + 1, by omega, by simp, by rw [HC4.out]; exact HF.out.1, HJ.out.2.2.2.2.2.2.2.1.trans' HF.out.2⟩
                  case measure => simp [intOf]; omega
              · obtain rfl : j = ks.length := by omega
                have hdj : decide ((ks.length : Int) < (ks.length : Int)) = false := decide_eq_false (by omega)
                have HE := Lib.hid (show TakeI (n' + 1) D W (g + 3) r.num (l ++ kidCells cp 0 ks) wr by have := HIJ.out.1; rw [List.take_of_length_le (Nat.le_refl _)] at this; exact this)
                clear hr2 hown2 hk2 hkj hl2
                go_wp2_with fail
                go_roundw
                case rel => exact ⟨i + 1, _, by omega, by simp, HC.out, HE.out⟩
                case measure => simp [intOf]; omega
          · have hd5 : decide (5 ≤ k) = false := decide_eq_false h5
            have HC := Lib.hid (show takeC cp x (r.cells.take (i + 1)) = some l by rw [HX.out.2.1, HM.out.2.2.2.2.2]; unfold cellC; simp only [if_true]; rw [if_pos HYX.out, if_neg (show ¬ 5 ≤ (PV.mk k m t ks).kind from h5)]; simp)
            clear h5
            go_wp2_with fail
            go_roundw
            case rel => exact ⟨i + 1, l, by omega, by simp, HC.out, HI5.out⟩
            case measure => simp [intOf]; omega
        · rw [decide_eq_false hyx, Bool.not_false]
          have HN := Lib.hid (show takeC cp x r.cells = none from takeC_none_of (i := i + 1) (by rw [HX.out.2.1, HM.out.2.2.2.2.2]; unfold cellC; simp only [if_true]; rw [if_neg (show ¬ testP (PV.mk k m t ks) = x from fun h => hyx (HY.out.symm.trans ((testP_mk k m t ks).symm.trans h)))]))
          clear hyx f1 f4
          have f0 : W5.cell? ⟨g + 2, 0, none⟩ = some (.int .i64 0) := cell_of_row _ _ 0 _ _ (0, 0) HR5.out.1
          have f1 : W5.cell? ⟨g + 2, 1, none⟩ = some (.slice none 0 0) := cell_of_row _ _ 1 _ _ (0, 0) HR5.out.1
          have ff : ∀ j, W5.frozen? ⟨g + 2, j, none⟩ = false := fun j => frozen_of_row W5 _ j _ _ HR5.out.1
          go_wp2_with fail
          refine bodyPost_ret (v := .tuple #[.agg #[.int .i64 0, .slice none 0 0], .bool false]) (results_take _ _ (g + 2) 0 none 0 0 _ (by rfl) (by rfl) (cell_of_row _ _ 0 _ _ (0, 0) (setCell_row0 1 (.slice none 0 0) (setCell_row0 0 (.int .i64 0) HR5.out.1))) (cell_of_row _ _ 1 _ _ (0, 0) (setCell_row0 1 (.slice none 0 0) (setCell_row0 0 (.int .i64 0) HR5.out.1)))) rfl ⟨?_, .inr ⟨HN.out, rfl⟩⟩
          rw [H.out.2.2.2.2.2.2.1]
          refine H.out.1.2.1.trans (Keeps.below (X := fun b => g ≤ b) (Keeps.trans' (Keeps.trans' (Keeps.trans' ((HM.out.2.2.1).mono (fun b hb h => by omega)) (Keeps.of_below HR5.out.2.1)) (keep1 _ (by omega) _)) (keep1 _ (by omega) _)) (fun b hb h => by omega) (by omega))
      · rw [decide_eq_false heq]
        have HC := Lib.hid (show takeC path x (r.cells.take (i + 1)) = some (l ++ [⟨cp, .mk k m t ks⟩]) by rw [HX.out.2.1, HM.out.2.2.2.2.2]; unfold cellC; rw [if_neg heq])
        obtain ⟨i0, hi0, hz0, hz1, hz2⟩ := info_parts infoCell
        have hbB : Below w2.heap.size w2 (w2.alloc (.cells #[.slice qo cp.length qcap, .int .i64 k, .int .i64 m, .string ⟨t.toArray⟩, .slice kao ks.length kcap] 71)) := (Below.refl _ _).alloc (Nat.le_refl _) _
        have HB := Lib.hid hbB
        clear hbB heq
        go_wp2_with (refine app_own (elemC (n' + 1)) (by decide) rfl _ _ 60 rfl i0 _ 80 Try.underlying60 hi0 hz0 hz1 hz2 rfl (by decide) W.heap.size (DD D W wr ao) ao cap l.length l rfl rfl (HG2.out.2.2.1.below (elemC _) HB.out) [.slice qo cp.length qcap, .int .i64 k, .int .i64 m, .string ⟨t.toArray⟩, .slice kao ks.length kcap] ⟨cp, .mk k m t ks⟩ ((elemC (n' + 1)).below (w := wr) (⟨_, _, rfl, HX.out.2.2.2.2.2.1.mono (fun _ h => .inl h), HX.out.2.2.1.mono (fun _ h => .inl h)⟩) (HG2.out.2.2.2.1.trans (HB.out.mono hs2))) w2.heap.size rfl (At.new w2 #[.slice qo cp.length qcap, .int .i64 k, .int .i64 m, .string ⟨t.toArray⟩, .slice kao ks.length kcap] _) (fun j hj => by rcases hj with h | h; (have := H.out.2.2.2.1 j h; simp; omega); (simp; omega)) (by omega) (by simp; omega) ?_; rintro ao4 cap4 w4 q1 q2 q3; have hT := take_step HG2.out.1 HG2.out.2.1 hs4 HM.out.2.2.2.1 HB.out hs2 H.out.2.2.2.1 q1 q2 q3; have f1 : w4.cell? ⟨g + 3, 1, none⟩ = some (.slice ao l.length cap) := hT.1; have f2 : w4.frozen? ⟨g + 3, 1, none⟩ = false := hT.2.1; have HT := Lib.hid hT.2.2; clear q1 q2 q3 hT)
        go_roundw
        case rel => exact ⟨i + 1, l ++ [⟨cp, .mk k m t ks⟩], by omega, by simp, HC.out, by have := HT.out; rw [List.length_append] at this; exact this⟩
        case measure => simp [intOf]; omega
    · obtain rfl : i = r.cells.length := by omega
      have hd1 : decide ((r.cells.length : Int) < (r.cells.length : Int)) = false := decide_eq_false (by omega)
      have c0 : wr.cell? ⟨g + 3, 0, none⟩ = some (.int .i64 r.num) := cell_of_row _ _ 0 _ _ (0, 0) hr
      have c1 : wr.cell? ⟨g + 3, 1, none⟩ = some (.slice ao l.length cap) := cell_of_row _ _ 1 _ _ (0, 0) hr
      have hrt : wr.heap[g + 2]? = _ := (hk.block (g + 2) (by omega) (by omega)).trans H.out.1.2.2.2.2.1
      have e0 : wr.cell? ⟨g + 2, 0, none⟩ = some (.int .i64 0) := cell_of_row _ _ 0 _ _ (0, 0) hrt
      have e1 : wr.cell? ⟨g + 2, 1, none⟩ = some (.slice none 0 0) := cell_of_row _ _ 1 _ _ (0, 0) hrt
      have ff : ∀ j, wr.frozen? ⟨g + 2, j, none⟩ = false := fun j => frozen_of_row wr _ j _ _ hrt
      rw [List.take_of_length_le (Nat.le_refl _)] at htk
      have HE := Lib.hid (And.intro hrt (And.intro hown (And.intro hk htk)))
      clear hr hown hk hcw hpw htk hrt hao
      go_wp2_with fail
      have hk2 : Keeps (fun b => b = g + 2) wr ((wr.setCell ⟨g + 2, 0, none⟩ (.int .i64 r.num)).setCell ⟨g + 2, 1, none⟩ (.slice ao l.length cap)) := (keep1 (X := fun b => b = g + 2) _ rfl _).trans' (keep1 (X := fun b => b = g + 2) _ rfl _)
      have hs2 := hk2.size
      have hlt := HE.out.2.1.lt
      have hci := HE.out.2.1.cap_le
      refine bodyPost_ret (v := .tuple #[.agg #[.int .i64 r.num, .slice ao l.length cap], .bool true]) (results_take _ _ (g + 2) r.num ao l.length cap _ (by rfl) (by rfl) (cell_of_row _ _ 0 _ _ (0, 0) (setCell_row0 1 (.slice ao l.length cap) (setCell_row0 0 (.int .i64 r.num) HE.out.1))) (cell_of_row _ _ 1 _ _ (0, 0) (setCell_row0 1 (.slice ao l.length cap) (setCell_row0 0 (.int .i64 r.num) HE.out.1)))) rfl ⟨?_, .inl ⟨l, .slice ao l.length cap, HE.out.2.2.2, rfl, ao, cap, rfl, hci.1, hci.2, ?_⟩⟩
      · rw [H.out.2.2.2.2.2.2.1]
        exact H.out.1.2.1.trans (Keeps.below (X := fun b => g ≤ b) ((HE.out.2.2.1.mono (fun b hb h => by omega)).trans' (hk2.mono (fun b hb h => by omega))) (fun b hb h => by omega) (by omega))
      · rw [H.out.2.2.2.2.2.2.1]
        refine ((HE.out.2.1.inl (elemC n) (by decide)).keeps (elemC n) hk2 (fun b hb h => ?_)).mono (elemC n) (fun b hb => ?_)
        · rcases hb with (hb | hb) | hb
          · have := H.out.2.2.2.1 b hb; omega
          · omega
          · have := hlt b hb; omega
        · rcases hb with (hb | hb) | hb
          · exact .inl hb
          · exact .inr ⟨by omega, Nat.lt_of_lt_of_le (by omega) hs2⟩
          · have := hlt b hb; exact .inr ⟨by omega, Nat.lt_of_lt_of_le (by omega) hs2⟩
end Go.Proofs.Ytnhdefaagicejaa
