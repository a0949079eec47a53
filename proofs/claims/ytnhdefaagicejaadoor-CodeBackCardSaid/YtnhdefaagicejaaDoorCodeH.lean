/- The walk of code.Decode: of all of a code's bytes, and of a beginning. -/
import Derived.Test.YtnhdefaagicejaaDoorCodeBQ
import Derived.Test.YtnhdefaagicejaaDoorWalIn2
import Derived.Test.YtnhdefaagicejaaDoorCodeL
import Derived.Test.YtnhdefaagicejaaDoorRegK
namespace Go.Proofs.YtnhdefaagicejaaDoor
set_option linter.unusedSimpArgs false
set_option linter.unusedVariables false
open Go.RowKit

theorem InAt.keepX {X : Nat → Prop} {w w' : World} {gi : Nat} {s : St} (h : InAt w gi s) (hk : Keeps X w w') (hX : ∀ j, X j → gi < j) : InAt w' gi s := by
  have hlt := h.lt
  obtain ⟨ao, cap, h1, h2, h3, h4⟩ := h
  exact ⟨ao, cap, (hk.block gi hlt (fun hx => Nat.lt_irrefl _ (hX gi hx))).trans h1, h2.keeps hk (fun b hb _ hx => by have h5 := h3 b hb; have h6 := hX b hx; omega), h3, h4⟩
theorem slice_hi2 {w : World} {ops : Array Oper} {rest : List Oper} {o : Oper} {a : Act} {Q : Exit → Act → World → Prop} (hgd : Region.wanted o (yielded ops a.tmps) = true) (x hi : Operand) (ho : o.op = .slice 42 x none (some hi) none)
    (ao : Option Addr) (n cap j : Nat) (hx : a.eval x = .slice ao n cap) (hh : a.eval hi = .int .i64 (j : Int)) (h2 : j ≤ cap)
    (h : wpList Tryd.prog ops Q rest (a.put o.dst (.slice ao j cap)) w) : wpList Tryd.prog ops Q (o :: rest) a w := by
  refine wpList_go hgd fun K hK => ?_
  have hr := seq_hi (w := w) ho hx hh h2 w (Below.refl _ _)
  unfold Oper.wp
  rw [hr]
  exact hK _ _ h
theorem results_dec (tmps : Array Value) (W : World) (g : Nat) (v0 v1 v2 v3 z : Value) (hp : tmps[2]?.getD undef = .pointer (some ⟨g, 0, none⟩)) (hz : tmps[3]?.getD undef = z) (hc : W.heap[g]? = some (.cells #[v0, v1, v2, v3] 35 (0, 0))) :
    (results Tryd.f13 tmps).run Tryd.prog W = .ok (.tuple #[.agg #[v0, v1, v2, v3], z]) W := by
  have c0 : W.cell? ⟨g, 0, none⟩ = some v0 := cell_of_row W _ 0 _ _ (0, 0) hc
  have c1 : W.cell? ⟨g, 1, none⟩ = some v1 := cell_of_row W _ 1 _ _ (0, 0) hc
  have c2 : W.cell? ⟨g, 2, none⟩ = some v2 := cell_of_row W _ 2 _ _ (0, 0) hc
  have c3 : W.cell? ⟨g, 3, none⟩ = some v3 := cell_of_row W _ 3 _ _ (0, 0) hc
  have hu := Tryd.underlying35
  simp only [results, Tryd.results13]
  go_simp
/-- A list that is being read into a code in the block g7, from the reading object gi. -/
def DecI (e : TypeId) (k : Nat) (row : Value → Array Value) (W : World) (g7 gi : Nat) (xs : List Value) (n : Nat) (s : St) (wr : World) : Prop :=
  ∃ ao cap, wr.heap[g7]? = some (.cells (row (.slice ao n cap)) 35 (0, 0)) ∧ wr.ownsRow W.heap.size e k (.slice ao n cap) n xs ∧ InAt wr gi s ∧ Keeps (fun b => b = g7 ∨ b = gi ∨ W.heap.size ≤ b) W wr
theorem dec_step {e : TypeId} {k f : Nat} {row : Value → Array Value} {W wr w7 wa w5 : World} {g7 gi n n5 : Nat} {xs5 : List Value} {s : St} {ao ao5 : Option Addr} {cap cap5 : Nat} (hset : ∀ u v, (row u).setIfInBounds f v = row v) (hget : ∀ u, (row u)[f]? = some u)
    (hrow : wr.heap[g7]? = some (.cells (row (.slice ao n cap)) 35 (0, 0))) (hao : ∀ j, blk ao = some j → W.heap.size ≤ j ∧ j < wr.heap.size) (hk : Keeps (fun b => b = g7 ∨ b = gi ∨ W.heap.size ≤ b) W wr) (hgi : gi < g7) (hg7 : g7 < W.heap.size)
    (hk7 : Keeps (fun b => b = gi) wr w7) (hin7 : InAt w7 gi s) (hba : Below w7.heap.size w7 wa) (q1 : w5.ownsRow W.heap.size e k (.slice ao5 n5 cap5) n5 xs5) (q2 : wa.grownBy w5 (blk ao)) :
    w5.cell? ⟨g7, f, none⟩ = some (.slice ao n cap) ∧ w5.frozen? ⟨g7, f, none⟩ = false ∧ DecI e k row W g7 gi xs5 n5 s (w5.setCell ⟨g7, f, none⟩ (.slice ao5 n5 cap5)) := by
  have hk75 : Keeps (fun i => blk ao = some i) w7 w5 := (Keeps.of_below hba).trans' (Keeps.of_grown' q2 fun _ h => h)
  have hsr := hk.size
  have hs7 := hk7.size
  have hne : ¬ blk ao = some g7 := fun h => by have := (hao g7 h).1; omega
  have hr5 : w5.heap[g7]? = _ := (hk75.block g7 (by omega) hne).trans ((hk7.block g7 (by omega) (by omega)).trans hrow)
  have hk6 : Keeps (fun b => b = g7) w5 (w5.setCell ⟨g7, f, none⟩ (.slice ao5 n5 cap5)) := keeps_set w5 g7 f _
  have hlt := fun j hj => (q1.lt j (by rw [own_slice]; exact hj)).1
  refine ⟨(cell_of_row w5 g7 f _ _ (0, 0) hr5).trans (hget _), frozen_of_row w5 g7 f _ _ hr5, ao5, cap5, ?_, owns_keeps q1 hk6 (fun b hb h => by rw [own_slice] at hb; have := hlt b hb; omega), (hin7.keepX hk75 (fun j hj => by have := (hao j hj).1; omega)).keepX hk6 (fun j hj => by omega), ?_⟩
  · rw [setCell_row0 f _ hr5, hset]
  · exact ((hk.trans' (hk7.mono (fun b _ h => .inr (.inl h)))).trans' (hk75.mono (fun b _ h => .inr (.inr (hao b h).1)))).trans' (hk6.mono (fun b _ h => .inl h))
where
  keeps_set (w5 : World) (g7 f : Nat) (v : Value) : Keeps (fun b => b = g7) w5 (w5.setCell ⟨g7, f, none⟩ v) := Keeps.of_grown (setCell_grown0 _ _ _ _) rfl
/-- What a call to Decode leaves. -/
def Decodes (whole : Bool) (w : World) (c : CodeP) (e : Ending) (w' : World) : Prop :=
  Below w.heap.size w w' ∧ ((whole = true ∧ ∃ io so fo icap scap fcap, e = .returned (.tuple #[.agg #[.slice io c.ins.length icap, .slice so c.strs.length scap, .slice fo c.funs.length fcap, .int .i64 c.glob], .int .i64 0]) ∧ CodeMem w' (fun b => b < w'.heap.size) c io so fo) ∨ (whole = false ∧ ∃ v0 v1 v2 v3 z, e = .returned (.tuple #[.agg #[v0, v1, v2, v3], .int .i64 z]) ∧ (∃ o n k, v0 = .slice o n k) ∧ (∃ o n k, v1 = .slice o n k) ∧ (∃ o n k, v2 = .slice o n k) ∧ (∃ y, v3 = .int .i64 y) ∧ (z = 9 ∨ z = 2)))
theorem opens_le_len {l x : List UInt8} (h : opens l = some x) : x.length ≤ l.length := by
  unfold opens at h
  split at h
  · cases h
    rw [List.length_take]
    omega
  · cases h
abbrev zeroC : Array Value := #[.slice none 0 0, .slice none 0 0, .slice none 0 0, .int .i64 0]
set_option maxRecDepth 100000 in
set_option maxHeartbeats 20000000 in
theorem decode_any {whole : Bool} {w : World} {c : CodeP} {L : List UInt8} {bo : Option Addr} {n cap : Nat} (hat : At w bo (bytesV L)) (hn : n = L.length) (hl : n ≤ 1000000000) (hc : n ≤ cap) (ht : ShTab w) (ht2 : Tab w) (ho : Ord flC c)
    (hR : (∀ x ∈ c.ins, R64i x.op ∧ R64i x.a ∧ R64i x.b) ∧ (∀ z ∈ c.funs, R64i z)) (hin : DecIn whole c L) :
    Calls Tryd.prog 13 #[.slice bo n cap] w (Decodes whole w c) := by
  obtain ⟨g, hg⟩ : ∃ g, w.heap.size = g := ⟨_, rfl⟩
  obtain ⟨V, hV⟩ : ∃ V, w.alloc (.cells #[.slice none 0 0, .slice none 0 0, .slice none 0 0, .int .i64 0] 35) = V := ⟨_, rfl⟩
  have hbV : Below g w V := by rw [← hV, ← hg]; exact (Below.refl _ w).alloc (Nat.le_refl _) _
  have hrV : V.heap[g]? = some (.cells zeroC 35 (0, 0)) := by rw [← hV, ← hg]; exact heap_alloc_new w _
  have hsV : V.heap.size = g + 1 := by rw [← hV, ← hg]; simp
  have hbV' : Below w.heap.size w V := by rw [hg]; exact hbV
  have hopen := copen_any bo L n cap hn hl hc V (hat.below hbV') (ht2.below hbV')
  have H := Lib.hid (And.intro hopen (And.intro hbV (And.intro hrV (And.intro hsV (And.intro (shtab_below ht hbV') (And.intro ho (And.intro hR (And.intro hin.opens (And.intro hV (And.intro hg (show L.length ≤ 1000000000 by omega)))))))))))
  clear hopen hbV hrV hsV hbV' hat ht ht2 ho hR hin hV hg hn hl hc
  go_enter Tryd.func13, Tryd.ntmps13
  go_upto_region 1 with (fail)
  rw [H.out.2.2.2.2.2.2.2.2.1, H.out.2.2.2.2.2.2.2.2.2.1]
  go_wp2_with fail
  refine H.out.1.mono ?_
  rintro e w1 ⟨hb1, hres⟩
  have hs1 := hb1.size
  have hsV := H.out.2.2.2.1
  have hr1 := (hb1.block g (by omega)).trans H.out.2.2.1
  have HZ := Lib.hid (And.intro hb1 hr1)
  rcases H.out.2.2.2.2.2.2.2.1 with ⟨hw, hno⟩ | ⟨j, hj, hsome⟩
  · rw [hno] at hres
    obtain rfl := hres
    clear hb1 hr1
    go_wp2_with (refine wpList_store_mid rfl 35 _ _ rfl g 0 #[.slice none 0 0, .slice none 0 0, .slice none 0 0, .int .i64 0] rfl rfl (code_there HZ.out.2) (by kernel_rfl) (code_one _ _ _ _ _ _ _ _ _ _) ?_)
    have hks := Keeps.setCells g [.slice none 0 0, .slice none 0 0, .slice none 0 0, .int .i64 0] 0 w1
    refine bodyPost_ret (v := .tuple #[.agg #[.slice none 0 0, .slice none 0 0, .slice none 0 0, .int .i64 0], .int .i64 9]) (results_dec _ _ g _ _ _ _ _ rfl rfl (code_row HZ.out.2 _ _ _ _)) rfl ⟨?_, .inr ⟨hw, _, _, _, _, 9, rfl, ⟨_, _, _, rfl⟩, ⟨_, _, _, rfl⟩, ⟨_, _, _, rfl⟩, ⟨_, rfl⟩, .inl rfl⟩⟩
    rw [H.out.2.2.2.2.2.2.2.2.2.1]
    exact H.out.2.1.trans ((HZ.out.1.mono (by omega)).trans (hks.below (fun i hi h => by omega) (by omega)))
  · obtain ⟨X, hX⟩ : ∃ X, (if whole then codeB c else (codeB c).take j) = X := ⟨_, rfl⟩
    rw [hsome, hX] at hres
    obtain ⟨xo, xcap, rfl, hxown⟩ := hres
    have hbeh := rd_behind whole c j hj
    rw [hX] at hbeh
    have HX := Lib.hid (And.intro (At.own hxown) (And.intro hbeh (And.intro hX hj)))
    have hxc : X.length ≤ xcap := by
      obtain ⟨_, _, he, hle⟩ := owns_form hxown
      cases he
      exact hle
    have hXl : X.length ≤ 1000000000 := by
      have h1 := opens_le_len hsome
      rw [hX] at h1
      have := H.out.2.2.2.2.2.2.2.2.2.2
      omega
    clear hb1 hr1 hxown hbeh hX hj hsome
    by_cases hX2 : X.length < 2
    · have hd : decide ((X.length : Int) < 2) = true := decide_eq_true (by omega)
      have hw : whole = false := by
        cases whole with
        | false => rfl
        | true =>
          have h1 := HX.out.2.2.1
          simp only [if_true] at h1
          rw [← h1, codeB_len] at hX2
          omega
      go_wp2_with (refine wpList_store_mid rfl 35 _ _ rfl g 0 #[.slice none 0 0, .slice none 0 0, .slice none 0 0, .int .i64 0] rfl rfl (code_there HZ.out.2) (by kernel_rfl) (code_one _ _ _ _ _ _ _ _ _ _) ?_)
      have hks := Keeps.setCells g [.slice none 0 0, .slice none 0 0, .slice none 0 0, .int .i64 0] 0 w1
      refine bodyPost_ret (v := .tuple #[.agg #[.slice none 0 0, .slice none 0 0, .slice none 0 0, .int .i64 0], .int .i64 2]) (results_dec _ _ g _ _ _ _ _ rfl rfl (code_row HZ.out.2 _ _ _ _)) rfl ⟨?_, .inr ⟨hw, _, _, _, _, 2, rfl, ⟨_, _, _, rfl⟩, ⟨_, _, _, rfl⟩, ⟨_, _, _, rfl⟩, ⟨_, rfl⟩, .inr rfl⟩⟩
      rw [H.out.2.2.2.2.2.2.2.2.2.1]
      exact H.out.2.1.trans ((HZ.out.1.mono (by omega)).trans (hks.below (fun i hi h => by omega) (by omega)))
    · have hd : decide ((X.length : Int) < 2) = false := decide_eq_false (by omega)
      obtain ⟨h83, hrd⟩ := HX.out.2.1 (by omega)
      have hatX := HX.out.1
      have hat2 : At w1 xo (bytesV [83, 67]) := by rw [← h83]; exact hatX.takeB 2
      have hop : Calls Tryd.prog 26 #[.slice (tailOf xo xcap 2) (X.length - 2) (xcap - 2)] w1 (fun e w' => ∃ g, e = .returned (.pointer (some ⟨g, 0, none⟩)) ∧ w1.heap.size ≤ g ∧ InAt w' g (X.drop 2, 0) ∧ Below w1.heap.size w1 w') := by
        have h1 := open_any (tailOf xo xcap 2) (X.drop 2) (xcap - 2) (by rw [List.length_drop]; omega) w1 (hatX.dropB xcap 2 hxc)
        rw [List.length_drop] at h1
        exact h1
      have HO := Lib.hid (And.intro hop (And.intro hat2 hrd))
      clear h83 hrd hatX hat2 hop
      go_wp2_with (first | (refine slice_hi2 rfl _ _ rfl xo X.length xcap 2 rfl rfl (by omega) ?_) | (refine conv_str rfl _ rfl xo 2 xcap rfl [83, 67] HO.out.2.1 rfl ?_) | (refine slice_lo rfl _ _ rfl xo X.length xcap 2 rfl rfl (by omega) ?_))
      refine HO.out.1.mono ?_
      rintro e w2 ⟨gi, rfl, hgi, hin2, hb2⟩
      have hgil := hin2.lt
      obtain ⟨g7, hg7⟩ : ∃ g7, w2.heap.size = g7 := ⟨_, rfl⟩
      obtain ⟨w3, hw3⟩ : ∃ w3, w2.alloc (.cells #[.slice none 0 0, .slice none 0 0, .slice none 0 0, .int .i64 0] 35) = w3 := ⟨_, rfl⟩
      have hb3 : Below g7 w2 w3 := by rw [← hw3, ← hg7]; exact (Below.refl _ _).alloc (Nat.le_refl _) _
      have hr3 : w3.heap[g7]? = some (.cells zeroC 35 (0, 0)) := by rw [← hw3, ← hg7]; exact heap_alloc_new w2 _
      have hs3 : w3.heap.size = g7 + 1 := by rw [← hw3, ← hg7]; simp
      have hin3 : InAt w3 gi (X.drop 2, 0) := hin2.below (by rw [hg7]; exact hb3)
      have hp := H.out.2.2.2.2.2.1.1
      obtain ⟨v1, s1, e1⟩ : ∃ v1 s1, numR 0 65536 (X.drop 2, 0) = (v1, s1) := ⟨_, _, rfl⟩
      obtain ⟨hrd1, N1, rfl, hN1, hc1⟩ := rd_cnt (n := c.ins.length) HO.out.2.2 (by have := hp.i2; omega) (by have := hp.i2; omega) v1 s1 e1
      have hnum := inum_any gi (X.drop 2, 0) 0 65536 w3 hin3
      rw [e1] at hnum
      have hN1b : N1 ≤ 65536 := by have := hp.i2; omega
      have hs2 := hb2.size
      have HW := Lib.hid (And.intro hnum (And.intro hb2 (And.intro hb3 (And.intro hr3 (And.intro hs3 (And.intro hrd1 (And.intro hc1 (And.intro hw3 (And.intro hg7 hN1)))))))))
      have hgi7 : gi < g7 := by omega
      clear hin2 hb2 hb3 hr3 hs3 hin3 hp e1 hrd1 hc1 hnum hw3 hg7 hN1
      go_upto_region 8 with (fail)
      rw [HW.out.2.2.2.2.2.2.2.1, HW.out.2.2.2.2.2.2.2.2.1]
      go_wp2_with fail
      refine HW.out.1.mono ?_
      rintro e w4 ⟨rfl, hin4, hgr4⟩
      have hs3 := HW.out.2.2.2.2.1
      have hs4 := hgr4.size
      have hr4 : w4.heap[g7]? = _ := (hgr4.block g7 (by omega) (by simp; omega)).trans HW.out.2.2.2.1
      have hD : DecI 50 3 (fun v => #[v, .slice none 0 0, .slice none 0 0, .int .i64 0]) w4 g7 gi [] 0 s1 w4 := ⟨none, 0, hr4, World.ownsRow_nil _ _ _ _, hin4, Keeps.refl _ _⟩
      have H4 := Lib.hid (And.intro hD (And.intro hgr4 (show g7 + 1 ≤ w4.heap.size by omega)))
      have h47 : g7 < w4.heap.size := by omega
      clear hin4 hgr4 hr4 hD hs3 hs4
      go_wp2_with fail
      obtain ⟨R1, hR1⟩ : ∃ R1, enc (c.strs.length : Int) ++ (strsB c.strs ++ (enc (c.funs.length : Int) ++ (numsB c.funs ++ enc c.glob))) = R1 := ⟨_, rfl⟩
      have HR1 := Lib.hid hR1
      clear hR1
      go_loopw [31] (fun v31 wr => ∃ (i : Nat) (l : List InsP) (s : St), i ≤ N1 ∧ v31 = .int .i64 (i : Int) ∧ l.length = i ∧ DecI 50 3 (fun v => #[v, .slice none 0 0, .slice none 0 0, .int .i64 0]) w4 g7 gi (l.map insRow).flatten i s wr ∧ Rd whole (inssB (c.ins.drop i) ++ R1) s ∧ (whole = true → l = c.ins.take i) ∧ CntR whole c.ins.length N1 s) (fun v31 _ => N1 - (intOf v31).toNat)
      case atStart => exact ⟨0, [], s1, by omega, rfl, rfl, H4.out.1, by have := HW.out.2.2.2.2.2.1; rw [← HR1.out]; simpa using this, fun _ => rfl, HW.out.2.2.2.2.2.2.1⟩
      case round =>
        obtain ⟨i, l, s, hi, rfl, hll, ⟨ao, cap1, hrow, hown, hin, hk⟩, hrd, hlt, hcn⟩ := hrel
        have hsr := hk.size
        have hao := fun j (hj : blk ao = some j) => hown.lt j (by rw [own_slice]; exact hj)
        have HI := Lib.hid (And.intro hrow (And.intro hown (And.intro hin (And.intro hk (And.intro hrd (And.intro hlt (And.intro hcn (And.intro hao hll))))))))
        clear hrow hown hin hk hrd hlt hcn hao hll
        by_cases hil : i < N1
        · have hd1 : decide ((i : Int) < (N1 : Int)) = true := decide_eq_true (by omega)
          have hNn : N1 = c.ins.length := by
            rcases HI.out.2.2.2.2.2.2.1 with h | ⟨_, h, _⟩
            · exact h
            · omega
          have hic : i < c.ins.length := by omega
          obtain ⟨x, hx⟩ : ∃ x, c.ins[i] = x := ⟨_, rfl⟩
          have hdrop : inssB (c.ins.drop i) ++ R1 = insB x ++ (inssB (c.ins.drop (i + 1)) ++ R1) := by
            rw [List.drop_eq_getElem_cons hic, inssB_cons, hx, List.append_assoc]
          have hrd0 := HI.out.2.2.2.2.1
          rw [hdrop] at hrd0
          have hxR := H.out.2.2.2.2.2.2.1.1 _ (List.getElem_mem hic)
          have hxo := H.out.2.2.2.2.2.1.1.op _ (List.getElem_mem hic)
          rw [hx] at hxR hxo
          obtain ⟨n1, t1, e1⟩ : ∃ n1 t1, numR 0 28 s = (n1, t1) := ⟨_, _, rfl⟩
          obtain ⟨n2, t2, e2⟩ : ∃ n2 t2, numR (-9223372036854775808) 9223372036854775807 t1 = (n2, t2) := ⟨_, _, rfl⟩
          obtain ⟨n3, t3, e3⟩ : ∃ n3 t3, numR (-9223372036854775808) 9223372036854775807 t2 = (n3, t3) := ⟨_, _, rfl⟩
          obtain ⟨hrd3, hval, _⟩ := rd_ins hrd0 ⟨hxo.1, hxo.2.1⟩ hxR.2.1 hxR.2.2 n1 t1 e1 n2 t2 e2 n3 t3 e3
          have c1 := inum_any gi s 0 28
          rw [e1] at c1
          have c2 := inum_any gi t1 (-9223372036854775808) 9223372036854775807
          rw [e2] at c2
          have c3 := inum_any gi t2 (-9223372036854775808) 9223372036854775807
          rw [e3] at c3
          have hn7 : ¬ (g7 = gi ∨ blk ao = some g7 ∨ wr.heap.size ≤ g7) := fun h => by
            rcases h with h | h | h
            · omega
            · have := (HI.out.2.2.2.2.2.2.2.1 _ h).1; omega
            · omega
          have k0 : wr.cell? ⟨g7, 0, none⟩ = some (.slice ao i cap1) := cell_of_row _ _ 0 _ _ (0, 0) HI.out.1
          have HX := Lib.hid (And.intro c1 (And.intro c2 (And.intro c3 (And.intro hn7 (And.intro hrd3 (And.intro (show whole = true → l ++ [⟨n1, n2, n3⟩] = c.ins.take (i + 1) from fun hw => by rw [HI.out.2.2.2.2.2.1 hw, hval hw, List.take_succ_eq_append_getElem hic, hx]) (And.intro hNn k0)))))))
          clear hNn hx hdrop hrd0 hxR hxo e1 e2 e3 hrd3 hval c1 c2 c3 hn7 k0
          go_wp2_with fail
          refine seqk_start (fun b => b = gi ∨ blk ao = some b ∨ wr.heap.size ≤ b) [12] (by kernel_rfl) ?_
          refine seqk_take 0 (v := ?_) rfl (by kernel_rfl) (fun _ _ _ h => h) (by rfl) (fun w' hw' => ?_) ?_
          rotate_left
          · go_simp; try with_reducible rfl
          try simp only [List.getElem_toArray, List.getElem_cons_succ, List.getElem_cons_zero, Act.put, List.setIfInBounds_toArray, List.set_cons_zero, List.set_cons_succ]
          refine seqk_take 1 rfl (by kernel_rfl) (fun _ _ _ h => h) (by rfl) (fun w' hw' => (seq_ldInss rfl rfl (keeps_cell hw' (by exact HX.out.2.2.2.1) ((show wr.drew.cell? ⟨g7, 0, none⟩ = _ from HX.out.2.2.2.2.2.2.2)))) w' (Below.refl _ _)) ?_
          try simp only [List.getElem_toArray, List.getElem_cons_succ, List.getElem_cons_zero, Act.put, List.setIfInBounds_toArray, List.set_cons_zero, List.set_cons_succ]
          refine seqk_take 2 (v := ?_) rfl (by kernel_rfl) (fun _ _ _ h => h) (by rfl) (fun w' hw' => ?_) ?_
          rotate_left
          · go_simp; try with_reducible rfl
          try simp only [List.getElem_toArray, List.getElem_cons_succ, List.getElem_cons_zero, Act.put, List.setIfInBounds_toArray, List.set_cons_zero, List.set_cons_succ]
          refine seqk_take 4 (v := ?_) rfl (by kernel_rfl) (fun _ _ _ h => h) (by rfl) (fun w' hw' => ?_) ?_
          rotate_left
          · go_simp; try with_reducible rfl
          try simp only [List.getElem_toArray, List.getElem_cons_succ, List.getElem_cons_zero, Act.put, List.setIfInBounds_toArray, List.set_cons_zero, List.set_cons_succ]
          refine seqk_take 6 (v := ?_) rfl (by kernel_rfl) (fun _ _ _ h => h) (by rfl) (fun w' hw' => ?_) ?_
          rotate_left
          · go_simp; try with_reducible rfl
          try simp only [List.getElem_toArray, List.getElem_cons_succ, List.getElem_cons_zero, Act.put, List.setIfInBounds_toArray, List.set_cons_zero, List.set_cons_succ]
          refine seqk_run 3 rfl (by kernel_rfl) (by rfl) (fun KK hKK => ?_)
          go_wp2_with fail
          refine (HX.out.1 _ (HI.out.2.2.1.below (Below.refl _ _).drew)).mono ?_
          rintro e w5 ⟨rfl, hin5, hg5⟩
          have HK5 := Lib.hid (And.intro hin5 (show Keeps (fun b => b = gi) wr.drew w5 from Keeps.of_grown hg5 rfl))
          clear hin5 hg5
          go_wp2_with fail
          refine ⟨HK5.out.2.mono (fun b _ h => .inl h), ?_⟩
          refine seqk_run 5 rfl (by kernel_rfl) (by rfl) (fun KK hKK => ?_)
          go_wp2_with fail
          refine (HX.out.2.1 _ HK5.out.1).mono ?_
          rintro e w6 ⟨rfl, hin6, hg6⟩
          have HK6 := Lib.hid (And.intro hin6 (show Keeps (fun b => b = gi) w5 w6 from Keeps.of_grown hg6 rfl))
          clear hin6 hg6
          go_wp2_with fail
          refine ⟨HK6.out.2.mono (fun b _ h => .inl h), ?_⟩
          refine seqk_run 7 rfl (by kernel_rfl) (by rfl) (fun KK hKK => ?_)
          go_wp2_with fail
          refine (HX.out.2.2.1 _ HK6.out.1).mono ?_
          rintro e w7 ⟨rfl, hin7, hg7⟩
          have HK7 := Lib.hid (And.intro hin7 (And.intro (show Keeps (fun b => b = gi) w6 w7 from Keeps.of_grown hg7 rfl) (show Keeps (fun b => b = gi) wr w7 from (((Keeps.drew _ wr).trans' HK5.out.2).trans' HK6.out.2).trans' (Keeps.of_grown hg7 rfl))))
          clear hin7 hg7
          go_wp2_with fail
          refine ⟨HK7.out.2.1.mono (fun b _ h => .inl h), ?_⟩
          refine seqk_take 8 (v := ?_) rfl (by kernel_rfl) (fun _ _ _ h => h) (by rfl) (fun w' hw' => ?_) ?_
          rotate_left
          · go_simp; try with_reducible rfl
          try simp only [List.getElem_toArray, List.getElem_cons_succ, List.getElem_cons_zero, Act.put, List.setIfInBounds_toArray, List.set_cons_zero, List.set_cons_succ]
          refine seqk_run 9 rfl (by kernel_rfl) (by rfl) (fun KK hKK => ?_)
          go_wp2_with fail
          refine ⟨Keeps.alloc _ _ _, ?_⟩
          obtain ⟨wv, hwv⟩ : ∃ wv, w7.alloc (.cells #[.int .i64 n1, .int .i64 n2, .int .i64 n3] 50) = wv := ⟨_, rfl⟩
          have hbv : Below w7.heap.size w7 wv := by rw [← hwv]; exact (Below.refl _ _).alloc (Nat.le_refl _) _
          have hatv : At wv (some ⟨w7.heap.size, 0, none⟩) (insRow ⟨n1, n2, n3⟩) := by rw [← hwv]; exact At.new w7 #[.int .i64 n1, .int .i64 n2, .int .i64 n3] _
          have HV := Lib.hid (And.intro hbv (And.intro hatv hwv))
          have hs7 := HK7.out.2.2.size
          have hsv := hbv.size
          rw [hwv]
          clear hbv hatv hwv
          refine seqk_run 10 rfl (by kernel_rfl) (by rfl) (fun KK hKK => ?_)
          refine wp_ins _ _ rfl w4.heap.size ao cap1 i _ rfl (owns_below (owns_keeps HI.out.2.1 HK7.out.2.2 (fun b hb h => by rw [own_slice] at hb; have := (HI.out.2.2.2.2.2.2.2.1 b hb).1; omega)) HV.out.1) ⟨n1, n2, n3⟩ w7.heap.size rfl HV.out.2.1 (by omega) (by omega) ?_
          intro ao5 cap5 w8 q1 q2 q3
          refine hKK _ _ ⟨(Keeps.of_grown' q2 (fun b hb => .inr (.inl hb))), ?_⟩
          have HS := Lib.hid (dec_step (f := 0) (row := fun v => #[v, .slice none 0 0, .slice none 0 0, .int .i64 0]) (fun _ _ => rfl) (fun _ => rfl) HI.out.1 HI.out.2.2.2.2.2.2.2.1 HI.out.2.2.2.1 hgi7 h47 HK7.out.2.2 HK7.out.1 HV.out.1 q1 q2)
          obtain ⟨r1, r2, -⟩ := HS.out
          clear q1 q2 q3
          refine seqk_take 11 (v := ?_) rfl (by kernel_rfl) (fun _ _ _ h => h) (by rfl) (fun w' hw' => ?_) ?_
          rotate_left
          · go_simp; try with_reducible rfl
          try simp only [List.getElem_toArray, List.getElem_cons_succ, List.getElem_cons_zero, Act.put, List.setIfInBounds_toArray, List.set_cons_zero, List.set_cons_succ]
          refine seqk_last 12 rfl (by kernel_rfl) (by kernel_rfl) (by rfl) (fun KK hKK => ?_)
          go_wp2_with fail
          refine seql_done (by kernel_rfl) ?_
          go_wp2_with fail
          go_roundw
          case rel => exact ⟨i + 1, l ++ [⟨n1, n2, n3⟩], t3, by omega, by simp, by rw [List.length_append, HI.out.2.2.2.2.2.2.2.2]; rfl, by have := HS.out.2.2; simpa using this, HX.out.2.2.2.2.1, HX.out.2.2.2.2.2.1, .inl HX.out.2.2.2.2.2.2.1⟩
          case measure => simp [intOf]; omega
        · obtain rfl : i = N1 := by omega
          have hd1 : decide ((i : Int) < (i : Int)) = false := decide_eq_false (by omega)
          rename World => wB
          have hp := H.out.2.2.2.2.2.1.1
          have hrdR := CntR.done (B := inssB) (l := c.ins) rfl rfl HI.out.2.2.2.2.2.2.1 HI.out.2.2.2.2.1
          obtain ⟨R2, hR2⟩ : ∃ R2, enc (c.funs.length : Int) ++ (numsB c.funs ++ enc c.glob) = R2 := ⟨_, rfl⟩
          rw [← HR1.out, hR2] at hrdR
          obtain ⟨v2, s2, e2⟩ : ∃ v2 s2, numR 0 4096 s = (v2, s2) := ⟨_, _, rfl⟩
          obtain ⟨hrd2, N2, rfl, hN2, hc2⟩ := rd_cnt (n := c.strs.length) hrdR (by have := hp.s; omega) (by have := hp.s; omega) v2 s2 e2
          have hnum := inum_any gi s 0 4096 wB HI.out.2.2.1
          rw [e2] at hnum
          have hN2b : N2 ≤ 4096 := by have := hp.s; omega
          have HW2 := Lib.hid (And.intro hnum (And.intro hrd2 (And.intro hc2 (And.intro hN2 hR2))))
          clear hp hrdR e2 hrd2 hc2 hnum hN2 hR2
          go_wp2_with fail
          refine HW2.out.1.mono ?_
          rintro e w5 ⟨rfl, hin5, hgr5⟩
          have hs5 := hgr5.size
          have hr5 : w5.heap[g7]? = _ := (hgr5.block g7 (by omega) (by simp; omega)).trans HI.out.1
          have hk5 : Keeps (fun b => b = gi) wB w5 := Keeps.of_grown hgr5 rfl
          have hD : DecI 9 1 (fun v => #[.slice ao i cap1, v, .slice none 0 0, .int .i64 0]) w5 g7 gi (strCells []) 0 s2 w5 := ⟨none, 0, hr5, World.ownsRow_nil _ _ _ _, hin5, Keeps.refl _ _⟩
          have hao5 : ∀ j, blk ao = some j → g7 < j ∧ j < w5.heap.size := fun j hj => by have := HI.out.2.2.2.2.2.2.2.1 j hj; omega
          have hat5 : At w5 ao (l.map insRow).flatten := At.own (owns_keeps HI.out.2.1 hk5 (fun b hb h => by rw [own_slice] at hb; have := (hao5 b hb).1; omega))
          have hk45 : Keeps (fun b => b = g7 ∨ b = gi ∨ w4.heap.size ≤ b) w4 w5 := HI.out.2.2.2.1.trans' (hk5.mono (fun b _ h => .inr (.inl h)))
          have H5 := Lib.hid (And.intro hD (And.intro hao5 (And.intro hat5 (And.intro hk45 (And.intro HI.out.2.2.2.2.2.1 HI.out.2.2.2.2.2.2.2.2)))))
          have h57 : g7 < w5.heap.size := by omega
          clear hin5 hgr5 hr5 hD hao5 hat5 hk45 hk5
          go_wp2_with fail
          go_loopw [48] (fun v48 wr => ∃ (i : Nat) (l2 : List (List UInt8)) (s : St), i ≤ N2 ∧ v48 = .int .i64 (i : Int) ∧ l2.length = i ∧ DecI 9 1 (fun v => #[.slice ao l.length cap1, v, .slice none 0 0, .int .i64 0]) w5 g7 gi (strCells l2) i s wr ∧ Rd whole (strsB (c.strs.drop i) ++ R2) s ∧ (whole = true → l2 = c.strs.take i) ∧ CntR whole c.strs.length N2 s) (fun v48 _ => N2 - (intOf v48).toNat)
          case atStart => exact ⟨0, [], s2, by omega, rfl, rfl, by rw [H5.out.2.2.2.2.2]; exact H5.out.1, by simpa using HW2.out.2.1, fun _ => rfl, HW2.out.2.2.1⟩
          case round =>
            obtain ⟨j, l2, s', hj, rfl, hll, ⟨ao2, cap2, hrow, hown, hin, hk⟩, hrd, hlt, hcn⟩ := hrel
            have hsr := hk.size
            have hao := fun b (hb : blk ao2 = some b) => hown.lt b (by rw [own_slice]; exact hb)
            have HJ := Lib.hid (And.intro hrow (And.intro hown (And.intro hin (And.intro hk (And.intro hrd (And.intro hlt (And.intro hcn (And.intro hao hll))))))))
            clear hrow hown hin hk hrd hlt hcn hao hll
            by_cases hjl : j < N2
            · have hd2 : decide ((j : Int) < (N2 : Int)) = true := decide_eq_true (by omega)
              have hNn : N2 = c.strs.length := by
                rcases HJ.out.2.2.2.2.2.2.1 with h | ⟨_, h, _⟩
                · exact h
                · omega
              have hjc : j < c.strs.length := by omega
              obtain ⟨x, hx⟩ : ∃ x, c.strs[j] = x := ⟨_, rfl⟩
              have hdrop : strsB (c.strs.drop j) ++ R2 = strB x ++ (strsB (c.strs.drop (j + 1)) ++ R2) := by
                rw [List.drop_eq_getElem_cons hjc, strsB_cons, hx, List.append_assoc]
              have hrd0 := HJ.out.2.2.2.2.1
              rw [hdrop] at hrd0
              have hxl := H.out.2.2.2.2.2.1.1.str _ (List.getElem_mem hjc)
              rw [hx] at hxl
              obtain ⟨y, t1, e1⟩ : ∃ y t1, strR 4096 s' = (y, t1) := ⟨_, _, rfl⟩
              obtain ⟨hrd3, hval⟩ := rd_str (hi := 4096) hrd0 (by omega) (by omega)
              rw [e1] at hrd3 hval
              simp only at hrd3 hval
              have c1 := istr_any gi s' 4096
              rw [e1] at c1
              have hn7 : ¬ (g7 = gi ∨ blk ao2 = some g7 ∨ wr.heap.size ≤ g7) := fun h => by
                rcases h with h | h | h
                · omega
                · have := (HJ.out.2.2.2.2.2.2.2.1 _ h).1; omega
                · omega
              have k0 : wr.cell? ⟨g7, 1, none⟩ = some (.slice ao2 j cap2) := cell_of_row _ _ 1 _ _ (0, 0) HJ.out.1
              have HX2 := Lib.hid (And.intro c1 (And.intro hn7 (And.intro hrd3 (And.intro (show whole = true → l2 ++ [y] = c.strs.take (j + 1) from fun hw => by rw [HJ.out.2.2.2.2.2.1 hw, hval hw, List.take_succ_eq_append_getElem hjc, hx]) (And.intro hNn k0)))))
              clear hNn hx hdrop hrd0 hxl e1 hrd3 hval c1 hn7 k0
              go_wp2_with fail
              refine seqk_start (fun b => b = gi ∨ blk ao2 = some b ∨ wr.heap.size ≤ b) [7] (by kernel_rfl) ?_
              refine seqk_take 0 (v := ?_) rfl (by kernel_rfl) (fun _ _ _ h => h) (by rfl) (fun w' hw' => ?_) ?_
              rotate_left
              · go_simp; try with_reducible rfl
              try simp only [List.getElem_toArray, List.getElem_cons_succ, List.getElem_cons_zero, Act.put, List.setIfInBounds_toArray, List.set_cons_zero, List.set_cons_succ]
              refine seqk_take 1 rfl (by kernel_rfl) (fun _ _ _ h => h) (by rfl) (fun w' hw' => (seq_ldSS rfl rfl (keeps_cell hw' (by exact HX2.out.2.1) ((show wr.drew.cell? ⟨g7, 1, none⟩ = _ from HX2.out.2.2.2.2.2)))) w' (Below.refl _ _)) ?_
              try simp only [List.getElem_toArray, List.getElem_cons_succ, List.getElem_cons_zero, Act.put, List.setIfInBounds_toArray, List.set_cons_zero, List.set_cons_succ]
              refine seqk_take 2 (v := ?_) rfl (by kernel_rfl) (fun _ _ _ h => h) (by rfl) (fun w' hw' => ?_) ?_
              rotate_left
              · go_simp; try with_reducible rfl
              try simp only [List.getElem_toArray, List.getElem_cons_succ, List.getElem_cons_zero, Act.put, List.setIfInBounds_toArray, List.set_cons_zero, List.set_cons_succ]
              refine seqk_run 3 rfl (by kernel_rfl) (by rfl) (fun KK hKK => ?_)
              go_wp2_with fail
              refine (HX2.out.1 _ (HJ.out.2.2.1.below (Below.refl _ _).drew)).mono ?_
              rintro e w7 ⟨rfl, hin7, hg7⟩
              have HK7 := Lib.hid (And.intro hin7 (And.intro (show Keeps (fun b => b = gi) wr.drew w7 from Keeps.of_grown hg7 rfl) (show Keeps (fun b => b = gi) wr w7 from (Keeps.drew _ wr).trans' (Keeps.of_grown hg7 rfl))))
              clear hin7 hg7
              go_wp2_with fail
              refine ⟨HK7.out.2.1.mono (fun b _ h => .inl h), ?_⟩
              refine seqk_run 4 rfl (by kernel_rfl) (by rfl) (fun KK hKK => ?_)
              go_wp2_with fail
              refine ⟨Keeps.alloc _ _ _, ?_⟩
              obtain ⟨wv, hwv⟩ : ∃ wv, w7.alloc (.cells #[.string ⟨y.toArray⟩] 9) = wv := ⟨_, rfl⟩
              have hbv : Below w7.heap.size w7 wv := by rw [← hwv]; exact (Below.refl _ _).alloc (Nat.le_refl _) _
              have hatv : At wv (some ⟨w7.heap.size, 0, none⟩) [.string ⟨y.toArray⟩] := by rw [← hwv]; exact At.new w7 #[.string ⟨y.toArray⟩] _
              have HV := Lib.hid (And.intro hbv (And.intro hatv hwv))
              have hs7 := HK7.out.2.2.size
              have hsv := hbv.size
              rw [hwv]
              clear hbv hatv hwv
              refine seqk_run 5 rfl (by kernel_rfl) (by rfl) (fun KK hKK => ?_)
              refine wp_strs _ _ rfl w5.heap.size ao2 cap2 j _ rfl (owns_below (owns_keeps HJ.out.2.1 HK7.out.2.2 (fun b hb h => by rw [own_slice] at hb; have := (HJ.out.2.2.2.2.2.2.2.1 b hb).1; omega)) HV.out.1) y w7.heap.size rfl HV.out.2.1 (by omega) (by omega) ?_
              intro ao5 cap5 w8 q1 q2 q3
              refine hKK _ _ ⟨(Keeps.of_grown' q2 (fun b hb => .inr (.inl hb))), ?_⟩
              have HS := Lib.hid (dec_step (f := 1) (row := fun v => #[.slice ao l.length cap1, v, .slice none 0 0, .int .i64 0]) (fun _ _ => rfl) (fun _ => rfl) HJ.out.1 HJ.out.2.2.2.2.2.2.2.1 HJ.out.2.2.2.1 hgi7 h57 HK7.out.2.2 HK7.out.1 HV.out.1 q1 q2)
              obtain ⟨r1, r2, -⟩ := HS.out
              clear q1 q2 q3
              refine seqk_take 6 (v := ?_) rfl (by kernel_rfl) (fun _ _ _ h => h) (by rfl) (fun w' hw' => ?_) ?_
              rotate_left
              · go_simp; try with_reducible rfl
              try simp only [List.getElem_toArray, List.getElem_cons_succ, List.getElem_cons_zero, Act.put, List.setIfInBounds_toArray, List.set_cons_zero, List.set_cons_succ]
              refine seqk_last 7 rfl (by kernel_rfl) (by kernel_rfl) (by rfl) (fun KK hKK => ?_)
              go_wp2_with fail
              refine seql_done (by kernel_rfl) ?_
              go_wp2_with fail
              go_roundw
              case rel => exact ⟨j + 1, l2 ++ [y], t1, by omega, by simp, by rw [List.length_append, HJ.out.2.2.2.2.2.2.2.2]; rfl, HS.out.2.2, HX2.out.2.2.1, HX2.out.2.2.2.1, .inl HX2.out.2.2.2.2.1⟩
              case measure => simp [intOf]; omega
            · obtain rfl : j = N2 := by omega
              have hd2 : decide ((j : Int) < (j : Int)) = false := decide_eq_false (by omega)
              rename World => wB2
              have hp := H.out.2.2.2.2.2.1.1
              have hrdR := CntR.done (B := strsB) (l := c.strs) rfl rfl HJ.out.2.2.2.2.2.2.1 HJ.out.2.2.2.2.1
              rw [← HW2.out.2.2.2.2] at hrdR
              obtain ⟨v3, s3, e3⟩ : ∃ v3 s3, numR 0 4096 s' = (v3, s3) := ⟨_, _, rfl⟩
              obtain ⟨hrd3, N3, rfl, hN3, hc3⟩ := rd_cnt (n := c.funs.length) hrdR (by have := hp.f2; omega) (by have := hp.f2; omega) v3 s3 e3
              have hnum := inum_any gi s' 0 4096 wB2 HJ.out.2.2.1
              rw [e3] at hnum
              have hN3b : N3 ≤ 4096 := by have := hp.f2; omega
              have HW3 := Lib.hid (And.intro hnum (And.intro hrd3 (And.intro hc3 hN3)))
              clear hp hrdR e3 hrd3 hc3 hnum hN3
              go_wp2_with fail
              refine HW3.out.1.mono ?_
              rintro e w6 ⟨rfl, hin6, hgr6⟩
              have hs6 := hgr6.size
              have hr6 : w6.heap[g7]? = _ := (hgr6.block g7 (by omega) (by simp; omega)).trans HJ.out.1
              have hk6 : Keeps (fun b => b = gi) wB2 w6 := Keeps.of_grown hgr6 rfl
              have hD : DecI 3 1 (fun v => #[.slice ao l.length cap1, .slice ao2 j cap2, v, .int .i64 0]) w6 g7 gi (intsV []) 0 s3 w6 := ⟨none, 0, hr6, World.ownsRow_nil _ _ _ _, hin6, Keeps.refl _ _⟩
              have hao6 : ∀ b, blk ao2 = some b → g7 < b ∧ b < w6.heap.size := fun b hb => by have := HJ.out.2.2.2.2.2.2.2.1 b hb; omega
              have hat6 : At w6 ao2 (strCells l2) := At.own (owns_keeps HJ.out.2.1 hk6 (fun b hb h => by rw [own_slice] at hb; have := (hao6 b hb).1; omega))
              have hk56 : Keeps (fun b => b = g7 ∨ b = gi ∨ w5.heap.size ≤ b) w5 w6 := HJ.out.2.2.2.1.trans' (hk6.mono (fun b _ h => .inr (.inl h)))
              have hat16 : At w6 ao (l.map insRow).flatten := H5.out.2.2.1.keeps hk56 (fun b hb _ h => by have := H5.out.2.1 b hb; omega)
              have H6 := Lib.hid (And.intro hD (And.intro hao6 (And.intro hat6 (And.intro hat16 (And.intro hk56 (And.intro HJ.out.2.2.2.2.2.1 HJ.out.2.2.2.2.2.2.2.2))))))
              have h67 : g7 < w6.heap.size := by omega
              clear hin6 hgr6 hr6 hD hao6 hat6 hat16 hk56 hk6
              go_wp2_with fail
              go_loopw [60] (fun v60 wr => ∃ (i : Nat) (l3 : List Int) (s : St), i ≤ N3 ∧ v60 = .int .i64 (i : Int) ∧ l3.length = i ∧ DecI 3 1 (fun v => #[.slice ao l.length cap1, .slice ao2 l2.length cap2, v, .int .i64 0]) w6 g7 gi (intsV l3) i s wr ∧ Rd whole (numsB (c.funs.drop i) ++ enc c.glob) s ∧ (whole = true → l3 = c.funs.take i) ∧ CntR whole c.funs.length N3 s) (fun v60 _ => N3 - (intOf v60).toNat)
              case atStart => exact ⟨0, [], s3, by omega, rfl, rfl, by rw [H6.out.2.2.2.2.2.2]; exact H6.out.1, by simpa using HW3.out.2.1, fun _ => rfl, HW3.out.2.2.1⟩
              case round =>
                obtain ⟨k, l3, s4, hkN, rfl, hll, ⟨ao3, cap3, hrow, hown, hin, hk⟩, hrd, hlt, hcn⟩ := hrel
                have hsr := hk.size
                have hao := fun b (hb : blk ao3 = some b) => hown.lt b (by rw [own_slice]; exact hb)
                have HK := Lib.hid (And.intro hrow (And.intro hown (And.intro hin (And.intro hk (And.intro hrd (And.intro hlt (And.intro hcn (And.intro hao hll))))))))
                clear hrow hown hin hk hrd hlt hcn hao hll
                by_cases hkl : k < N3
                · have hd3 : decide ((k : Int) < (N3 : Int)) = true := decide_eq_true (by omega)
                  have hNn : N3 = c.funs.length := by
                    rcases HK.out.2.2.2.2.2.2.1 with h | ⟨_, h, _⟩
                    · exact h
                    · omega
                  have hkc : k < c.funs.length := by omega
                  obtain ⟨x, hx⟩ : ∃ x, c.funs[k] = x := ⟨_, rfl⟩
                  have hdrop : numsB (c.funs.drop k) ++ enc c.glob = enc x ++ (numsB (c.funs.drop (k + 1)) ++ enc c.glob) := by
                    rw [List.drop_eq_getElem_cons hkc, numsB_cons, hx, List.append_assoc]
                  have hrd0 := HK.out.2.2.2.2.1
                  rw [hdrop] at hrd0
                  have hxr : 0 ≤ x ∧ x < c.ins.length := by
                    obtain ⟨_, F, _, hcl⟩ := H.out.2.2.2.2.2.1.2
                    have h := hcl.start k x (by rw [List.getElem?_eq_getElem hkc, hx])
                    exact ⟨h.1, h.2.1⟩
                  have hins := H.out.2.2.2.2.2.1.1.i2
                  obtain ⟨y, t1, e1⟩ : ∃ y t1, numR 0 65536 s4 = (y, t1) := ⟨_, _, rfl⟩
                  obtain ⟨hrd3, hval⟩ := rd_num (lo := 0) (hi := 65536) hrd0 (⟨by omega, by omega⟩ : In64 x) hxr.1 (by omega)
                  rw [e1] at hrd3 hval
                  simp only at hrd3 hval
                  have c1 := inum_any gi s4 0 65536
                  rw [e1] at c1
                  have hn7 : ¬ (g7 = gi ∨ blk ao3 = some g7 ∨ wr.heap.size ≤ g7) := fun h => by
                    rcases h with h | h | h
                    · omega
                    · have := (HK.out.2.2.2.2.2.2.2.1 _ h).1; omega
                    · omega
                  have k0 : wr.cell? ⟨g7, 2, none⟩ = some (.slice ao3 k cap3) := cell_of_row _ _ 2 _ _ (0, 0) HK.out.1
                  have HX3 := Lib.hid (And.intro c1 (And.intro hn7 (And.intro hrd3 (And.intro (show whole = true → l3 ++ [y] = c.funs.take (k + 1) from fun hw => by
                    have hy : y = x := by
                      rcases hval with h | ⟨h, _⟩
                      · exact h
                      · rw [hw] at h; cases h
                    rw [HK.out.2.2.2.2.2.1 hw, hy, List.take_succ_eq_append_getElem hkc, hx]) (And.intro hNn k0)))))
                  clear hNn hx hdrop hrd0 hxr hins e1 hrd3 hval c1 hn7 k0
                  go_wp2_with fail
                  refine seqk_start (fun b => b = gi ∨ blk ao3 = some b ∨ wr.heap.size ≤ b) [7] (by kernel_rfl) ?_
                  refine seqk_take 0 (v := ?_) rfl (by kernel_rfl) (fun _ _ _ h => h) (by rfl) (fun w' hw' => ?_) ?_
                  rotate_left
                  · go_simp; try with_reducible rfl
                  try simp only [List.getElem_toArray, List.getElem_cons_succ, List.getElem_cons_zero, Act.put, List.setIfInBounds_toArray, List.set_cons_zero, List.set_cons_succ]
                  refine seqk_take 1 rfl (by kernel_rfl) (fun _ _ _ h => h) (by rfl) (fun w' hw' => (seq_ldII rfl rfl (keeps_cell hw' (by exact HX3.out.2.1) ((show wr.drew.cell? ⟨g7, 2, none⟩ = _ from HX3.out.2.2.2.2.2)))) w' (Below.refl _ _)) ?_
                  try simp only [List.getElem_toArray, List.getElem_cons_succ, List.getElem_cons_zero, Act.put, List.setIfInBounds_toArray, List.set_cons_zero, List.set_cons_succ]
                  refine seqk_take 2 (v := ?_) rfl (by kernel_rfl) (fun _ _ _ h => h) (by rfl) (fun w' hw' => ?_) ?_
                  rotate_left
                  · go_simp; try with_reducible rfl
                  try simp only [List.getElem_toArray, List.getElem_cons_succ, List.getElem_cons_zero, Act.put, List.setIfInBounds_toArray, List.set_cons_zero, List.set_cons_succ]
                  refine seqk_run 3 rfl (by kernel_rfl) (by rfl) (fun KK hKK => ?_)
                  go_wp2_with fail
                  refine (HX3.out.1 _ (HK.out.2.2.1.below (Below.refl _ _).drew)).mono ?_
                  rintro e w7 ⟨rfl, hin7, hg7⟩
                  have HK7 := Lib.hid (And.intro hin7 (And.intro (show Keeps (fun b => b = gi) wr.drew w7 from Keeps.of_grown hg7 rfl) (show Keeps (fun b => b = gi) wr w7 from (Keeps.drew _ wr).trans' (Keeps.of_grown hg7 rfl))))
                  clear hin7 hg7
                  go_wp2_with fail
                  refine ⟨HK7.out.2.1.mono (fun b _ h => .inl h), ?_⟩
                  refine seqk_run 4 rfl (by kernel_rfl) (by rfl) (fun KK hKK => ?_)
                  go_wp2_with fail
                  refine ⟨Keeps.alloc _ _ _, ?_⟩
                  obtain ⟨wv, hwv⟩ : ∃ wv, w7.alloc (.cells #[.int .i64 y] 3) = wv := ⟨_, rfl⟩
                  have hbv : Below w7.heap.size w7 wv := by rw [← hwv]; exact (Below.refl _ _).alloc (Nat.le_refl _) _
                  have hatv : At wv (some ⟨w7.heap.size, 0, none⟩) (intsV [y]) := by rw [← hwv]; exact At.new w7 #[.int .i64 y] _
                  have HV := Lib.hid (And.intro hbv (And.intro hatv hwv))
                  have hs7 := HK7.out.2.2.size
                  have hsv := hbv.size
                  rw [hwv]
                  clear hbv hatv hwv
                  refine seqk_run 5 rfl (by kernel_rfl) (by rfl) (fun KK hKK => ?_)
                  refine wp_ints _ _ rfl w6.heap.size ao3 cap3 l3 k rfl (owns_below (owns_keeps HK.out.2.1 HK7.out.2.2 (fun b hb h => by rw [own_slice] at hb; have := (HK.out.2.2.2.2.2.2.2.1 b hb).1; omega)) HV.out.1) (some ⟨w7.heap.size, 0, none⟩) 1 1 [y] rfl HV.out.2.1 rfl (by omega) (by omega) ?_
                  intro ao5 cap5 w8 q1 q2 q3
                  refine hKK _ _ ⟨(Keeps.of_grown' q2 (fun b hb => .inr (.inl hb))), ?_⟩
                  have HS := Lib.hid (dec_step (f := 2) (row := fun v => #[.slice ao l.length cap1, .slice ao2 l2.length cap2, v, .int .i64 0]) (fun _ _ => rfl) (fun _ => rfl) HK.out.1 HK.out.2.2.2.2.2.2.2.1 HK.out.2.2.2.1 hgi7 h67 HK7.out.2.2 HK7.out.1 HV.out.1 q1 q2)
                  obtain ⟨r1, r2, -⟩ := HS.out
                  clear q1 q2 q3
                  refine seqk_take 6 (v := ?_) rfl (by kernel_rfl) (fun _ _ _ h => h) (by rfl) (fun w' hw' => ?_) ?_
                  rotate_left
                  · go_simp; try with_reducible rfl
                  try simp only [List.getElem_toArray, List.getElem_cons_succ, List.getElem_cons_zero, Act.put, List.setIfInBounds_toArray, List.set_cons_zero, List.set_cons_succ]
                  refine seqk_last 7 rfl (by kernel_rfl) (by kernel_rfl) (by rfl) (fun KK hKK => ?_)
                  go_wp2_with fail
                  refine seql_done (by kernel_rfl) ?_
                  go_wp2_with fail
                  go_roundw
                  case rel => exact ⟨k + 1, l3 ++ [y], t1, by omega, by simp, by rw [List.length_append, HK.out.2.2.2.2.2.2.2.2]; rfl, HS.out.2.2, HX3.out.2.2.1, HX3.out.2.2.2.1, .inl HX3.out.2.2.2.2.1⟩
                  case measure => simp [intOf]; omega
                · obtain rfl : k = N3 := by omega
                  have hd3 : decide ((k : Int) < (k : Int)) = false := decide_eq_false (by omega)
                  rename World => wB3
                  have hp := H.out.2.2.2.2.2.1.1
                  have hrdR := CntR.done (B := numsB) (l := c.funs) rfl rfl HK.out.2.2.2.2.2.2.1 HK.out.2.2.2.2.1
                  rw [show enc c.glob = enc c.glob ++ [] by simp] at hrdR
                  obtain ⟨zg, s5, e5⟩ : ∃ zg s5, numR 0 4096 s4 = (zg, s5) := ⟨_, _, rfl⟩
                  obtain ⟨hrd5, hval⟩ := rd_num (lo := 0) (hi := 4096) hrdR (⟨by have := hp.g1; omega, by have := hp.g2; omega⟩ : In64 c.glob) hp.g1 hp.g2
                  rw [e5] at hrd5 hval
                  simp only at hrd5 hval
                  have hnum := inum_any gi s4 0 4096 wB3 HK.out.2.2.1
                  rw [e5] at hnum
                  have HW4 := Lib.hid (And.intro hnum (And.intro hrd5 (show whole = true → zg = c.glob from fun hw => by
                    rcases hval with h | ⟨h, _⟩
                    · exact h
                    · rw [hw] at h; cases h)))
                  clear hp hrdR e5 hrd5 hval hnum
                  go_wp2_with fail
                  refine HW4.out.1.mono ?_
                  rintro e w7 ⟨rfl, hin7, hgr7⟩
                  have hs7 := hgr7.size
                  have hr7 : w7.heap[g7]? = _ := (hgr7.block g7 (by omega) (by simp; omega)).trans HK.out.1
                  have k3 : w7.cell? ⟨g7, 3, none⟩ = some (.int .i64 0) := cell_of_row _ _ 3 _ _ (0, 0) hr7
                  have hf7 := frozen_of_row w7 g7 3 _ _ hr7
                  have H7 := Lib.hid (And.intro hin7 (And.intro hr7 (show Keeps (fun b => b = gi) wB3 w7 from Keeps.of_grown hgr7 rfl)))
                  clear hin7 hgr7 hr7
                  go_wp2_with fail
                  obtain ⟨w8, hw8⟩ : ∃ w8, w7.setCell ⟨g7, 3, none⟩ (.int .i64 zg) = w8 := ⟨_, rfl⟩
                  have hk8 : Keeps (fun b => b = g7) w7 w8 := by rw [← hw8]; exact Keeps.of_grown (setCell_grown0 _ _ _ _) rfl
                  have hin8 : InAt w8 gi s5 := H7.out.1.keepX hk8 (fun b hb => by omega)
                  have hr8 : w8.heap[g7]? = some (.cells #[.slice ao l.length cap1, .slice ao2 l2.length cap2, .slice ao3 k cap3, .int .i64 zg] 35 (0, 0)) := by rw [← hw8, setCell_row0 3 _ H7.out.2.1]; rfl
                  have hend := end_any gi s5 w8 hin8
                  have hre := rd_end HW4.out.2.1
                  have hs8 := hk8.size
                  have H8 := Lib.hid (And.intro hend (And.intro hre (And.intro hk8 (And.intro hr8 hw8))))
                  clear hend hre hk8 hin8 hr8 hw8 k3 hf7
                  rw [H8.out.2.2.2.2]
                  refine H8.out.1.mono ?_
                  rintro e w9 ⟨rfl, -, hgr9⟩
                  rw [H8.out.2.1]
                  have hs9 := hgr9.size
                  have hk9 : Keeps (fun b => b = gi) w8 w9 := Keeps.of_grown hgr9 rfl
                  have hr9 : w9.heap[g7]? = _ := (hk9.block g7 (by omega) (by omega)).trans H8.out.2.2.2.1
                  have hk69 : Keeps (fun b => b = g7 ∨ b = gi ∨ w6.heap.size ≤ b) w6 w9 := ((HK.out.2.2.2.1.trans' (H7.out.2.2.mono (fun b _ h => .inr (.inl h)))).trans' (H8.out.2.2.1.mono (fun b _ h => .inl h))).trans' (hk9.mono (fun b _ h => .inr (.inl h)))
                  have hsV1 := H.out.2.2.2.1
                  have hkV9 : Keeps (fun b => V.heap.size ≤ b) V w9 := by
                    have a1 : Keeps (fun b => V.heap.size ≤ b) V w2 := (Keeps.of_below (HZ.out.1.trans (HW.out.2.1.mono hs1)))
                    have a2 : Keeps (fun b => V.heap.size ≤ b) w2 w3 := Keeps.of_below (by rw [HW.out.2.2.2.2.2.2.2.2.1]; exact HW.out.2.2.1)
                    have a3 : Keeps (fun b => V.heap.size ≤ b) w3 w4 := Keeps.of_grown H4.out.2.1 (show V.heap.size ≤ gi by omega)
                    have a4 : Keeps (fun b => V.heap.size ≤ b) w4 w5 := H5.out.2.2.2.1.mono (fun b _ h => by show V.heap.size ≤ b; rcases h with h | h | h <;> omega)
                    have a5 : Keeps (fun b => V.heap.size ≤ b) w5 w6 := H6.out.2.2.2.2.1.mono (fun b _ h => by show V.heap.size ≤ b; rcases h with h | h | h <;> omega)
                    have a6 : Keeps (fun b => V.heap.size ≤ b) w6 w9 := hk69.mono (fun b _ h => by show V.heap.size ≤ b; rcases h with h | h | h <;> omega)
                    exact ((((a1.trans' a2).trans' a3).trans' a4).trans' a5).trans' a6
                  have hbV9 : Below V.heap.size V w9 := hkV9.below (fun i hi h => by omega) (Nat.le_refl _)
                  have hrg9 := (hbV9.block g (by omega)).trans H.out.2.2.1
                  have hao3 := HK.out.2.2.2.2.2.2.2.1
                  have hat39 : At w9 ao3 (intsV l3) := At.own (owns_keeps (owns_keeps (owns_keeps HK.out.2.1 H7.out.2.2 (fun b hb h => by rw [own_slice] at hb; have := (hao3 b hb).1; omega)) H8.out.2.2.1 (fun b hb h => by rw [own_slice] at hb; have := (hao3 b hb).1; omega)) hk9 (fun b hb h => by rw [own_slice] at hb; have := (hao3 b hb).1; omega))
                  have hat29 : At w9 ao2 (strCells l2) := H6.out.2.2.1.keeps hk69 (fun b hb _ h => by have := H6.out.2.1 b hb; omega)
                  have hat19 : At w9 ao (l.map insRow).flatten := H6.out.2.2.2.1.keeps hk69 (fun b hb _ h => by have := H5.out.2.1 b hb; omega)
                  have H9 := Lib.hid (And.intro hbV9 (And.intro hrg9 (And.intro hat19 (And.intro hat29 (And.intro hat39 (And.intro hao3 hr9))))))
                  clear hgr9 hk9 hk69 hkV9 hbV9 hrg9 hat19 hat29 hat39 hao3 hr9
                  cases whole with
                  | false =>
                    simp only [Bool.false_eq_true, if_false]
                    go_wp2_with (refine wpList_store_mid rfl 35 _ _ rfl g 0 #[.slice none 0 0, .slice none 0 0, .slice none 0 0, .int .i64 0] rfl rfl (code_there H9.out.2.1) (by kernel_rfl) (code_one _ _ _ _ _ _ _ _ _ _) ?_)
                    have hks := Keeps.setCells g [.slice none 0 0, .slice none 0 0, .slice none 0 0, .int .i64 0] 0 w9
                    refine bodyPost_ret (v := .tuple #[.agg #[.slice none 0 0, .slice none 0 0, .slice none 0 0, .int .i64 0], .int .i64 2]) (results_dec _ _ g _ _ _ _ _ rfl rfl (code_row H9.out.2.1 _ _ _ _)) rfl ⟨?_, .inr ⟨rfl, _, _, _, _, 2, rfl, ⟨_, _, _, rfl⟩, ⟨_, _, _, rfl⟩, ⟨_, _, _, rfl⟩, ⟨_, rfl⟩, .inr rfl⟩⟩
                    rw [H.out.2.2.2.2.2.2.2.2.2.1]
                    exact H.out.2.1.trans ((H9.out.1.mono (by omega)).trans (hks.below (fun i hi h => by omega) (by have := H9.out.1.size; omega)))
                  | true =>
                    simp only [if_true]
                    have hp := H.out.2.2.2.2.2.1.1
                    have ei : i = c.ins.length := by
                      rcases HI.out.2.2.2.2.2.2.1 with h | ⟨h, _⟩
                      · exact h
                      · cases h
                    have ej : j = c.strs.length := by
                      rcases HJ.out.2.2.2.2.2.2.1 with h | ⟨h, _⟩
                      · exact h
                      · cases h
                    have ek : k = c.funs.length := by
                      rcases HK.out.2.2.2.2.2.2.1 with h | ⟨h, _⟩
                      · exact h
                      · cases h
                    have el : l = c.ins := by rw [H5.out.2.2.2.2.1 rfl, ei, List.take_length]
                    have el2 : l2 = c.strs := by rw [H6.out.2.2.2.2.2.1 rfl, ej, List.take_length]
                    have el3 : l3 = c.funs := by rw [HK.out.2.2.2.2.2.1 rfl, ek, List.take_length]
                    have eg : zg = c.glob := HW4.out.2.2 rfl
                    have hr9 := H9.out.2.2.2.2.2.2
                    rw [el, el2, ek, eg] at hr9
                    have hw9 := H9.out.1.size
                    have hcm : CodeMem w9 (fun b => g < b ∧ b < w9.heap.size) c ao ao2 ao3 := by
                      refine ⟨?_, by rw [← el2]; exact H9.out.2.2.2.1, by rw [← el3]; exact H9.out.2.2.2.2.1, fun b hb _ => ?_, fun b hb _ => ?_, fun b hb _ => ?_, H.out.2.2.2.2.2.2.1.1, fun t ht => by have := hp.str t ht; omega, H.out.2.2.2.2.2.2.1.2⟩
                      · exact rowsAt_of_flat3 (by rw [← el]; exact H9.out.2.2.1) (by intro r hr; obtain ⟨x, _, rfl⟩ := List.mem_map.1 hr; rfl)
                      · have := H5.out.2.1 b hb
                        exact ⟨by omega, by omega⟩
                      · have := H6.out.2.1 b hb
                        exact ⟨by omega, by omega⟩
                      · have := H9.out.2.2.2.2.2.1 b hb
                        exact ⟨by omega, by omega⟩
                    have hver := verify_any (icap := cap1) (scap := cap2) (fcap := cap3) (hcm.mono (fun b hb => (show b < w9.heap.size from hb.2))) (shtab_below H.out.2.2.2.2.1 H9.out.1) (by have := hp.i2; omega) (by have := hp.s; omega) (by have := hp.f2; omega) (by have := hp.g1; have := hp.g2; unfold R64i; omega)
                    have k0 : w9.cell? ⟨g7, 0, none⟩ = some (.slice ao c.ins.length cap1) := cell_of_row _ _ 0 _ _ (0, 0) hr9
                    have k1 : w9.cell? ⟨g7, 1, none⟩ = some (.slice ao2 c.strs.length cap2) := cell_of_row _ _ 1 _ _ (0, 0) hr9
                    have k2 : w9.cell? ⟨g7, 2, none⟩ = some (.slice ao3 c.funs.length cap3) := cell_of_row _ _ 2 _ _ (0, 0) hr9
                    have k3 : w9.cell? ⟨g7, 3, none⟩ = some (.int .i64 c.glob) := cell_of_row _ _ 3 _ _ (0, 0) hr9
                    have HY := Lib.hid (And.intro hver (And.intro hcm hr9))
                    clear hver hcm hr9 ei ej ek el el2 el3 eg hp
                    go_wp2_with fail
                    refine HY.out.1.mono ?_
                    rintro e w10 ⟨hb10, hres10⟩
                    obtain rfl : e = .returned (.int .i64 0) := by
                      rcases hres10 with ⟨_, h⟩ | ⟨h, _⟩
                      · exact h
                      · exact absurd H.out.2.2.2.2.2.1 h
                    have hs10 := hb10.size
                    have hr10 := (hb10.block g7 (by omega)).trans HY.out.2.2
                    have hg10 := (hb10.block g (by omega)).trans H9.out.2.1
                    have k0 : w10.cell? ⟨g7, 0, none⟩ = some (.slice ao c.ins.length cap1) := cell_of_row _ _ 0 _ _ (0, 0) hr10
                    have k1 : w10.cell? ⟨g7, 1, none⟩ = some (.slice ao2 c.strs.length cap2) := cell_of_row _ _ 1 _ _ (0, 0) hr10
                    have k2 : w10.cell? ⟨g7, 2, none⟩ = some (.slice ao3 c.funs.length cap3) := cell_of_row _ _ 2 _ _ (0, 0) hr10
                    have k3 : w10.cell? ⟨g7, 3, none⟩ = some (.int .i64 c.glob) := cell_of_row _ _ 3 _ _ (0, 0) hr10
                    have H10 := Lib.hid (And.intro hb10 hg10)
                    clear hb10 hr10 hg10 hres10
                    go_wp2_with (refine wpList_store_mid rfl 35 _ _ rfl g 0 #[.slice ao c.ins.length cap1, .slice ao2 c.strs.length cap2, .slice ao3 c.funs.length cap3, .int .i64 c.glob] rfl rfl (code_there H10.out.2) (by kernel_rfl) (code_one _ _ _ _ _ _ _ _ _ _) ?_)
                    have hks := Keeps.setCells g [.slice ao c.ins.length cap1, .slice ao2 c.strs.length cap2, .slice ao3 c.funs.length cap3, .int .i64 c.glob] 0 w10
                    have hsk := hks.size
                    refine bodyPost_ret (v := .tuple #[.agg #[.slice ao c.ins.length cap1, .slice ao2 c.strs.length cap2, .slice ao3 c.funs.length cap3, .int .i64 c.glob], .int .i64 0]) (results_dec _ _ g _ _ _ _ _ rfl rfl (code_row H10.out.2 _ _ _ _)) rfl ⟨?_, .inl ⟨rfl, ao, ao2, ao3, cap1, cap2, cap3, rfl, ?_⟩⟩
                    · rw [H.out.2.2.2.2.2.2.2.2.2.1]
                      exact H.out.2.1.trans (((H9.out.1.mono (by omega)).trans (H10.out.1.mono (by omega))).trans (hks.below (fun i hi h => by omega) (by omega)))
                    · exact ((HY.out.2.1.below H10.out.1).keeps hks (fun b hb h => by have := hb.1; omega)).mono (fun b hb => by have := hb.2; omega)
end Go.Proofs.YtnhdefaagicejaaDoor
