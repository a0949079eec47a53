/- The walk of a log's Open. -/
import Derived.Test.YtpeehagaiofobaaDoorWal5
namespace Go.Proofs.YtpeehagaiofobaaDoor
open Go.RowKit

theorem yields_max2 {P : Program} {o : Oper} {x y : Operand} {ts : Array TypeId} {a : Act} {w : World} (ho : o.op = .call { callee := .builtin .max, args := #[x, y], argTypes := ts }) {k : IntKind} {p q n : Int} (hx : a.eval x = .int k p) (hy : a.eval y = .int k q) (hn : max p q = n) :
    ∀ w', Below w.heap.size w w' → (execOp a.eval o).run P w' = .ok (.value (.int k n)) w' := by
  intro w' _
  have hr := run_max_int2 (P := P) (w := w') ts o.type k k p q
  have e : (if q > p then q else p) = n := by rw [← hn, Int.max_def]; split <;> split <;> omega
  rw [e] at hr
  unfold execOp
  simp only [ho, resolve, invoke, builtin, Sem.run_bind, Sem.run_pure, Result.andThen_ok, List.map_toArray, List.map_cons, List.map_nil, hx, hy, hr]

/-- One slice of bytes more in a row of such. -/
theorem app_oneR {w : World} {ops : Array Oper} {rest : List Oper} {o : Oper} {a : Act} {Q : Exit → Act → World → Prop} (hgd : Region.wanted o (yielded ops a.tmps) = true) (s x : Operand)
    (ho : o.op = .call { callee := .builtin .append, args := #[s, x], argTypes := #[31, 31] })
    (base : Nat) (ao : Option Addr) (cap n : Nat) (xs : List Value) (hs : a.eval s = .slice ao n cap) (hown : w.ownsRow base 40 1 (.slice ao n cap) n xs)
    (u : Value) (hu : u.oneCell' = true) (hx : a.eval x = .slice (some ⟨w.heap.size, 0, none⟩) 1 1)
    (hb : n ≤ 1000000000) (hbase : base ≤ w.heap.size)
    (h : ∀ ao' cap' w', w'.ownsRow base 40 1 (.slice ao' (n + 1) cap') (n + 1) (xs ++ [u]) → Keeps (fun i => blk ao = some i) w w' → (blk ao' = blk ao ∨ ∀ g, blk ao' = some g → w.heap.size < g) → wpList Tryd.prog ops Q rest (a.put o.dst (.slice ao' (n + 1) cap')) w') :
    wpList Tryd.prog ops Q (o :: rest) a (w.alloc (.cells #[u] 40)) := by
  obtain ⟨i0, hi, hz0, hz1, hz2⟩ := info_parts infoR
  refine wpList_go hgd fun K hK => ?_
  have hat : At (w.alloc (.cells #[u] 40)) (some ⟨w.heap.size, 0, none⟩) [u] := At.new w #[u] _
  refine wp_append s x 31 31 ho base 40 i0 (.slice none 0 0) 1 24 Tryd.underlying31 hi hz0 hz1 hz2 rfl _ n xs hs (hown.alloc _) _ 1 [u] hx
    (hat.src Tryd.underlying31 rfl (by intro y hy; simp at hy; rw [hy]; exact hu) (by decide)) (by unfold maxLen; omega) (by omega) (by simp; omega) ?_
  intro ao' cap' w' h1 h2 h3
  rw [own_slice] at h2 h3
  refine hK _ _ (h ao' cap' w' h1 ?_ ?_)
  · refine ⟨h2.os, h2.tape, h2.output, by have := h2.size; simp at this; omega, fun k hk hne => ?_⟩
    rw [h2.block k (by simp; omega) (fun e => hne e.symm)]
    exact Below.heap_alloc w _ k hk
  · exact h3.imp id fun e g hg => by rw [e] at hg; simp at hg; omega

/-- A record's bytes in a block of their own. -/
def RecV (w : World) (B : Nat) (ro : Option Addr) (v : Value) (r : List UInt8) : Prop := ∃ ao cap, v = .slice ao r.length cap ∧ At w ao (bytesV r) ∧ ∀ b, blk ao = some b → B ≤ b ∧ b < w.heap.size ∧ blk ro ≠ some b
theorem RecV.keeps {X : Nat → Prop} {w w' : World} {B : Nat} {ro ro' : Option Addr} {v : Value} {r : List UInt8} (h : RecV w B ro v r) (hk : Keeps X w w') (hX : ∀ b, B ≤ b → b < w.heap.size → blk ro ≠ some b → ¬ X b) (hro : ∀ b, b < w.heap.size → blk ro ≠ some b → blk ro' ≠ some b) : RecV w' B ro' v r := by
  obtain ⟨ao, cap, rfl, hat, hb⟩ := h
  exact ⟨ao, cap, rfl, hat.keeps hk (fun b hb' _ => hX b (hb b hb').1 (hb b hb').2.1 (hb b hb').2.2), fun b hb' => ⟨(hb b hb').1, Nat.lt_of_lt_of_le (hb b hb').2.1 hk.size, hro b (hb b hb').2.1 (hb b hb').2.2⟩⟩
/-- Records, as they are handed out. -/
def RecsAt (w : World) (B : Nat) (ro : Option Addr) (recs : List (List UInt8)) : Prop :=
  ∃ vs, At w ro vs ∧ All2 (RecV w B ro) vs recs ∧ ∀ b, blk ro = some b → B ≤ b ∧ b < w.heap.size
theorem RecsAt.keeps {X : Nat → Prop} {w w' : World} {B : Nat} {ro : Option Addr} {recs : List (List UInt8)} (h : RecsAt w B ro recs) (hk : Keeps X w w') (hX : ∀ b, B ≤ b → b < w.heap.size → ¬ X b) : RecsAt w' B ro recs := by
  obtain ⟨vs, h1, h2, h3⟩ := h
  exact ⟨vs, h1.keeps hk (fun b hb _ => hX b (h3 b hb).1 (h3 b hb).2), h2.mono fun a b _ hr => hr.keeps hk (fun b h1 h2 _ => hX b h1 h2) (fun _ _ h => h), fun b hb => ⟨(h3 b hb).1, Nat.lt_of_lt_of_le (h3 b hb).2 hk.size⟩⟩
theorem RecsAt.below {w w' : World} {B : Nat} {ro : Option Addr} {recs : List (List UInt8)} (h : RecsAt w B ro recs) (hb : Below w.heap.size w w') : RecsAt w' B ro recs := h.keeps (X := fun _ => False) (Keeps.of_below hb) (fun _ _ _ h => h)

theorem recsAt_of {w : World} {B B' : Nat} {e : TypeId} {ro : Option Addr} {k cap : Nat} {vs : List Value} {recs : List (List UInt8)} (hB : B' ≤ B) (hown : w.ownsRow B e 1 (.slice ro k cap) k vs) (h2 : All2 (RecV w B ro) vs recs) : RecsAt w B' ro recs :=
  ⟨vs, At.own hown, h2.mono fun v r _ ⟨ao, c, h1, h2, h3⟩ => ⟨ao, c, h1, h2, fun b hb => ⟨Nat.le_trans hB (h3 b hb).1, (h3 b hb).2⟩⟩, fun b hb => ⟨Nat.le_trans hB (hown.lt b (by rw [own_slice]; exact hb)).1, (hown.lt b (by rw [own_slice]; exact hb)).2⟩⟩
def OpenOk (w : World) (d : Nat) (l : LS) (recs : List (List UInt8)) (x : Ending) (w' : World) : Prop :=
  ∃ g ro rcap, x = .returned (.tuple #[.pointer (some ⟨g, 0, none⟩), .slice ro recs.length rcap, .int .i64 0]) ∧ LogAt w' g d l ∧ w.heap.size ≤ g ∧ RecsAt w' w.heap.size ro recs ∧ Below w.heap.size w w'

theorem LogAt.setAge {w : World} {g d : Nat} {l : LS} (h : LogAt w g d l) (a : Nat) : LogAt (w.setCell ⟨g, 3, none⟩ (.int .i64 (a : Int))) g d { l with age := a } := setCell_row0 3 _ h
theorem LogAt.setNext {w : World} {g d : Nat} {l : LS} (h : LogAt w g d l) (a : Nat) : LogAt (w.setCell ⟨g, 4, none⟩ (.int .i64 (a : Int))) g d { l with next := a } := setCell_row0 4 _ h
theorem LogAt.setPos {w : World} {g d : Nat} {l : LS} (h : LogAt w g d l) (a : Nat) : LogAt (w.setCell ⟨g, 5, none⟩ (.int .i64 (a : Int))) g d { l with at_ := a } := setCell_row0 5 _ h
def lenV : Value → Nat
  | .slice _ n _ => n
  | _ => 0
theorem Recs.head {sec : Nat → List UInt8} {age : Nat} : ∀ {recs : List (List UInt8)} {p n e k : Nat} (hk : k < recs.length) {q : Nat}, Recs sec age p n (recs.take k) q → Recs sec age p n recs e → RecAt sec age q (n + k) recs[k] ∧ recs[k].length ≤ 1000000 ∧ Recs sec age p n (recs.take (k + 1)) (q + needN recs[k].length) ∧ q + needN recs[k].length ≤ e
  | [], _, _, _, _, hk, _, _, _ => absurd hk (Nat.not_lt_zero _)
  | b :: bs, p, n, e, 0, _, q, h0, h => by
    obtain rfl : q = p := h0
    exact ⟨h.1, h.2.1, ⟨h.1, h.2.1, rfl⟩, by have := Recs.ge h.2.2; simp only [List.getElem_cons_zero]; omega⟩
  | b :: bs, p, n, e, k + 1, hk, q, h0, h => by
    obtain ⟨h1, h2, h3, h4⟩ := Recs.head (recs := bs) (k := k) (by simpa using hk) h0.2.2 h.2.2
    simp only [List.getElem_cons_succ]
    exact ⟨by rw [show n + (k + 1) = n + 1 + k by omega]; exact h1, h2, ⟨h.1, h.2.1, h3⟩, h4⟩
theorem Recs.uniq {sec : Nat → List UInt8} {age : Nat} : ∀ {recs : List (List UInt8)} {p n e e' : Nat}, Recs sec age p n recs e → Recs sec age p n recs e' → e = e'
  | [], _, _, _, _, h, h' => h.trans h'.symm
  | _ :: _, _, _, _, _, h, h' => Recs.uniq h.2.2 h'.2.2

theorem openBad_any {B : Nat} {M I : Nat → Prop} {d : Nat} {s : DS} (w : World) (h : DiskAt B w M I d s) (hn : s.L.length ≤ 1000000000) (f c : Int) (hf0 : -9223372036854775808 ≤ f) (hf1 : f ≤ 9223372036854775807) (hc0 : -9223372036854775808 ≤ c) (hc1 : c ≤ 9223372036854775807) (hr : rightB s.L.length f c = false) :
    Calls Tryd.prog 7 #[.pointer (some ⟨d, 0, none⟩), .int .i64 f, .int .i64 c] w (fun e w' => e = .returned (.tuple #[.pointer none, .slice none 0 0, .int .i64 1]) ∧ Below w.heap.size w w') := by
  have H := Lib.hid (And.intro h hr)
  clear h hr
  go_enter Tryd.func7, Tryd.ntmps7
  go_wp2_with fail
  refine (right_any _ (H.out.1.below ((Below.refl _ w).alloc (Nat.le_refl _) _)) hn f c hf0 hf1 hc0 hc1).mono ?_
  rintro e w1 ⟨rfl, hb1⟩
  rw [H.out.2]
  have hb := ((Below.refl _ w).alloc (Nat.le_refl _) (.cells #[.pointer (some ⟨d, 0, none⟩), .int .i64 f, .int .i64 c, .int .i64 0, .int .i64 0, .int .i64 2] 60)).trans (hb1.mono (by simp))
  have HB := Lib.hid hb
  clear hb hb1
  go_wp2_with fail
  go_returns
  exact ⟨rfl, HB.out⟩

set_option maxRecDepth 100000 in
set_option maxHeartbeats 4000000 in
theorem open_log {B : Nat} {M I : Nat → Prop} {d : Nat} {s : DS} (w : World) (h : DiskAt B w M I d s) (hoff : s.off = false) (hW : s.W = []) (hL : s.L.length ≤ 1000000) (f cnt age e : Nat) (recs : List (List UInt8)) (hinv : LogInv (secOf s.L f) cnt age recs e) (hc : 3 ≤ cnt) (hin : f + cnt ≤ s.L.length) (hage : age ≤ 1000000000) (ht : Tab w) :
    Calls Tryd.prog 7 #[.pointer (some ⟨d, 0, none⟩), .int .i64 (f : Int), .int .i64 (cnt : Int)] w (OpenOk w d ⟨f, cnt, age, recs.length, e⟩ recs) := by
  have H := Lib.hid h
  have HS := Lib.hid (And.intro hoff hW)
  have HRD := Lib.hid (fun k (hk : f + k < s.L.length) => readE_on s hoff hW f k hk)
  have HI := Lib.hid hinv
  have HT := Lib.hid ht
  have hpos := hinv.pos
  have hle := hinv.le
  have htwo := hinv.two
  have hright : rightB s.L.length (f : Int) (cnt : Int) = true := decide_eq_true ⟨by omega, by omega, by omega, by omega⟩
  have HRI := Lib.hid hright
  obtain ⟨a0, a1, ha0, ha1, hmax⟩ := hinv.heads
  have HH := Lib.hid (And.intro ha0 (And.intro ha1 hmax))
  have ha0le : a0 ≤ age := by omega
  have ha1le : a1 ≤ age := by omega
  clear h hoff hW hinv ht hright ha0 ha1 hmax
  go_enter Tryd.func7, Tryd.ntmps7
  go_wp2_with fail
  have hlog0 : LogAt (w.alloc (.cells #[.pointer (some ⟨d, 0, none⟩), .int .i64 (f : Int), .int .i64 (cnt : Int), .int .i64 0, .int .i64 0, .int .i64 2] 60)) w.heap.size d ⟨f, cnt, 0, 0, 2⟩ := heap_alloc_new w _
  generalize hW0 : w.alloc (.cells #[.pointer (some ⟨d, 0, none⟩), .int .i64 (f : Int), .int .i64 (cnt : Int), .int .i64 0, .int .i64 0, .int .i64 2] 60) = W at *
  have hbW : Below w.heap.size w W := by rw [← hW0]; exact (Below.refl _ w).alloc (Nat.le_refl _) _
  have hszW : W.heap.size = w.heap.size + 1 := by rw [← hW0]; simp
  have H0 := Lib.hid (And.intro hlog0 hbW)
  clear hlog0 hW0 hbW
  refine (right_any W (H.out.below H0.out.2) (by omega) (f : Int) (cnt : Int) (by omega) (by omega) (by omega) (by omega)).mono ?_
  rintro x w1 ⟨rfl, hb1⟩
  rw [HRI.out]
  have H1 := Lib.hid (And.intro (H0.out.1.below hb1) (H0.out.2.trans (hb1.mono (by omega))))
  have hsz1 := hb1.size
  clear hb1
  go_wp2_with fail
  -- the heads
  go_loopw [30] (fun v wr => ∃ (k a : Nat), k ≤ 2 ∧ v = .int .i64 (k : Int) ∧ Hid (a = if k = 0 then 0 else if k = 1 then a0 else age) ∧ LogAt wr w.heap.size d ⟨f, cnt, a, 0, 2⟩ ∧ Below w.heap.size w wr ∧ w.heap.size < wr.heap.size) (fun v _ => 2 - (intOf v).toNat)
  case atStart => exact ⟨0, 0, by omega, rfl, Lib.hid rfl, H1.out.1, H1.out.2, by omega⟩
  case round =>
    obtain ⟨k, a, hk, rfl, HA, hlog, hbr, hszr⟩ := hrel
    have HO := Lib.hid (And.intro hlog hbr)
    clear hlog hbr
    by_cases hlt : k < 2
    · have hlt' : decide ((k : Int) < 2) = true := decide_eq_true (by omega)
      obtain ⟨hd, hhd, hhdle, hamax⟩ : ∃ hd, HeadIs (secOf s.L f k) hd ∧ hd ≤ age ∧ max a hd = if k + 1 = 0 then 0 else if k + 1 = 1 then a0 else age := by
        have : k = 0 ∨ k = 1 := by omega
        have hA := HA.out
        rcases this with rfl | rfl
        · exact ⟨a0, HH.out.1, ha0le, by rw [hA]; simp⟩
        · exact ⟨a1, HH.out.2.1, ha1le, by rw [hA]; simpa using HH.out.2.2⟩
      have HHD := Lib.hid (And.intro hhd hamax)
      have hale : a ≤ age := by
        rw [HA.out]; split
        · omega
        · split <;> omega
      have hlen := headIs_length hhd (by omega)
      have HLEN := Lib.hid hlen
      clear hhd hamax hlen
      obtain ⟨q0, q1, q2, q3, q4, q5⟩ := HO.out.1.cells
      have HQ3 := Lib.hid q3
      have HFZ := Lib.hid (HO.out.1.fz 3)
      have HRK := Lib.hid (HRD.out k (by omega))
      clear q3 q4 q5
      go_wp2_with fail
      refine (wread_any wr (H.out.below HO.out.2) f cnt k (by omega) (by omega)).mono ?_
      rintro x w2 ⟨po, pcap, rfl, hownp, hb2⟩
      rw [HRK.out] at hownp ⊢
      simp only [HLEN.out] at hownp ⊢
      have hpcap : 512 ≤ pcap := by
        obtain ⟨_, _, e, h⟩ := owns_form hownp
        cases e; exact h
      have H2 := Lib.hid (And.intro (At.own hownp) (And.intro hb2 (HO.out.1.below hb2)))
      have hsz2 := hb2.size
      clear hownp hb2 q0 q1 q2
      have HQ32 := Lib.hid H2.out.2.2.cells.2.2.2.1
      have hfz2 := H2.out.2.2.fz 3
      go_wp2_with fail
      refine seql_start [10] (by kernel_rfl) ?_
      refine seql_take 0 (v := ?_) rfl (by kernel_rfl) (fun _ _ _ h => h) (by rfl) (fun w' hw' => ?_) ?_
      rotate_left
      · go_simp; try with_reducible rfl
      try simp only [List.getElem_toArray, List.getElem_cons_succ, List.getElem_cons_zero, Act.put, List.setIfInBounds_toArray, List.set_cons_zero, List.set_cons_succ]
      refine seql_take 1 (v := ?_) rfl (by kernel_rfl) (fun _ _ _ h => h) (by rfl) (fun w' hw' => ?_) ?_
      rotate_left
      · go_simp; try with_reducible rfl
      try simp only [List.getElem_toArray, List.getElem_cons_succ, List.getElem_cons_zero, Act.put, List.setIfInBounds_toArray, List.set_cons_zero, List.set_cons_succ]
      refine seql_take 2 (v := ?_) rfl (by kernel_rfl) (fun _ _ _ h => h) (by rfl) (fun w' hw' => ?_) ?_
      rotate_left
      · go_simp; try with_reducible rfl
      try simp only [List.getElem_toArray, List.getElem_cons_succ, List.getElem_cons_zero, Act.put, List.setIfInBounds_toArray, List.set_cons_zero, List.set_cons_succ]
      refine seql_take 3 (v := ?_) rfl (by kernel_rfl) (fun _ _ _ h => h) (by rfl) (fun w' hw' => ?_) ?_
      rotate_left
      · go_simp; try with_reducible rfl
      try simp only [List.getElem_toArray, List.getElem_cons_succ, List.getElem_cons_zero, Act.put, List.setIfInBounds_toArray, List.set_cons_zero, List.set_cons_succ]
      refine seql_take 4 rfl (by kernel_rfl) (fun _ _ _ h => h) (by rfl) (seq_ldi rfl rfl ((show w2.drew.cell? ⟨w.heap.size, 3, none⟩ = _ from HQ32.out))) ?_
      try simp only [List.getElem_toArray, List.getElem_cons_succ, List.getElem_cons_zero, Act.put, List.setIfInBounds_toArray, List.set_cons_zero, List.set_cons_succ]
      refine seql_take 5 (v := ?_) rfl (by kernel_rfl) (fun _ _ _ h => h) (by rfl) (fun w' hw' => ?_) ?_
      rotate_left
      · go_simp; try with_reducible rfl
      try simp only [List.getElem_toArray, List.getElem_cons_succ, List.getElem_cons_zero, Act.put, List.setIfInBounds_toArray, List.set_cons_zero, List.set_cons_succ]
      refine seql_run 6 rfl (by kernel_rfl) (by rfl) (fun KK hKK => ?_)
      go_wp2_with fail
      refine (ageOf_any po pcap _ hd HHD.out.1 hpcap (by omega) w2.drew (show At w2.drew po _ from H2.out.1) (HT.out.below (HO.out.2.trans ((H2.out.2.1.mono (by omega)).drew)))).mono ?_
      rintro x w3 ⟨rfl, hb3⟩
      have hsz3 := hb3.size
      simp only [World.size_drew] at hsz3
      have hb3' : Below w.heap.size w w3 := ((HO.out.2.trans (H2.out.2.1.mono (by omega))).drew).trans (hb3.mono (by simp only [World.size_drew]; omega))
      have hlog3 : LogAt w3 w.heap.size d ⟨f, cnt, a, 0, 2⟩ := H2.out.2.2.drew.below hb3
      have H3 := Lib.hid (And.intro hlog3 hb3')
      have hfz3 := hlog3.fz 3
      have hc33 := hlog3.cells.2.2.2.1
      have HB3 := Lib.hid hb3
      have hmx : max (a : Int) (hd : Int) = ((max a hd : Nat) : Int) := by omega
      have HMX := Lib.hid hmx
      have HS3 := Lib.hid (show w.heap.size < w3.heap.size by omega)
      clear hb3 hb3' hlog3 hmx hfz2
      go_wp2_with fail
      refine ⟨HB3.out, ?_⟩
      refine seql_take 7 rfl (by kernel_rfl) (fun _ _ _ h => h) (by rfl) (yields_max2 rfl rfl rfl (HMX.out)) ?_
      try simp only [List.getElem_toArray, List.getElem_cons_succ, List.getElem_cons_zero, Act.put, List.setIfInBounds_toArray, List.set_cons_zero, List.set_cons_succ]
      refine seql_take 8 (v := ?_) rfl (by kernel_rfl) (fun _ _ _ h => h) (by rfl) (fun w' hw' => ?_) ?_
      rotate_left
      · go_simp; try with_reducible rfl
      try simp only [List.getElem_toArray, List.getElem_cons_succ, List.getElem_cons_zero, Act.put, List.setIfInBounds_toArray, List.set_cons_zero, List.set_cons_succ]
      refine seql_take 9 (v := ?_) rfl (by kernel_rfl) (fun _ _ _ h => h) (by rfl) (fun w' hw' => ?_) ?_
      rotate_left
      · go_simp; try with_reducible rfl
      try simp only [List.getElem_toArray, List.getElem_cons_succ, List.getElem_cons_zero, Act.put, List.setIfInBounds_toArray, List.set_cons_zero, List.set_cons_succ]
      refine seql_last 10 rfl (by kernel_rfl) (by kernel_rfl) (by rfl) (fun KK hKK => ?_)
      go_wp2_with fail
      refine seql_done (by kernel_rfl) ?_
      go_wp2_with fail
      go_roundw
      case rel => exact ⟨k + 1, max a hd, by omega, by simp, Lib.hid HHD.out.2, H3.out.1.setAge (max a hd), H3.out.2.setCell (p := ⟨w.heap.size, 3, none⟩) (Nat.le_refl _) _, by have := HS3.out; simpa using this⟩
      case measure => simp [intOf]; omega
    · obtain rfl : k = 2 := by omega
      obtain rfl : a = age := by rw [HA.out]; simp
      have hcells := HO.out.1.cells
      have HCE := Lib.hid hcells
      have c3 := hcells.2.2.2.1
      have hne0 : ((a : Int) == 0) = false := by simp; omega
      clear hcells HA
      go_wp2_with fail
      clear c3 hne0
      go_loopw [13] (fun v wr => ∃ (k p : Nat) (ro : Option Addr) (rcap : Nat) (vs : List Value), k ≤ recs.length ∧ v = .slice ro k rcap ∧ Hid (Recs (secOf s.L f) a 2 0 (recs.take k) p) ∧ LogAt wr w.heap.size d ⟨f, cnt, a, k, p⟩ ∧ Hid (wr.ownsRow (w.heap.size + 1) 40 1 (.slice ro k rcap) k vs ∧ All2 (RecV wr (w.heap.size + 1) ro) vs (recs.take k)) ∧ Below w.heap.size w wr ∧ w.heap.size < wr.heap.size) (fun v _ => recs.length - lenV v)
      case atStart => exact ⟨0, 2, none, 0, [], Nat.zero_le _, rfl, Lib.hid rfl, HO.out.1, Lib.hid ⟨World.ownsRow_nil _ _ _ _, by simpa using All2.nil⟩, HO.out.2, hszr⟩
      case round =>
        obtain ⟨k, p, ro, rcap, vs, hk, rfl, HRecs, hlog, HRow, hbq, hszq⟩ := hrel
        have HQ := Lib.hid (And.intro hlog hbq)
        have hcq := hlog.cells
        have HCQ := Lib.hid hcq
        have hpge : 2 + k ≤ p := by
          have := HRecs.out.ge
          rw [List.length_take, Nat.min_eq_left hk] at this
          exact this
        clear hlog hbq hcq
        by_cases hlt : k < recs.length
        · obtain ⟨hra, hrl, hrn, hre⟩ := Recs.head hlt HRecs.out HI.out.recs
          have HRA := Lib.hid (And.intro hra (And.intro hrl hrn))
          have hnp := needN_pos recs[k].length
          have hplt : p < cnt := by omega
          obtain ⟨b, hb⟩ : ∃ b, recs[k] = b := ⟨_, rfl⟩
          rw [hb] at HRA hre hnp
          have HB := Lib.hid hb
          clear hra hrl hrn hb
          go_wp2_with fail
          refine seq_start (by kernel_rfl) ?_
          refine seq_take 0 (v := ?_) rfl (by kernel_rfl) (fun _ _ _ h => h) (by rfl) (fun w' hw' => ?_) ?_
          rotate_left
          · go_simp; try with_reducible rfl
          try simp only [List.getElem_toArray, List.getElem_cons_succ, List.getElem_cons_zero, Act.put, List.setIfInBounds_toArray, List.set_cons_zero, List.set_cons_succ]
          refine seq_take 1 (v := ?_) rfl (by kernel_rfl) (fun _ _ _ h => h) (by rfl) (fun w' hw' => ?_) ?_
          rotate_left
          · go_simp; try with_reducible rfl
          try simp only [List.getElem_toArray, List.getElem_cons_succ, List.getElem_cons_zero, Act.put, List.setIfInBounds_toArray, List.set_cons_zero, List.set_cons_succ]
          refine seq_take 2 (v := ?_) rfl (by kernel_rfl) (fun _ _ _ h => h) (by rfl) (fun w' hw' => ?_) ?_
          rotate_left
          · go_simp; try with_reducible rfl
          try simp only [List.getElem_toArray, List.getElem_cons_succ, List.getElem_cons_zero, Act.put, List.setIfInBounds_toArray, List.set_cons_zero, List.set_cons_succ]
          refine seq_take 3 rfl (by kernel_rfl) (fun _ _ _ h => h) (by rfl) (seq_ldi rfl rfl ((show wr.drew.cell? ⟨w.heap.size, 5, none⟩ = _ from HCQ.out.2.2.2.2.2))) ?_
          try simp only [List.getElem_toArray, List.getElem_cons_succ, List.getElem_cons_zero, Act.put, List.setIfInBounds_toArray, List.set_cons_zero, List.set_cons_succ]
          refine seq_take 4 (v := ?_) rfl (by kernel_rfl) (fun _ _ _ h => h) (by rfl) (fun w' hw' => ?_) ?_
          rotate_left
          · go_simp; try with_reducible rfl
          try simp only [List.getElem_toArray, List.getElem_cons_succ, List.getElem_cons_zero, Act.put, List.setIfInBounds_toArray, List.set_cons_zero, List.set_cons_succ]
          refine seq_take 5 (v := ?_) rfl (by kernel_rfl) (fun _ _ _ h => h) (by rfl) (fun w' hw' => ?_) ?_
          rotate_left
          · go_simp; try with_reducible rfl
          try simp only [List.getElem_toArray, List.getElem_cons_succ, List.getElem_cons_zero, Act.put, List.setIfInBounds_toArray, List.set_cons_zero, List.set_cons_succ]
          refine seq_take 6 (v := ?_) rfl (by kernel_rfl) (fun _ _ _ h => h) (by rfl) (fun w' hw' => ?_) ?_
          rotate_left
          · go_simp; try with_reducible rfl
          try simp only [List.getElem_toArray, List.getElem_cons_succ, List.getElem_cons_zero, Act.put, List.setIfInBounds_toArray, List.set_cons_zero, List.set_cons_succ]
          refine seq_take 7 (v := ?_) rfl (by kernel_rfl) (fun _ _ _ h => h) (by rfl) (fun w' hw' => ?_) ?_
          rotate_left
          · go_simp; try with_reducible rfl
          try simp only [List.getElem_toArray, List.getElem_cons_succ, List.getElem_cons_zero, Act.put, List.setIfInBounds_toArray, List.set_cons_zero, List.set_cons_succ]
          refine seq_take 8 rfl (by kernel_rfl) (fun _ _ _ h => h) (by rfl) (seq_ldi rfl rfl ((show wr.drew.cell? ⟨w.heap.size, 2, none⟩ = _ from HCQ.out.2.2.1))) ?_
          try simp only [List.getElem_toArray, List.getElem_cons_succ, List.getElem_cons_zero, Act.put, List.setIfInBounds_toArray, List.set_cons_zero, List.set_cons_succ]
          refine seq_take 9 (v := ?_) rfl (by kernel_rfl) (fun _ _ _ h => h) (by rfl) (fun w' hw' => ?_) ?_
          rotate_left
          · go_simp; try with_reducible rfl
          try simp only [List.getElem_toArray, List.getElem_cons_succ, List.getElem_cons_zero, Act.put, List.setIfInBounds_toArray, List.set_cons_zero, List.set_cons_succ]
          refine seq_done (by kernel_rfl) ?_
          go_wp2_with fail
          refine (recordHit_any wr.drew (H.out.below HQ.out.2.drew) HS.out.1 HS.out.2 HQ.out.1.drew (by simp only; omega) hL (by simp only; omega) (by simp only; omega) (by have := HI.out.small; simp only; omega) b HRA.out.2.1 (by have := HRA.out.1; rwa [Nat.zero_add] at this) (by simp only; omega) (HT.out.below HQ.out.2.drew)).mono ?_
          rintro x w5 ⟨bo, bcap, rfl, hown5, hb5⟩
          have hb5' : Below wr.heap.size wr w5 := below_drew hb5
          have hs5 := hb5'.size
          have hlog5 : LogAt w5 w.heap.size d ⟨f, cnt, a, k, p⟩ := HQ.out.1.below hb5'
          have H5 := Lib.hid (And.intro hown5 (And.intro hb5' (And.intro hlog5 hb5)))
          have HR5 := Lib.hid (And.intro (owns_below HRow.out.1 hb5') (HRow.out.2.mono fun v r _ hv => hv.keeps (X := fun _ => False) (Keeps.of_below hb5') (fun _ _ _ _ h => h) (fun _ _ h => h)))
          have c5 := hlog5.cells.2.2.2.2.1
          have c6 := hlog5.cells.2.2.2.2.2
          have f4 := hlog5.fz 4
          have f5 := hlog5.fz 5
          have HCC := Lib.hid (And.intro c5 (And.intro c6 (And.intro f4 f5)))
          have hnb : needN b.length ≤ 1000000 := by have := HI.out.small; omega
          have hkb : k ≤ 1000000 := by have := HI.out.small; omega
          have hpb : p ≤ 1000000 := by have := HI.out.small; omega
          clear hown5 hb5 hb5' hlog5 c5 c6 f4 f5
          go_wp2_with (at_builtin; refine app_oneR rfl _ _ rfl (w.heap.size + 1) ro rcap k vs rfl HR5.out.1 _ rfl rfl (by omega) (by omega) ?_; rintro ro' rcap' w7 q1 q2 q3; have hlog7 : LogAt w7 w.heap.size d ⟨f, cnt, a, k, p⟩ := H5.out.2.2.1.keeps q2 (fun h => by have := (HR5.out.1.lt _ (by rw [own_slice]; exact h)).1; omega); have c57 := hlog7.cells.2.2.2.2.1; have c67 := hlog7.cells.2.2.2.2.2; have f47 := hlog7.fz 4; have f57 := hlog7.fz 5; have Q7 := Lib.hid (And.intro q1 (And.intro q2 (And.intro q3 hlog7))); clear q1 q2 q3 hlog7)
          go_roundw
          case rel =>
            have K57 := Q7.out.2.1
            have hs7 := K57.size
            have hgK : Keeps (fun i => i = w.heap.size) w7 ((w7.setCell ⟨w.heap.size, 5, none⟩ (.int .i64 ((p : Int) + (needN b.length : Int)))).setCell ⟨w.heap.size, 4, none⟩ (.int .i64 ((k : Int) + 1))) := Keeps.trans' (X := fun i => i = w.heap.size) (Keeps.of_grown (setCell_grown0 _ _ _ _) rfl) (Keeps.of_grown (setCell_grown0 _ _ _ _) rfl)
            have hro' : ∀ b', b' < w5.heap.size → blk ro ≠ some b' → blk ro' ≠ some b' := by
              intro b' hlt' hne h
              rcases Q7.out.2.2.1 with h2 | h2
              · exact hne (by rw [← h2]; exact h)
              · have := h2 b' h; omega
            have hnew : RecV w7 (w.heap.size + 1) ro' (.slice bo b.length bcap) b := by
              refine ⟨bo, bcap, rfl, (At.own H5.out.1).keeps K57 (fun b' hb' _ h => ?_), fun b' hb' => ?_⟩
              · have h1 := (H5.out.1.lt b' (by rw [own_slice]; exact hb')).1
                have h2 := (HRow.out.1.lt b' (by rw [own_slice]; exact h)).2
                simp only [World.size_drew] at h1
                omega
              · have h1 := H5.out.1.lt b' (by rw [own_slice]; exact hb')
                simp only [World.size_drew] at h1
                refine ⟨by omega, by omega, hro' b' h1.2 fun h => ?_⟩
                have h2 := (HRow.out.1.lt b' (by rw [own_slice]; exact h)).2
                omega
            have hall : All2 (RecV w7 (w.heap.size + 1) ro') (vs ++ [.slice bo b.length bcap]) (recs.take (k + 1)) := by
              have e1 : recs.take (k + 1) = recs.take k ++ [b] := by rw [List.take_succ_eq_append_getElem hlt, HB.out]
              rw [e1]
              exact (HR5.out.2.mono fun v r _ hv => hv.keeps K57 (fun b' _ _ hne h => hne h) hro').snoc hnew
            refine ⟨k + 1, p + needN b.length, ro', rcap', vs ++ [.slice bo b.length bcap], by omega, by simp, Lib.hid HRA.out.2.2, (Q7.out.2.2.2.setPos (p + needN b.length)).setNext (k + 1), Lib.hid ⟨owns_keeps Q7.out.1 hgK ?_, hall.mono fun v r _ hv => hv.keeps hgK (fun b' h1 _ _ e => by omega) (fun _ _ h => h)⟩, ?_, ?_⟩
            · rw [own_slice]
              rintro b' hb' rfl
              have := (Q7.out.1.lt _ (by rw [own_slice]; exact hb')).1
              omega
            · have K : Keeps (fun i => blk ro = some i ∨ i = w.heap.size) w5 _ := (K57.mono fun i _ h => .inl h).trans' (hgK.mono fun i _ h => .inr h)
              refine (HQ.out.2.trans (H5.out.2.1.mono (by omega))).trans (K.below (fun i hi h => ?_) (by omega))
              rcases h with h | h
              · have := (HR5.out.1.lt i (by rw [own_slice]; exact h)).1
                omega
              · omega
            · simp; omega
          case measure => simp [lenV]; omega
        · obtain rfl : k = recs.length := by omega
          have hpe : p = e := by
            have := HRecs.out
            rw [List.take_length] at this
            exact Recs.uniq this HI.out.recs
          subst hpe
          by_cases hcl : p < cnt
          · go_wp2_with fail
            refine seq_start (by kernel_rfl) ?_
            refine seq_take 0 (v := ?_) rfl (by kernel_rfl) (fun _ _ _ h => h) (by rfl) (fun w' hw' => ?_) ?_
            rotate_left
            · go_simp; try with_reducible rfl
            try simp only [List.getElem_toArray, List.getElem_cons_succ, List.getElem_cons_zero, Act.put, List.setIfInBounds_toArray, List.set_cons_zero, List.set_cons_succ]
            refine seq_take 1 (v := ?_) rfl (by kernel_rfl) (fun _ _ _ h => h) (by rfl) (fun w' hw' => ?_) ?_
            rotate_left
            · go_simp; try with_reducible rfl
            try simp only [List.getElem_toArray, List.getElem_cons_succ, List.getElem_cons_zero, Act.put, List.setIfInBounds_toArray, List.set_cons_zero, List.set_cons_succ]
            refine seq_take 2 (v := ?_) rfl (by kernel_rfl) (fun _ _ _ h => h) (by rfl) (fun w' hw' => ?_) ?_
            rotate_left
            · go_simp; try with_reducible rfl
            try simp only [List.getElem_toArray, List.getElem_cons_succ, List.getElem_cons_zero, Act.put, List.setIfInBounds_toArray, List.set_cons_zero, List.set_cons_succ]
            refine seq_take 3 rfl (by kernel_rfl) (fun _ _ _ h => h) (by rfl) (seq_ldi rfl rfl ((show wr.drew.cell? ⟨w.heap.size, 5, none⟩ = _ from HCQ.out.2.2.2.2.2))) ?_
            try simp only [List.getElem_toArray, List.getElem_cons_succ, List.getElem_cons_zero, Act.put, List.setIfInBounds_toArray, List.set_cons_zero, List.set_cons_succ]
            refine seq_take 4 (v := ?_) rfl (by kernel_rfl) (fun _ _ _ h => h) (by rfl) (fun w' hw' => ?_) ?_
            rotate_left
            · go_simp; try with_reducible rfl
            try simp only [List.getElem_toArray, List.getElem_cons_succ, List.getElem_cons_zero, Act.put, List.setIfInBounds_toArray, List.set_cons_zero, List.set_cons_succ]
            refine seq_take 5 (v := ?_) rfl (by kernel_rfl) (fun _ _ _ h => h) (by rfl) (fun w' hw' => ?_) ?_
            rotate_left
            · go_simp; try with_reducible rfl
            try simp only [List.getElem_toArray, List.getElem_cons_succ, List.getElem_cons_zero, Act.put, List.setIfInBounds_toArray, List.set_cons_zero, List.set_cons_succ]
            refine seq_take 6 (v := ?_) rfl (by kernel_rfl) (fun _ _ _ h => h) (by rfl) (fun w' hw' => ?_) ?_
            rotate_left
            · go_simp; try with_reducible rfl
            try simp only [List.getElem_toArray, List.getElem_cons_succ, List.getElem_cons_zero, Act.put, List.setIfInBounds_toArray, List.set_cons_zero, List.set_cons_succ]
            refine seq_take 7 (v := ?_) rfl (by kernel_rfl) (fun _ _ _ h => h) (by rfl) (fun w' hw' => ?_) ?_
            rotate_left
            · go_simp; try with_reducible rfl
            try simp only [List.getElem_toArray, List.getElem_cons_succ, List.getElem_cons_zero, Act.put, List.setIfInBounds_toArray, List.set_cons_zero, List.set_cons_succ]
            refine seq_take 8 rfl (by kernel_rfl) (fun _ _ _ h => h) (by rfl) (seq_ldi rfl rfl ((show wr.drew.cell? ⟨w.heap.size, 2, none⟩ = _ from HCQ.out.2.2.1))) ?_
            try simp only [List.getElem_toArray, List.getElem_cons_succ, List.getElem_cons_zero, Act.put, List.setIfInBounds_toArray, List.set_cons_zero, List.set_cons_succ]
            refine seq_take 9 (v := ?_) rfl (by kernel_rfl) (fun _ _ _ h => h) (by rfl) (fun w' hw' => ?_) ?_
            rotate_left
            · go_simp; try with_reducible rfl
            try simp only [List.getElem_toArray, List.getElem_cons_succ, List.getElem_cons_zero, Act.put, List.setIfInBounds_toArray, List.set_cons_zero, List.set_cons_succ]
            refine seq_done (by kernel_rfl) ?_
            go_wp2_with fail
            refine (recordOld_any wr.drew (H.out.below HQ.out.2.drew) HS.out.1 HS.out.2 HQ.out.1.drew (by simp only; omega) hL (by simp only; omega) (HI.out.old p (Nat.le_refl _) hcl)).mono ?_
            rintro x w5 ⟨rfl, hb5⟩
            have H5 := Lib.hid (below_drew hb5)
            clear hb5
            go_wp2_with fail
            go_returns
            refine ⟨w.heap.size, ro, rcap, rfl, HQ.out.1.below H5.out, Nat.le_refl _, RecsAt.below ?_ H5.out, HQ.out.2.trans (H5.out.mono (by omega))⟩
            have := HRow.out
            rw [List.take_length] at this
            exact recsAt_of (Nat.le_succ _) this.1 this.2
          · go_wp2_with fail
            refine seq_start (by kernel_rfl) ?_
            refine seq_take 0 (v := ?_) rfl (by kernel_rfl) (fun _ _ _ h => h) (by rfl) (fun w' hw' => ?_) ?_
            rotate_left
            · go_simp; try with_reducible rfl
            try simp only [List.getElem_toArray, List.getElem_cons_succ, List.getElem_cons_zero, Act.put, List.setIfInBounds_toArray, List.set_cons_zero, List.set_cons_succ]
            refine seq_take 1 (v := ?_) rfl (by kernel_rfl) (fun _ _ _ h => h) (by rfl) (fun w' hw' => ?_) ?_
            rotate_left
            · go_simp; try with_reducible rfl
            try simp only [List.getElem_toArray, List.getElem_cons_succ, List.getElem_cons_zero, Act.put, List.setIfInBounds_toArray, List.set_cons_zero, List.set_cons_succ]
            refine seq_take 2 (v := ?_) rfl (by kernel_rfl) (fun _ _ _ h => h) (by rfl) (fun w' hw' => ?_) ?_
            rotate_left
            · go_simp; try with_reducible rfl
            try simp only [List.getElem_toArray, List.getElem_cons_succ, List.getElem_cons_zero, Act.put, List.setIfInBounds_toArray, List.set_cons_zero, List.set_cons_succ]
            refine seq_take 3 rfl (by kernel_rfl) (fun _ _ _ h => h) (by rfl) (seq_ldi rfl rfl ((show wr.drew.cell? ⟨w.heap.size, 5, none⟩ = _ from HCQ.out.2.2.2.2.2))) ?_
            try simp only [List.getElem_toArray, List.getElem_cons_succ, List.getElem_cons_zero, Act.put, List.setIfInBounds_toArray, List.set_cons_zero, List.set_cons_succ]
            refine seq_take 4 (v := ?_) rfl (by kernel_rfl) (fun _ _ _ h => h) (by rfl) (fun w' hw' => ?_) ?_
            rotate_left
            · go_simp; try with_reducible rfl
            try simp only [List.getElem_toArray, List.getElem_cons_succ, List.getElem_cons_zero, Act.put, List.setIfInBounds_toArray, List.set_cons_zero, List.set_cons_succ]
            refine seq_take 5 (v := ?_) rfl (by kernel_rfl) (fun _ _ _ h => h) (by rfl) (fun w' hw' => ?_) ?_
            rotate_left
            · go_simp; try with_reducible rfl
            try simp only [List.getElem_toArray, List.getElem_cons_succ, List.getElem_cons_zero, Act.put, List.setIfInBounds_toArray, List.set_cons_zero, List.set_cons_succ]
            refine seq_take 6 (v := ?_) rfl (by kernel_rfl) (fun _ _ _ h => h) (by rfl) (fun w' hw' => ?_) ?_
            rotate_left
            · go_simp; try with_reducible rfl
            try simp only [List.getElem_toArray, List.getElem_cons_succ, List.getElem_cons_zero, Act.put, List.setIfInBounds_toArray, List.set_cons_zero, List.set_cons_succ]
            refine seq_take 7 (v := ?_) rfl (by kernel_rfl) (fun _ _ _ h => h) (by rfl) (fun w' hw' => ?_) ?_
            rotate_left
            · go_simp; try with_reducible rfl
            try simp only [List.getElem_toArray, List.getElem_cons_succ, List.getElem_cons_zero, Act.put, List.setIfInBounds_toArray, List.set_cons_zero, List.set_cons_succ]
            refine seq_take 8 rfl (by kernel_rfl) (fun _ _ _ h => h) (by rfl) (seq_ldi rfl rfl ((show wr.drew.cell? ⟨w.heap.size, 2, none⟩ = _ from HCQ.out.2.2.1))) ?_
            try simp only [List.getElem_toArray, List.getElem_cons_succ, List.getElem_cons_zero, Act.put, List.setIfInBounds_toArray, List.set_cons_zero, List.set_cons_succ]
            refine seq_take 9 (v := ?_) rfl (by kernel_rfl) (fun _ _ _ h => h) (by rfl) (fun w' hw' => ?_) ?_
            rotate_left
            · go_simp; try with_reducible rfl
            try simp only [List.getElem_toArray, List.getElem_cons_succ, List.getElem_cons_zero, Act.put, List.setIfInBounds_toArray, List.set_cons_zero, List.set_cons_succ]
            refine seq_done (by kernel_rfl) ?_
            go_wp2_with fail
            go_returns
            refine ⟨w.heap.size, ro, rcap, rfl, HQ.out.1.drew, Nat.le_refl _, RecsAt.below ?_ (Below.refl _ wr).drew, HQ.out.2.drew⟩
            have := HRow.out
            rw [List.take_length] at this
            exact recsAt_of (Nat.le_succ _) this.1 this.2

end Go.Proofs.YtpeehagaiofobaaDoor
