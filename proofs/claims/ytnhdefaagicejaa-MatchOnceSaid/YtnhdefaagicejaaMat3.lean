/- The walks of match's rows: clone, add, at. -/
import Derived.Test.YtnhdefaagicejaaMat2
namespace Go.Proofs.Ytnhdefaagicejaa
set_option linter.unusedSimpArgs false
set_option linter.unusedVariables false
open Go.RowKit

theorem natsV_ints (l : List Nat) : natsV l = intsV (l.map fun (i : Nat) => (i : Int)) := by simp [natsV, intsV, Function.comp_def]
theorem ints_inj (a b : List Nat) : (a.map (fun (i : Nat) => (i : Int)) = b.map fun (i : Nat) => (i : Int)) ↔ a = b := by
  constructor
  · intro h
    have h2 := congrArg (List.map Int.toNat) h
    simpa [Function.comp_def] using h2
  · rintro rfl
    rfl
/-- Two places, the same? -/
theorem equalP_any {w : World} {D E : Nat → Prop} {v u : Value} {p q : List Nat} (hv : PathIn w D v p) (hu : PathIn w E u q) (hl : p.length ≤ 1000000) :
    Calls Try.prog 32 #[v, u] w (fun e w' => e = .returned (.bool (decide (p = q))) ∧ Below w.heap.size w w') := by
  obtain ⟨po, pc, rfl, _, _, h1, _⟩ := hv
  obtain ⟨qo, qc, rfl, _, _, h2, _⟩ := hu
  rw [natsV_ints] at h1 h2
  have h := equalI_any _ _ po qo pc qc (by rw [List.length_map]; omega) w h1 h2
  simp only [List.length_map, ints_inj] at h
  exact h
theorem flat_at (k : Nat) : ∀ (rows : List (List Value)), (∀ r ∈ rows, r.length = k) → ∀ j v, rows.flatten[j]? = some v → ∃ i r m, rows[i]? = some r ∧ r[m]? = some v ∧ j = i * k + m
  | [], _, j, v, h => by simp at h
  | r :: rs, hl, j, v, h => by
    have hr := hl r (by simp)
    rw [List.flatten_cons] at h
    rcases Nat.lt_or_ge j r.length with hj | hj
    · rw [List.getElem?_append_left hj] at h
      exact ⟨0, r, j, rfl, h, by omega⟩
    · rw [List.getElem?_append_right hj] at h
      obtain ⟨i, s, m, h1, h2, h3⟩ := flat_at k rs (fun x hx => hl x (by simp [hx])) _ v h
      exact ⟨i + 1, s, m, by simpa using h1, h2, by rw [Nat.succ_mul]; omega⟩
theorem at_of_rowsk {w : World} {ao : Option Addr} {k : Nat} {rows : List (List Value)} (h : RowsAt w ao k rows) (hl : ∀ r ∈ rows, r.length = k) : At w ao rows.flatten := by
  rcases h with rfl | ⟨b, o, rfl, hc⟩
  · exact .inl rfl
  · refine .inr ⟨b, o, rfl, fun j v hj => ?_⟩
    obtain ⟨i, r, m, h1, h2, rfl⟩ := flat_at k rows hl j v hj
    exact hc i r h1 m v h2
theorem flat_lenk (k : Nat) : ∀ rows : List (List Value), (∀ r ∈ rows, r.length = k) → rows.flatten.length = rows.length * k
  | [], _ => by simp
  | r :: rs, h => by rw [List.flatten_cons, List.length_append, flat_lenk k rs (fun x hx => h x (by simp [hx])), h r (by simp), List.length_cons, Nat.succ_mul]; omega
theorem infoCell : (Try.prog.info? 71).map (fun i => (i.zero, i.size, i.bytes)) = some (some (.agg #[.slice none 0 0, .int .i64 0, .int .i64 0, .string ⟨#[]⟩, .slice none 0 0]), 5, 80) := by kernel_rfl
theorem wpl_append {P : Program} {w : World} {ops : Array Oper} {rest : List Oper} {o : Oper} {a : Act} {Q : Exit → Act → World → Prop} (hgd : Region.wanted o (yielded ops a.tmps) = true) (s x : Operand) (t tx : TypeId)
    (ho : o.op = .call { callee := .builtin .append, args := #[s, x], argTypes := #[t, tx] })
    (base : Nat) (e : TypeId) (i : TypeInfo) (z : Value) (size bytes : Nat) (ht : P.underlying t = some (.slice e)) (hi : P.info? e = some i) (hz : i.zero = some z)
    (hsize : i.size = size) (hby : i.bytes = bytes) (hzs : z.cells.size = size)
    (v : Value) (n : Nat) (xs : List Value) (hs : a.eval s = v) (hown : w.ownsRow base e size v n xs)
    (xv : Value) (m : Nat) (news : List Value) (hx : a.eval x = xv) (hsrc : Src P size tx xv m news w)
    (h63 : n + m ≤ maxLen) (hbytes : (n + m) * bytes ≤ 140737488355328) (hbase : base ≤ w.heap.size)
    (h : ∀ ao cap w', w'.ownsRow base e size (.slice ao (n + m) cap) (n + m) (xs ++ news) → w.grownBy w' v.ownBlock → (blk ao = v.ownBlock ∨ blk ao = some w.heap.size) → wpList P ops Q rest (a.put o.dst (.slice ao (n + m) cap)) w') :
    wpList P ops Q (o :: rest) a w :=
  wpList_go hgd fun _ hK => wp_append s x t tx ho base e i z size bytes ht hi hz hsize hby hzs v n xs hs hown xv m news hx hsrc h63 hbytes hbase fun ao cap w' h1 h2 h3 => hK _ _ (h ao cap w' h1 h2 h3)
abbrev CellsOwn (n : Nat) (w : World) (base : Nat) (D : Nat → Prop) (ao : Option Addr) (cap : Nat) (cs : List CellM) : Prop := OwnL 71 5 (CellIn n) w base D ao cap cs
set_option maxHeartbeats 400000 in
theorem cloneC_any {n : Nat} {w : World} {base : Nat} {D : Nat → Prop} {ao : Option Addr} {cap : Nat} {cs : List CellM} (hown : CellsOwn n w base D ao cap cs) (hD : ∀ b, D b → b < w.heap.size) (hl : cs.length ≤ 1000000) :
    Calls Try.prog 25 #[.slice ao cs.length cap] w (fun e w' => ∃ ao' cap', e = .returned (.slice ao' cs.length cap') ∧ CellsOwn n w' w.heap.size D ao' cap' cs ∧ Below w.heap.size w w') := by
  obtain ⟨⟨rows, h1, h2⟩, h3⟩ := hown
  have hat := At.own h1
  have hlen := h2.lenk (elemC n)
  have hone := h2.onek (elemC n)
  have hfl := flat_lenk 5 rows hlen
  have hrl := h2.1
  have HA := Lib.hid (And.intro hat (And.intro hone (And.intro h2 (And.intro (show rows.flatten.length = cs.length * 5 by rw [hfl, hrl]) hD))))
  clear h1 h2 h3 hat hone hfl hD
  go_enter Try.func25, Try.ntmps25
  rcases ao with _ | a
  · have heq := Lib.run_eql_slice_nil_nil (P := Try.prog) w cs.length cap Try.underlying60
    have hcs : cs = [] := by
      rcases HA.out.1 with h | ⟨b, o, h, _⟩
      · have := HA.out.2.2.2.1
        rw [h] at this
        simp at this
        exact List.eq_nil_of_length_eq_zero (by omega)
      · cases h
    subst hcs
    simp only [List.length_nil] at *
    go_wp2_with fail
    go_ret
    exact ⟨none, 0, rfl, OwnL.nil _ _ _, Below.refl _ _⟩
  · have heq := Lib.run_eql_slice_some_nil (P := Try.prog) w a cs.length cap Try.underlying60
    have hlit : (w.alloc (.cells #[] 71)).ownsRow w.heap.size 71 5 (.slice (some ⟨w.heap.size, 0, none⟩) 0 0) 0 [] := World.ownsRow_lit w #[] 0 (Nat.le_refl _) (by decide) rfl
    have hbA : Below w.heap.size w (w.alloc (.cells #[] 71)) := (Below.refl _ _).alloc (Nat.le_refl _) _
    have hsA : w.heap.size < (w.alloc (.cells #[] 71)).heap.size := by simp
    have HL := Lib.hid (And.intro hlit (And.intro hbA hsA))
    obtain ⟨i0, hi, hz0, hz1, hz2⟩ := info_parts infoCell
    clear hlit hbA hsA
    go_wp2_with (at_builtin; refine wpl_append rfl _ _ 60 60 rfl w.heap.size 71 i0 (.agg #[.slice none 0 0, .int .i64 0, .int .i64 0, .string ⟨#[]⟩, .slice none 0 0]) 5 80 Try.underlying60 hi hz0 hz1 hz2 rfl (.slice (some ⟨w.heap.size, 0, none⟩) 0 0) 0 [] rfl HL.out.1 (.slice (some a) cs.length cap) cs.length rows.flatten rfl ((HA.out.1.below HL.out.2.1).src Try.underlying60 HA.out.2.2.2.1 HA.out.2.1 (by decide)) (by unfold maxLen; omega) (by omega) (Nat.le_of_lt HL.out.2.2) ?_; rintro co capc w1 q1 q2 q3)
    go_ret
    have hb1 : Below w.heap.size w w1 := HL.out.2.1.trans (below_grown HL.out.1 (by have := HL.out.2.2; omega) q2)
    have hq1 : w1.ownsRow w.heap.size 71 5 (.slice co cs.length capc) cs.length rows.flatten := by simpa using q1
    refine ⟨co, capc, by simp, ⟨⟨rows, hq1, HA.out.2.2.1.mono fun _ _ _ h => (elemC n).below h hb1⟩, fun j hj hd => ?_⟩, hb1⟩
    have h6 := (hq1.lt j (by rw [own_slice]; exact hj)).1
    have h7 := HA.out.2.2.2.2 j hd
    omega
section
variable {P : Program} {ops : Array Oper} {Q : Exit → Act → World → Prop}
/-- Two operations may come up: either may be the next. -/
theorem seqx_two (i j : Nat) {X : Nat → Prop} {o p : Oper} {k : Nat} {listed : Array Bool} {a : Act} {w : World} (hi : ops[i]? = some o) (hj : ops[j]? = some p) (hr : Region.ready .any ops listed = [i, j]) (hwi : Region.wanted o (yielded ops a.tmps) = true) (hwj : Region.wanted p (yielded ops a.tmps) = true)
    (h : ∀ K : Act → World → Prop, (∀ a' w', (Keeps X w w' ∧ SeqX P ops Q X k (listed.setIfInBounds i true) a' w') → K a' w') → o.wp P a w K Q)
    (h' : ∀ K : Act → World → Prop, (∀ a' w', (Keeps X w w' ∧ SeqX P ops Q X k (listed.setIfInBounds j true) a' w') → K a' w') → p.wp P a w K Q) : SeqX P ops Q X (k + 1) listed a w := by
  refine wpAnyH_all hr (by simp) fun n hn => ?_
  have hn' : n = i ∨ n = j := by simpa using hn
  rcases hn' with rfl | rfl
  · unfold wpOp
    simp only [hi, hwi, if_true]
    exact .inl (h _ fun a' w' ⟨hb, hs⟩ => ⟨hb, wpAnyH_stronger (fun w'' h'' => hb.trans' h'') _ _ _ _ hs⟩)
  · unfold wpOp
    simp only [hj, hwj, if_true]
    exact .inl (h' _ fun a' w' ⟨hb, hs⟩ => ⟨hb, wpAnyH_stronger (fun w'' h'' => hb.trans' h'') _ _ _ _ hs⟩)
end
theorem agg5 (pv : Value) (k m : Int) (t : List UInt8) (ao : Option Addr) (n cap : Nat) : pv :: [Value.int .i64 k, .int .i64 m, .string ⟨t.toArray⟩, .slice ao n cap] = [pv, .int .i64 k, .int .i64 m, .string ⟨t.toArray⟩, .slice ao n cap] := rfl
/-- One cell more, if the pattern is not open. -/
def Adds (n : Nat) (w : World) (base : Nat) (D : Nat → Prop) (cs : List CellM) (e : Ending) (w' : World) : Prop :=
  ∃ ao cap, e = .returned (.slice ao cs.length cap) ∧ CellsOwn n w' base D ao cap cs ∧ Below w.heap.size w w'
set_option maxRecDepth 100000 in
set_option maxHeartbeats 1000000 in
theorem add_any {n : Nat} {w : World} {base : Nat} {D : Nat → Prop} {ao : Option Addr} {cap : Nat} {cs : List CellM} (hown : CellsOwn n w base D ao cap cs) (hD : ∀ b, D b → b < w.heap.size) (hbase : base ≤ w.heap.size) (hl : cs.length ≤ 1000000)
    {path : List Nat} {po : Option Addr} {pcap : Nat} {p : PV} {pc : List Value} (hp : PathIn w D (.slice po path.length pcap) path) (hv : VIn w D n pc p) :
    Calls Try.prog 20 #[.slice ao cs.length cap, .slice po path.length pcap, .agg pc.toArray] w (Adds n w base D (cs ++ (if openP p then [] else [⟨path, p⟩]))) := by
  cases n with
  | zero => exact hv.elim
  | succ m =>
  obtain ⟨k, num, t, ks⟩ := p
  obtain ⟨ko, kcap, he, hcs, _⟩ := hv.val
  rw [he]
  rw [hcs] at hv
  unfold patV
  obtain ⟨ex, hex⟩ : ∃ ex, (if openP (.mk k num t ks) then [] else [⟨path, .mk k num t ks⟩] : List CellM) = ex := ⟨_, rfl⟩
  rw [hex]
  have HX := Lib.hid hex
  clear hex
  have hb0 : Below w.heap.size w (w.alloc (.cells #[.int .i64 k, .int .i64 num, .string ⟨t.toArray⟩, .slice ko ks.length kcap] 50)) := (Below.refl _ w).alloc (Nat.le_refl _) _
  have hclone := cloneC_any (hown.below (elemC _) hb0) (fun b hb => by have := hD b hb; have := hb0.size; omega) hl
  have H := Lib.hid (And.intro hown (And.intro hD (And.intro hp (And.intro hv (And.intro hb0 hbase)))))
  clear hown hD hp hv hb0 hcs he hbase
  obtain ⟨W, hW⟩ : ∃ W, w.alloc (.cells #[.int .i64 k, .int .i64 num, .string ⟨t.toArray⟩, .slice ko ks.length kcap] 50) = W := ⟨_, rfl⟩
  have hpat : PatAt W w.heap.size k num t ko ks.length kcap := by rw [← hW]; exact PatAt.new w k num t ko ks.length kcap _
  have HB := Lib.hid (show Below w.heap.size w W by rw [← hW]; exact H.out.2.2.2.2.1)
  rw [hW] at hclone
  have HCL := Lib.hid hclone
  have HP := Lib.hid hpat
  have HW := Lib.hid hW
  clear hW hclone hpat
  go_enter Try.func20, Try.ntmps20
  go_upto_region 1 with (fail)
  rw [HW.out]
  obtain ⟨c0, c1, c2, c3⟩ := HP.out
  go_wp2_with fail
  have ho := open_any k num t ko ks.length kcap W
  unfold patV at ho
  refine ho.mono ?_
  rintro e w1 ⟨rfl, hb1⟩
  have hop : openP (.mk k num t ks) = decide (k = 0 ∨ k = 1) := rfl
  have hb01 : Below w.heap.size w w1 := HB.out.trans (hb1.mono HB.out.size)
  by_cases hk : k = 0 ∨ k = 1
  · obtain rfl : ex = [] := by rw [← HX.out, hop, decide_eq_true hk]; rfl
    rw [decide_eq_true hk]
    have H1 := Lib.hid hb01
    clear hk hop hb1 hb01 ho c0 c1 c2 c3
    go_wp2_with fail
    go_ret
    exact ⟨ao, cap, by simp, by simpa using H.out.1.below (elemC _) H1.out, H1.out⟩
  · obtain rfl : ex = [⟨path, .mk k num t ks⟩] := by rw [← HX.out, hop, decide_eq_false hk]; rfl
    rw [decide_eq_false hk]
    have hp1 := HP.out.below hb1
    have hclf : ∀ W' : World, Below w1.heap.size w1 W' → Calls Try.prog 25 #[.slice ao cs.length cap] W' (fun e w' => ∃ ao' cap', e = .returned (.slice ao' cs.length cap') ∧ CellsOwn (m + 1) w' W'.heap.size D ao' cap' cs ∧ Below W'.heap.size W' w') := fun W' hb => cloneC_any (H.out.1.below (elemC _) (hb01.trans (hb.mono hb01.size))) (fun b hb' => by have := H.out.2.1 b hb'; have := hb01.size; have := hb.size; omega) hl
    have hw1 : w.heap.size < w1.heap.size := hp1.lt
    have H1 := Lib.hid (And.intro hb01 (And.intro hp1 (And.intro hclf hw1)))
    have hH : CellIn (m + 1) w1 D [.slice po path.length pcap, .int .i64 k, .int .i64 num, .string ⟨t.toArray⟩, .slice ko ks.length kcap] ⟨path, .mk k num t ks⟩ := ⟨_, _, rfl, H.out.2.2.1.below hb01, H.out.2.2.2.1.below hb01⟩
    have HH := Lib.hid hH
    clear hk hop hb1 hb01 ho c0 c1 c2 c3 hp1 hclf hw1 hH
    go_wp2_with fail
    refine seqx_start (fun b => w1.heap.size ≤ b) (by kernel_rfl) ?_
    refine seqx_take 0 (v := ?_) rfl (by kernel_rfl) (fun _ _ _ h => h) (by rfl) (fun w' hw' => ?_) ?_
    rotate_left
    · go_simp; try with_reducible rfl
    try simp only [List.getElem_toArray, List.getElem_cons_succ, List.getElem_cons_zero, Act.put, List.setIfInBounds_toArray, List.set_cons_zero, List.set_cons_succ]
    refine seqx_take 2 (v := ?_) rfl (by kernel_rfl) (fun _ _ _ h => h) (by rfl) (fun w' hw' => ?_) ?_
    rotate_left
    · go_simp; try with_reducible rfl
    try simp only [List.getElem_toArray, List.getElem_cons_succ, List.getElem_cons_zero, Act.put, List.setIfInBounds_toArray, List.set_cons_zero, List.set_cons_succ]
    refine seqx_take 3 rfl (by kernel_rfl) (fun _ _ _ h => h) (by rfl) (fun w' hw' => (seq_ldPat rfl rfl ((show PatAt w1.drew w.heap.size k num t ko ks.length kcap from H1.out.2.1).keeps hw' (fun hx => by have := H1.out.2.2.2; omega))) w' (Below.refl _ _)) ?_
    unfold patV
    try simp only [List.getElem_toArray, List.getElem_cons_succ, List.getElem_cons_zero, Act.put, List.setIfInBounds_toArray, List.set_cons_zero, List.set_cons_succ]
    refine seqx_take 4 (v := ?_) rfl (by kernel_rfl) (fun _ _ _ h => h) (by rfl) (fun w' hw' => ?_) ?_
    rotate_left
    · go_simp; try with_reducible rfl
    try simp only [List.getElem_toArray, List.getElem_cons_succ, List.getElem_cons_zero, Act.put, List.setIfInBounds_toArray, List.set_cons_zero, List.set_cons_succ]
    obtain ⟨i0, hi, hz0, hz1, hz2⟩ := info_parts infoCell
    refine seqx_two 1 5 rfl rfl (by kernel_rfl) (by rfl) (by rfl) (fun KK hKK => ?_) (fun KK hKK => ?_)
    · go_wp2_with fail
      refine (H1.out.2.2.1 _ (Below.refl _ w1).drew).mono ?_
      rintro e w2 ⟨ao2, cap2, rfl, hown2, hb2⟩
      simp only [World.size_drew] at hown2 hb2
      have H2 := Lib.hid (And.intro hown2 (show Below w1.heap.size w1 w2 from (Below.refl _ w1).drew.trans (hb2.mono (by simp))))
      have HK := Lib.hid (show Keeps (fun b => w1.heap.size ≤ b) w1.drew w2 from Keeps.of_below (by simpa using hb2))
      clear hown2 hb2
      go_wp2_with fail
      refine ⟨HK.out, ?_⟩
      refine seqx_run 5 rfl (by kernel_rfl) (by rfl) (fun KK hKK => ?_)
      go_wp2_with fail
      refine ⟨Keeps.alloc _ _ _, ?_⟩
      have hbA : Below w2.heap.size w2 (w2.alloc (.cells #[.slice po path.length pcap, .int .i64 k, .int .i64 num, .string ⟨t.toArray⟩, .slice ko ks.length kcap] 71)) := (Below.refl _ _).alloc (Nat.le_refl _) _
      have H3 := Lib.hid (And.intro hbA (H2.out.2.trans (hbA.mono H2.out.2.size)))
      clear hbA
      refine seqx_run 6 rfl (by kernel_rfl) (by rfl) (fun KK hKK => ?_)
      refine wp_own (elemC (m + 1)) (by decide) _ _ 60 rfl i0 _ 80 Try.underlying60 hi hz0 hz1 hz2 rfl (by decide) w1.heap.size D ao2 cap2 cs.length cs rfl rfl (H2.out.1.below (elemC _) H3.out.1) [.slice po path.length pcap, .int .i64 k, .int .i64 num, .string ⟨t.toArray⟩, .slice ko ks.length kcap] ⟨path, .mk k num t ks⟩ ((elemC _).below HH.out H3.out.2) w2.heap.size rfl (At.new w2 #[.slice po path.length pcap, .int .i64 k, .int .i64 num, .string ⟨t.toArray⟩, .slice ko ks.length kcap] _) (fun j hj => by have := H.out.2.1 j hj; have := H1.out.2.2.2; have := H3.out.2.size; omega) (by omega) H3.out.2.size ?_
      intro ao4 cap4 w4 q1 q2 q3
      have hlt := H2.out.1.lt
      refine hKK _ _ ⟨q2.mono (fun b _ hb => (hlt b hb).1), ?_⟩
      have H4 := Lib.hid (And.intro q1 (H3.out.2.trans (q2.below (fun b hb h => by have := (hlt b h).1; omega) H3.out.2.size)))
      clear q1 q2 q3 hlt
      refine seqx_take 7 (v := ?_) rfl (by kernel_rfl) (fun _ _ _ h => h) (by rfl) (fun w' hw' => ?_) ?_
      rotate_left
      · go_simp; try with_reducible rfl
      try simp only [List.getElem_toArray, List.getElem_cons_succ, List.getElem_cons_zero, Act.put, List.setIfInBounds_toArray, List.set_cons_zero, List.set_cons_succ]
      refine seqx_done (by kernel_rfl) ?_
      go_wp2_with fail
      go_ret
      refine ⟨ao4, cap4, by rw [List.length_append]; rfl, H4.out.1.grow (elemC _) (by have := H.out.2.2.2.2.2; have := H1.out.2.2.2; omega) (fun _ h => h) H4.out.1.2, H1.out.1.trans (H4.out.2.mono (by have := H1.out.2.2.2; omega))⟩
    · go_wp2_with fail
      refine ⟨Keeps.alloc _ _ _, ?_⟩
      have hbA : Below w1.heap.size w1 (w1.drew.alloc (.cells #[.slice po path.length pcap, .int .i64 k, .int .i64 num, .string ⟨t.toArray⟩, .slice ko ks.length kcap] 71)) := (Below.refl _ w1).drew.alloc (by simp) _
      have HA := Lib.hid hbA
      clear hbA
      refine seqx_run 1 rfl (by kernel_rfl) (by rfl) (fun KK hKK => ?_)
      go_wp2_with fail
      refine (H1.out.2.2.1 _ HA.out).mono ?_
      rintro e w2 ⟨ao2, cap2, rfl, hown2, hb2⟩
      have hat := (At.new w1.drew #[.slice po path.length pcap, .int .i64 k, .int .i64 num, .string ⟨t.toArray⟩, .slice ko ks.length kcap] 71).below hb2
      simp only [World.size_drew] at hat
      have H2 := Lib.hid (And.intro hown2 (And.intro (HA.out.trans (hb2.mono HA.out.size)) (And.intro hat hb2)))
      clear hown2 hb2 hat
      go_wp2_with fail
      refine ⟨Keeps.of_below H2.out.2.2.2, ?_⟩
      refine seqx_run 6 rfl (by kernel_rfl) (by rfl) (fun KK hKK => ?_)
      refine wp_own (elemC (m + 1)) (by decide) _ _ 60 rfl i0 _ 80 Try.underlying60 hi hz0 hz1 hz2 rfl (by decide) (w1.drew.alloc (.cells #[.slice po path.length pcap, .int .i64 k, .int .i64 num, .string ⟨t.toArray⟩, .slice ko ks.length kcap] 71)).heap.size D ao2 cap2 cs.length cs rfl rfl H2.out.1 [.slice po path.length pcap, .int .i64 k, .int .i64 num, .string ⟨t.toArray⟩, .slice ko ks.length kcap] ⟨path, .mk k num t ks⟩ ((elemC _).below HH.out H2.out.2.1) w1.heap.size rfl H2.out.2.2.1 (fun j hj => by have := H.out.2.1 j hj; have := H1.out.2.2.2; have := H2.out.2.1.size; omega) (by omega) H2.out.2.2.2.size ?_
      intro ao4 cap4 w4 q1 q2 q3
      have hlt := H2.out.1.lt
      have hsA : w1.heap.size ≤ (w1.drew.alloc (.cells #[.slice po path.length pcap, .int .i64 k, .int .i64 num, .string ⟨t.toArray⟩, .slice ko ks.length kcap] 71)).heap.size := HA.out.size
      refine hKK _ _ ⟨q2.mono (fun b _ hb => by have := (hlt b hb).1; omega), ?_⟩
      have H4 := Lib.hid (And.intro q1 (And.intro (H2.out.2.1.trans (q2.below (fun b hb h => by have := (hlt b h).1; omega) H2.out.2.1.size)) hsA))
      clear q1 q2 q3 hlt hsA
      refine seqx_take 7 (v := ?_) rfl (by kernel_rfl) (fun _ _ _ h => h) (by rfl) (fun w' hw' => ?_) ?_
      rotate_left
      · go_simp; try with_reducible rfl
      try simp only [List.getElem_toArray, List.getElem_cons_succ, List.getElem_cons_zero, Act.put, List.setIfInBounds_toArray, List.set_cons_zero, List.set_cons_succ]
      refine seqx_done (by kernel_rfl) ?_
      go_wp2_with fail
      go_ret
      refine ⟨ao4, cap4, by rw [List.length_append]; rfl, H4.out.1.grow (elemC _) (by have := H.out.2.2.2.2.2; have := H1.out.2.2.2; have := H4.out.2.2; omega) (fun _ h => h) H4.out.1.2, H1.out.1.trans (H4.out.2.1.mono (by have := H1.out.2.2.2; omega))⟩
theorem atR_found {r : RowM} {path : List Nat} {i : Nat} (hi : i < r.cells.length) (hno : ∀ j (hj : j < r.cells.length), j < i → r.cells[j].path ≠ path) (hp : r.cells[i].path = path) : atR r path = some r.cells[i].p := by
  obtain ⟨num, cs⟩ := r
  simp only at *
  unfold atR
  simp only
  induction cs generalizing i with
  | nil => simp at hi
  | cons c cs ih =>
    rw [List.find?_cons]
    cases i with
    | zero =>
      simp only [List.getElem_cons_zero] at hp
      simp [hp]
    | succ i =>
      have h0 : c.path ≠ path := hno 0 (by simp) (by omega)
      simp only [h0, decide_false]
      have := ih (i := i) (by simpa using hi) (fun j hj hji => by have := hno (j + 1) (by simpa using hj) (by omega); simpa using this) (by simpa using hp)
      simpa using this
theorem atR_all {r : RowM} {path : List Nat} (hno : ∀ j (hj : j < r.cells.length), r.cells[j].path ≠ path) : atR r path = none := by
  unfold atR
  rw [Option.map_eq_none_iff, List.find?_eq_none]
  intro c hc
  obtain ⟨j, hj, rfl⟩ := List.getElem_of_mem hc
  simpa using hno j hj
theorem results_at (tmps : Array Value) (W : World) (g : Nat) (k m : Int) (t : List UInt8) (ao : Option Addr) (n cap : Nat) (z : Value) (hp : tmps[4]?.getD undef = .pointer (some ⟨g, 0, none⟩)) (hz : tmps[5]?.getD undef = z) (hc : PatAt W g k m t ao n cap) :
    (results Try.f26 tmps).run Try.prog W = .ok (.tuple #[patV k m t ao n cap, z]) W := by
  obtain ⟨c0, c1, c2, c3⟩ := hc
  have hu := Try.underlying50
  unfold patV
  simp only [results, Try.results26]
  go_simp
/-- What a call to at leaves. -/
def Ats (n : Nat) (w : World) (D : Nat → Prop) (r : RowM) (path : List Nat) (e : Ending) (w' : World) : Prop :=
  Below w.heap.size w w' ∧ ((∃ p pc, atR r path = some p ∧ e = .returned (.tuple #[.agg pc.toArray, .bool true]) ∧ VIn w' D n pc p) ∨ (atR r path = none ∧ e = .returned (.tuple #[patV 0 0 [] none 0 0, .bool false])))
theorem CellsIn.cells {n : Nat} {w : World} {D : Nat → Prop} {co : Option Addr} {len ccap : Nat} {cs : List CellM} (h : InL 5 (CellIn (n + 1)) w D co cs) (i : Nat) (hi : i < cs.length) :
    ∃ b o pv k m t kao ks kcap, co = some ⟨b, o, none⟩ ∧ cs[i].p = .mk k m t ks ∧ PathIn w D pv cs[i].path ∧ VIn w D (n + 1) [.int .i64 k, .int .i64 m, .string ⟨t.toArray⟩, .slice kao ks.length kcap] (.mk k m t ks) ∧
      w.cell? ⟨b, o + i * 5, none⟩ = some pv ∧ w.cell? ⟨b, o + i * 5 + 1, none⟩ = some (.int .i64 k) ∧ w.cell? ⟨b, o + i * 5 + 2, none⟩ = some (.int .i64 m) ∧ w.cell? ⟨b, o + i * 5 + 3, none⟩ = some (.string ⟨t.toArray⟩) ∧ w.cell? ⟨b, o + i * 5 + 4, none⟩ = some (.slice kao ks.length kcap) ∧ b < w.heap.size ∧ D b := by
  obtain ⟨b, o, cl, rfl, ⟨pv, pc, rfl, hp, hv⟩, hc, hd, hlt⟩ := h.get (elemC _) (by decide) i hi
  cases hx : cs[i].p with
  | mk k m t ks =>
    rw [hx] at hv
    obtain ⟨kao, kcap, _, hcs, _⟩ := hv.val
    subst hcs
    exact ⟨b, o, pv, k, m, t, kao, ks, kcap, rfl, rfl, hp, hv, by have := hc 0 _ rfl; rwa [Nat.add_zero] at this, by have := hc 1 _ rfl; rwa [← Nat.add_assoc] at this, by have := hc 2 _ rfl; rwa [← Nat.add_assoc] at this, by have := hc 3 _ rfl; rwa [← Nat.add_assoc] at this, by have := hc 4 _ rfl; rwa [← Nat.add_assoc] at this, hlt, hd⟩
set_option maxRecDepth 100000 in
set_option maxHeartbeats 2000000 in
theorem at_any {n : Nat} {w : World} {D E : Nat → Prop} {r : RowM} {co : Option Addr} {ccap : Nat} (hc : InL 5 (CellIn n) w D co r.cells) (hl : r.cells.length ≤ 1000000) (hpl : ∀ c ∈ r.cells, c.path.length ≤ 1000000)
    {path : List Nat} {po : Option Addr} {pcap : Nat} (hp : PathIn w E (.slice po path.length pcap) path) :
    Calls Try.prog 26 #[.agg #[.int .i64 r.num, .slice co r.cells.length ccap], .slice po path.length pcap] w (Ats n w D r path) := by
  obtain ⟨W, hW⟩ : ∃ W, (w.alloc (.cells #[.int .i64 r.num, .slice co r.cells.length ccap] 63)).alloc (.cells #[.int .i64 0, .int .i64 0, .string ⟨#[]⟩, .slice none 0 0] 50) = W := ⟨_, rfl⟩
  have hbW : Below w.heap.size w W := by rw [← hW]; exact ((Below.refl w.heap.size w).alloc (Nat.le_refl _) _).alloc (by simp) _
  have hsW : W.heap.size = w.heap.size + 2 := by rw [← hW]; simp
  have hr1 : W.heap[w.heap.size + 1]? = some (.cells #[.int .i64 0, .int .i64 0, .string ⟨#[]⟩, .slice none 0 0] 50 (0, 0)) := by
    rw [← hW]
    have := heap_alloc_new (w.alloc (.cells #[.int .i64 r.num, .slice co r.cells.length ccap] 63)) (.cells #[.int .i64 0, .int .i64 0, .string ⟨#[]⟩, .slice none 0 0] 50)
    simp only [World.size_alloc] at this
    exact this
  have H := Lib.hid (And.intro hbW (And.intro hsW (And.intro hr1 (And.intro ((hc.there (elemC _) (by decide)).below (elemC _) hbW) (And.intro (hp.below hbW) (And.intro hpl hW))))))
  clear hbW hsW hr1 hc hp hpl hW
  go_enter Try.func26, Try.ntmps26
  go_upto_block 0 with (fail)
  rw [H.out.2.2.2.2.2.2]
  go_wp2_with fail
  go_loopw [11] (fun v11 wr => ∃ i : Nat, i ≤ r.cells.length ∧ v11 = .int .i64 (i : Int) ∧ (∀ j (hj : j < r.cells.length), j < i → r.cells[j].path ≠ path) ∧ Below W.heap.size W wr) (fun v11 _ => r.cells.length - (intOf v11).toNat)
  case atStart => exact ⟨0, by omega, rfl, fun j hj h => by omega, Below.refl _ _⟩
  case round =>
    obtain ⟨i, hi, rfl, hall, hbr⟩ := hrel
    have hszr := hbr.size
    have hsW := H.out.2.1
    have hrr : wr.heap[w.heap.size + 1]? = _ := (hbr.block _ (by omega)).trans H.out.2.2.1
    have HO := Lib.hid (And.intro hall (And.intro hbr hrr))
    clear hall hbr hrr
    by_cases hlt : i < r.cells.length
    · have hd1 : decide ((i : Int) < (r.cells.length : Int)) = true := decide_eq_true (by omega)
      cases n with
      | zero =>
        obtain ⟨_, _, _, _, ⟨_, _, _, _, hv⟩, _⟩ := H.out.2.2.2.1.get (elemC _) (by decide) i hlt
        exact hv.elim
      | succ n' =>
      obtain ⟨b, o, pv, k, m, t, kao, ks, kcap, rfl, hx, hpi, hv, c0, c1, c2, c3, c4, hblt, _⟩ := CellsIn.cells (len := 0) (ccap := 0) (H.out.2.2.2.1.below (elemC _) HO.out.2.1) i hlt
      obtain ⟨qo, qcap, hpv, _, _, _, _⟩ := id hpi
      subst hpv
      have hbA : Below wr.heap.size wr (wr.alloc (.cells #[.slice qo r.cells[i].path.length qcap, .int .i64 k, .int .i64 m, .string ⟨t.toArray⟩, .slice kao ks.length kcap] 71)) := (Below.refl _ _).alloc (Nat.le_refl _) _
      have hrowA : (wr.alloc (.cells #[.slice qo r.cells[i].path.length qcap, .int .i64 k, .int .i64 m, .string ⟨t.toArray⟩, .slice kao ks.length kcap] 71)).heap[wr.heap.size]? = some (.cells #[.slice qo r.cells[i].path.length qcap, .int .i64 k, .int .i64 m, .string ⟨t.toArray⟩, .slice kao ks.length kcap] 71 (0, 0)) := heap_alloc_new wr _
      have heq := equalP_any (hpi.below hbA) ((H.out.2.2.2.2.1.below HO.out.2.1).below hbA) (H.out.2.2.2.2.2.1 _ (List.getElem_mem hlt))
      have HX := Lib.hid (And.intro heq (And.intro hx (And.intro hv (And.intro hbA hrowA))))
      clear hx hpi hv hbA hrowA heq
      go_wp2_with fail
      refine HX.out.1.mono ?_
      rintro e w2 ⟨rfl, hb2⟩
      have hbr2 : Below wr.heap.size wr w2 := HX.out.2.2.2.1.trans (hb2.mono HX.out.2.2.2.1.size)
      have hrow2 : w2.heap[wr.heap.size]? = _ := (hb2.block wr.heap.size (by simp)).trans HX.out.2.2.2.2
      have hrr2 : w2.heap[w.heap.size + 1]? = _ := (hbr2.block _ (by omega)).trans HO.out.2.2
      have H2 := Lib.hid (And.intro (HO.out.2.1.trans (hbr2.mono hszr)) (And.intro hrr2 (HX.out.2.2.1.below hbr2)))
      by_cases heq : r.cells[i].path = path
      · rw [decide_eq_true heq]
        have d1 : w2.cell? ⟨wr.heap.size, 1, none⟩ = some (.int .i64 k) := cell_of_row _ _ 1 _ _ (0, 0) hrow2
        have d2 : w2.cell? ⟨wr.heap.size, 2, none⟩ = some (.int .i64 m) := cell_of_row _ _ 2 _ _ (0, 0) hrow2
        have d3 : w2.cell? ⟨wr.heap.size, 3, none⟩ = some (.string ⟨t.toArray⟩) := cell_of_row _ _ 3 _ _ (0, 0) hrow2
        have d4 : w2.cell? ⟨wr.heap.size, 4, none⟩ = some (.slice kao ks.length kcap) := cell_of_row _ _ 4 _ _ (0, 0) hrow2
        obtain ⟨e0, e1, e2, e3⟩ := PatAt.row hrr2
        have hf : ∀ j, w2.frozen? ⟨w.heap.size + 1, j, none⟩ = false := fun j => frozen_of_row w2 _ j _ _ hrr2
        have HE := Lib.hid heq
        clear hb2 hbr2 hrow2 hrr2 heq c0 c1 c2 c3 c4
        go_wp2_with fail
        refine bodyPost_ret (v := .tuple #[patV k m t kao ks.length kcap, .bool true]) (results_at _ _ (w.heap.size + 1) k m t kao ks.length kcap _ (by rfl) (by rfl) (put4 (cs := [.int .i64 0, .int .i64 0, .string ⟨#[]⟩, .slice none 0 0]) H2.out.2.1 rfl k m t kao ks.length kcap)) rfl ⟨?_, .inl ⟨.mk k m t ks, [.int .i64 k, .int .i64 m, .string ⟨t.toArray⟩, .slice kao ks.length kcap], by rw [atR_found hlt HO.out.1 HE.out, HX.out.2.1], rfl, ?_⟩⟩
        · exact H.out.1.trans ((H2.out.1.mono (by omega)).trans ((keep4 (X := fun j => w.heap.size ≤ j) _ (by omega) _ _ _ _).below (fun i hi h => by omega) (by have := H2.out.1.size; omega)))
        · exact (H2.out.2.2.keeps (keep4 (X := fun j => w.heap.size ≤ j) _ (by omega) _ _ _ _) (fun b hb h => by have := hb.2; omega)).mono fun b hb => hb.1
      · rw [decide_eq_false heq]
        have HE := Lib.hid heq
        clear hb2 hbr2 hrow2 hrr2 heq c0 c1 c2 c3 c4
        go_wp2_with fail
        go_roundw
        case rel =>
          refine ⟨i + 1, by omega, by simp, fun j hj hji => ?_, H2.out.1⟩
          rcases Nat.lt_or_ge j i with h | h
          · exact HO.out.1 j hj h
          · obtain rfl : j = i := by omega
            exact HE.out
        case measure => simp [intOf]; omega
    · obtain rfl : i = r.cells.length := by omega
      have hd1 : decide ((r.cells.length : Int) < (r.cells.length : Int)) = false := decide_eq_false (by omega)
      obtain ⟨e0, e1, e2, e3⟩ := PatAt.row HO.out.2.2
      have hf : ∀ j, wr.frozen? ⟨w.heap.size + 1, j, none⟩ = false := fun j => frozen_of_row wr _ j _ _ HO.out.2.2
      go_wp2_with fail
      refine bodyPost_ret (v := .tuple #[patV 0 0 [] none 0 0, .bool false]) (results_at _ _ (w.heap.size + 1) 0 0 [] none 0 0 _ (by rfl) (by rfl) (put4 (cs := [.int .i64 0, .int .i64 0, .string ⟨#[]⟩, .slice none 0 0]) HO.out.2.2 rfl 0 0 [] none 0 0)) rfl ⟨?_, .inr ⟨atR_all fun j hj => HO.out.1 j hj hj, rfl⟩⟩
      exact H.out.1.trans ((HO.out.2.1.mono (by omega)).trans ((keep4 (X := fun j => w.heap.size ≤ j) _ (by omega) _ _ _ _).below (fun i hi h => by omega) (by omega)))
end Go.Proofs.Ytnhdefaagicejaa
