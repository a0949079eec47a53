/- The walk of match.Run. -/
import Derived.Test.YtnhdefaagicejaaMat8
import Derived.Test.YtnhdefaagicejaaRunP
import Derived.Test.YtnhdefaagicejaaLeast
namespace Go.Proofs.Ytnhdefaagicejaa
set_option linter.unusedSimpArgs false
set_option linter.unusedVariables false
open Go.RowKit

theorem infoPath : (Try.prog.info? 25).map (fun i => (i.zero, i.size, i.bytes)) = some (some (.slice none 0 0), 1, 24) := by kernel_rfl
/-- A place in a row of places. -/
abbrev PathE : World → (Nat → Prop) → List Value → List Nat → Prop := fun w D cs p => ∃ v, cs = [v] ∧ PathIn w D v p
def sliceLen : Value → Nat
  | .slice _ n _ => n
  | _ => 0
/-- What a call to Run leaves. -/
def Runs (w : World) (x : PV) (rows : List RowM) (N : Nat) (e : Ending) (w' : World) : Prop :=
  Below w.heap.size w w' ∧ ∃ (asked : List (List Nat)) (ao : Option Addr) (cap : Nat), e = .returned (.tuple #[.int .i64 (firstR x rows), .slice ao asked.length cap]) ∧ (asked.length ≤ cap ∧ cap ≤ 9223372036854775807) ∧ InL 1 PathE w' (fun b => w.heap.size ≤ b ∧ b < w'.heap.size) ao asked ∧ asked.Nodup ∧ (∀ q ∈ asked, ∃ u, atV x q = some u) ∧ asked.length < N
/-- A run so far, in memory: the tree that is left lies in the block g. -/
def RunS (d : Nat) (D : Nat → Prop) (W : World) (g : Nat) (x : PV) (rows : List RowM) (N : Nat) (v : Value) (wr : World) : Prop :=
  ∃ cs t asked ao cap, v = .slice ao (asked : List (List Nat)).length cap ∧ wr.heap[g]? = some (.cells (cs : List Value).toArray 29 (0, 0)) ∧ TreeIn wr D d cs t ∧ RunI x rows N t asked ∧ OwnL 25 1 PathE wr W.heap.size (DD (fun _ => False) W wr ao) ao cap asked ∧ Keeps (fun b => b = g ∨ W.heap.size ≤ b) W wr
theorem run_next {d : Nat} {D : Nat → Prop} {W : World} {g : Nat} {x : PV} {rows : List RowM} {N : Nat} {wr wa w2 wi : World} {ao ao2 : Option Addr} {cap2 : Nat} {asked : List (List Nat)} {kid : TreeM} {cs0 : List Value} {c0 c1 c2 c3 c4 : Value}
    (hk : Keeps (fun b => b = g ∨ W.heap.size ≤ b) W wr) (hg : g < W.heap.size) (hDg : ∀ b, D b → b < g) (hao : ∀ j, blk ao = some j → W.heap.size ≤ j ∧ j < wr.heap.size) (hb : Below wr.heap.size wr wa) (q1 : OwnL 25 1 PathE w2 W.heap.size (DD (fun _ => False) W wa ao) ao2 cap2 asked) (q2 : Keeps (fun i => blk ao = some i) wa w2) (hbi : Below w2.heap.size w2 wi)
    (h0 : wr.heap[g]? = some (.cells cs0.toArray 29 (0, 0))) (hl : cs0.length = 5) (hkid : TreeIn wr D d [c0, c1, c2, c3, c4] kid) (hri : RunI x rows N kid asked) :
    RunS d D W g x rows N (.slice ao2 asked.length cap2) (((((wi.setCell ⟨g, 0, none⟩ c0).setCell ⟨g, 1, none⟩ c1).setCell ⟨g, 2, none⟩ c2).setCell ⟨g, 3, none⟩ c3).setCell ⟨g, 4, none⟩ c4) := by
  have hki : Keeps (fun i => blk ao = some i) wr wi := ((Keeps.of_below hb).trans' q2).trans' (Keeps.of_below hbi)
  have hsr := hk.size
  have hgi : wi.heap[g]? = _ := (hki.block g (by omega) (fun h => by have := (hao g h).1; omega)).trans h0
  have hk5 := keep5 (X := fun b => b = g) wi (g := g) rfl c0 c1 c2 c3 c4
  have hlt := q1.lt
  have hgc : TreeAt (((((wi.setCell ⟨g, 0, none⟩ c0).setCell ⟨g, 1, none⟩ c1).setCell ⟨g, 2, none⟩ c2).setCell ⟨g, 3, none⟩ c3).setCell ⟨g, 4, none⟩ c4) g c0 c1 c2 c3 c4 := by
    match cs0, hl with
    | [a, b, c, d, e], _ => exact TreeAt.put hgi c0 c1 c2 c3 c4
  refine ⟨[c0, c1, c2, c3, c4], kid, asked, ao2, cap2, rfl, hgc, ?_, hri, ?_, ?_⟩
  · exact (hkid.keeps hki (fun b hb h => by have := hDg b hb; have := (hao b h).1; omega)).keeps hk5 (fun b hb h => by have := hDg b hb; omega)
  · refine own_dd elemP ((q1.below elemP hbi).keeps elemP hk5 (fun b hb h => ?_) (fun j hj h => by have := (hlt j hj).1; omega)) ?_
    · rcases hb with hb | hb
      · exact hb
      · omega
    · have := q2.size; have := hbi.size; have := hk5.size; omega
  · exact (hk.trans' (hki.mono (fun b _ h => .inr (hao b h).1))).trans' (hk5.mono (fun b _ h => .inl h))
theorem InL.tree {d : Nat} {w : World} {D : Nat → Prop} {ko : Option Addr} {kids : List TreeM} (h : InL 5 (TreeP d) w D ko kids) (i : Nat) (hi : i < kids.length) :
    ∃ b o k num po pn pc to_ tn tc kk kn kc, ko = some ⟨b, o, none⟩ ∧ TreeIn w D d [.bool k, .int .i64 num, .slice po pn pc, .slice to_ tn tc, .slice kk kn kc] kids[i] ∧ w.cell? ⟨b, o + i * 5, none⟩ = some (.bool k) ∧ w.cell? ⟨b, o + i * 5 + 1, none⟩ = some (.int .i64 num) ∧ w.cell? ⟨b, o + i * 5 + 2, none⟩ = some (.slice po pn pc) ∧ w.cell? ⟨b, o + i * 5 + 3, none⟩ = some (.slice to_ tn tc) ∧ w.cell? ⟨b, o + i * 5 + 4, none⟩ = some (.slice kk kn kc) ∧ D b := by
  obtain ⟨b, o, cs, rfl, ht, hc, hD, _⟩ := h.get (elemTr d) (by decide) i hi
  obtain ⟨k, num, po, pn, pc, to_, tn, tc, kk, kn, kc, rfl⟩ := TreeIn.val ht
  exact ⟨b, o, k, num, po, pn, pc, to_, tn, tc, kk, kn, kc, rfl, ht, by have := hc 0 _ rfl; rwa [Nat.add_zero] at this, by have := hc 1 _ rfl; rwa [← Nat.add_assoc] at this, by have := hc 2 _ rfl; rwa [← Nat.add_assoc] at this, by have := hc 3 _ rfl; rwa [← Nat.add_assoc] at this, by have := hc 4 _ rfl; rwa [← Nat.add_assoc] at this, hD⟩
theorem kid_at {X : Nat → Prop} {d : Nat} {w wx : World} {D : Nat → Prop} {ko : Option Addr} {kids : List TreeM} (h : InL 5 (TreeP d) w D ko kids) (hk : Keeps X w wx) (hX : ∀ b, D b → ¬ X b) (i : Nat) (hi : i < kids.length) :
    ∃ b o k num po pn pc to_ tn tc kk kn kc, ko = some ⟨b, o, none⟩ ∧ TreeIn w D d [.bool k, .int .i64 num, .slice po pn pc, .slice to_ tn tc, .slice kk kn kc] kids[i] ∧ wx.cell? ⟨b, o + i * 5, none⟩ = some (.bool k) ∧ wx.cell? ⟨b, o + i * 5 + 1, none⟩ = some (.int .i64 num) ∧ wx.cell? ⟨b, o + i * 5 + 2, none⟩ = some (.slice po pn pc) ∧ wx.cell? ⟨b, o + i * 5 + 3, none⟩ = some (.slice to_ tn tc) ∧ wx.cell? ⟨b, o + i * 5 + 4, none⟩ = some (.slice kk kn kc) := by
  obtain ⟨b, o, k, num, po, pn, pc, to_, tn, tc, kk, kn, kc, h1, h2, c0, c1, c2, c3, c4, hb⟩ := h.tree i hi
  exact ⟨b, o, k, num, po, pn, pc, to_, tn, tc, kk, kn, kc, h1, h2, keeps_cell hk (hX b hb) c0, keeps_cell hk (hX b hb) c1, keeps_cell hk (hX b hb) c2, keeps_cell hk (hX b hb) c3, keeps_cell hk (hX b hb) c4⟩
theorem seq_ldPatF {o : Oper} {x : Operand} {a : Act} {w : World} (ho : o.op = .load 50 x) {g f : Nat} {k m : Int} {t : List UInt8} {ao : Option Addr} {n cap : Nat} (hx : a.eval x = .pointer (some ⟨g, f, none⟩)) (hc : w.cell? ⟨g, f, none⟩ = some (.int .i64 k) ∧ w.cell? ⟨g, f + 1, none⟩ = some (.int .i64 m) ∧ w.cell? ⟨g, f + 2, none⟩ = some (.string ⟨t.toArray⟩) ∧ w.cell? ⟨g, f + 3, none⟩ = some (.slice ao n cap)) :
    ∀ w', Below w.heap.size w w' → (execOp a.eval o).run Try.prog w' = .ok (.value (patV k m t ao n cap)) w' := by
  intro w' hb
  obtain ⟨c0, c1, c2, c3⟩ := hc
  have hl : g < w.heap.size := World.block_lt_of_cell? (a := ⟨g, f, none⟩) w c0
  have d0 : w'.cell? ⟨g, f, none⟩ = _ := (World.cell?_of_block (a := ⟨g, f, none⟩) (hb.block g hl)).trans c0
  have d1 : w'.cell? ⟨g, f + 1, none⟩ = _ := (World.cell?_of_block (a := ⟨g, f + 1, none⟩) (hb.block g hl)).trans c1
  have d2 : w'.cell? ⟨g, f + 2, none⟩ = _ := (World.cell?_of_block (a := ⟨g, f + 2, none⟩) (hb.block g hl)).trans c2
  have d3 : w'.cell? ⟨g, f + 3, none⟩ = _ := (World.cell?_of_block (a := ⟨g, f + 3, none⟩) (hb.block g hl)).trans c3
  have hu := Try.underlying50
  unfold execOp patV
  simp only [ho, hx]
  go_simp
set_option maxRecDepth 100000 in
set_option maxHeartbeats 8000000 in
theorem run_any {d n : Nat} {w : World} {D E : Nat → Prop} {tcs vcs : List Value} {t : TreeM} {x : PV} {rows : List RowM} {N : Nat} (ht : TreeIn w D d tcs t) (hD : ∀ b, D b → b < w.heap.size) (hv : VIn w E n vcs x) (hE : ∀ b, E b → b < w.heap.size)
    (hri : RunI x rows N t []) (hN : N ≤ 1000000) (hx : sizeV x ≤ 900000) :
    Calls Try.prog 10 #[.agg tcs.toArray, .agg vcs.toArray] w (Runs w x rows N) := by
  obtain ⟨g, hg⟩ : ∃ g, w.heap.size = g := ⟨_, rfl⟩
  obtain ⟨y0, y1, y2o, y2n, y2c, y3o, y3n, y3c, y4o, y4n, y4c, rfl⟩ := ht.val
  cases n with
  | zero => exact hv.elim
  | succ n =>
  obtain ⟨k, m, tx, ks⟩ := x
  obtain ⟨vo, vcap, hcv, hcs, _⟩ := hv.val
  subst hcs
  clear hcv
  obtain ⟨W, hW⟩ : ∃ W, (w.alloc (.cells #[.bool y0, .int .i64 y1, .slice y2o y2n y2c, .slice y3o y3n y3c, .slice y4o y4n y4c] 29)).alloc (.cells #[.int .i64 k, .int .i64 m, .string ⟨tx.toArray⟩, .slice vo ks.length vcap] 34) = W := ⟨_, rfl⟩
  have hbW : Below g w W := by rw [← hW, ← hg]; exact ((Below.refl _ _).alloc (Nat.le_refl _) _).alloc (by simp) _
  have hsW : W.heap.size = g + 2 := by rw [← hW, ← hg]; simp
  have h1W : W.heap[g]? = some (.cells #[.bool y0, .int .i64 y1, .slice y2o y2n y2c, .slice y3o y3n y3c, .slice y4o y4n y4c] 29 (0, 0)) := by
    rw [← hW, ← hg]
    exact (Below.heap_alloc _ _ _ (by simp)).trans (heap_alloc_new w _)
  have h2W : ValAt W (g + 1) [.int .i64 k, .int .i64 m, .string ⟨tx.toArray⟩, .slice vo ks.length vcap] := by
    rw [← hW, ← hg]
    have := heap_alloc_new (w.alloc (.cells #[.bool y0, .int .i64 y1, .slice y2o y2n y2c, .slice y3o y3n y3c, .slice y4o y4n y4c] 29)) (.cells #[.int .i64 k, .int .i64 m, .string ⟨tx.toArray⟩, .slice vo ks.length vcap] 34)
    simp only [World.size_alloc] at this
    exact this
  have hEg : ∀ b, E b → b < g := by rw [← hg]; exact hE
  have hDg : ∀ b, D b → b < g := by rw [← hg]; exact hD
  have H := Lib.hid (And.intro hbW (And.intro hsW (And.intro h2W (And.intro (hv.below (by rw [hg]; exact hbW)) (And.intro hEg (And.intro hDg (And.intro hx (And.intro hN (And.intro hW hg)))))))))
  have hS : RunS d D W g (.mk k m tx ks) rows N (.slice none 0 0) W := ⟨_, t, [], none, 0, rfl, h1W, ht.keeps (Keeps.of_below (X := fun _ => False) (by rw [hg]; exact hbW)) (fun _ _ h => h), hri, OwnL.nil _ _ _, Keeps.refl _ _⟩
  have HS := Lib.hid hS
  clear hbW hsW h1W h2W hv hE hD hx hW hg hS hN hDg hEg ht hri
  go_enter Try.func10, Try.ntmps10
  go_upto_block 0 with (fail)
  rw [H.out.2.2.2.2.2.2.2.2.1, H.out.2.2.2.2.2.2.2.2.2]
  go_wp2_with fail
  go_loopw [6] (fun v6 wr => RunS d D W g (.mk k m tx ks) rows N v6 wr) (fun v6 _ => N - sliceLen v6)
  case atStart => exact HS.out
  case round =>
    obtain ⟨cs, t, asked, ao, cap, rfl, hta, hti, hri, hown, hk⟩ := hrel
    cases d with
    | zero => exact hti.elim
    | succ d =>
    cases t with
    | leaf num =>
      obtain rfl : cs = [.bool true, .int .i64 num, .slice none 0 0, .slice none 0 0, .slice none 0 0] := hti
      obtain ⟨x0, x1, x2, x3, x4, xf⟩ := TreeAt.cells hta
      have hcl := hown.cap_le
      have hlt := hown.lt
      have HL := Lib.hid (And.intro hri.inv (And.intro hri.leaf (And.intro hown (And.intro hk (And.intro hcl hlt)))))
      clear hta hri hown hk hcl hlt
      go_wp2_with fail
      go_ret2
      refine ⟨?_, asked, ao, cap, by rw [HL.out.2.1]; rfl, HL.out.2.2.2.2.1, (HL.out.2.2.1.inl elemP (by decide)).there elemP (by decide) |>.mono elemP (fun b hb => ?_), HL.out.1⟩
      · rw [H.out.2.2.2.2.2.2.2.2.2]
        exact H.out.1.trans (HL.out.2.2.2.1.below (fun b hb h => by have := H.out.2.1; omega) (by have := H.out.2.1; omega))
      · have := H.out.2.1
        have := H.out.2.2.2.2.2.2.2.2.2
        refine ⟨?_, hb.2⟩
        rcases hb.1 with (h | h) | h
        · exact h.elim
        · omega
        · have := (HL.out.2.2.2.2.2 b h).1; omega
    | node path tests kids =>
      rename World => wo
      obtain ⟨pv, to_, tcap, ko, kcap, rfl, hcap, hpth, htst, hkids⟩ := TreeIn.node.1 hti
      obtain ⟨hkl, u, hu, hgo⟩ := hri.node
      obtain ⟨po, pcap, hpv, _⟩ := id hpth
      subst hpv
      obtain ⟨x0, x1, x2, x3, x4, xf⟩ := TreeAt.cells hta
      have hcl := hown.cap_le
      have hlt := hown.lt
      have hpl : path.length ≤ 900000 := by have := at_len path hu; have := H.out.2.2.2.2.2.2.1; omega
      have hcl1 := clonePath_any hpth (by omega)
      have hal : asked.length < 1000000 := by have := hri.inv.2.2; have := H.out.2.2.2.2.2.2.2.1; omega
      have hri0 := hri.inv.2.2
      have HL := Lib.hid (And.intro hpth (And.intro htst (And.intro hkids (And.intro hown (And.intro hk (And.intro hlt (And.intro hta (And.intro hu (And.intro hgo (And.intro hkl hri0))))))))))
      have HC := Lib.hid hcl1
      have hk0 : decide (0 < (kids.length : Int)) = true := decide_eq_true (by omega)
      have hkg : tests.length < kids.length := by omega
      have hsr := hk.size
      clear hta hti hri hown hk hcl hlt hpth htst hkids hgo hu hcl1 hkl hri0
      go_wp2_with fail
      refine HC.out.mono ?_
      rintro e w1 ⟨co, ccap, rfl, hown1, hb1⟩
      obtain ⟨wa, hwa⟩ : ∃ wa, w1.alloc (.cells #[.slice co path.length ccap] 25) = wa := ⟨_, rfl⟩
      have hb1a : Below w1.heap.size w1 wa := by rw [← hwa]; exact (Below.refl _ _).alloc (Nat.le_refl _) _
      have hsa : w1.heap.size + 1 = wa.heap.size := by rw [← hwa]; simp
      have hat : At wa (some ⟨w1.heap.size, 0, none⟩) [.slice co path.length ccap] := by rw [← hwa]; exact At.new w1 #[.slice co path.length ccap] _
      have hlt1 := hown1.lt
      have hp1 : PathIn wa (DD (fun _ => False) W wa ao) (.slice co path.length ccap) path := (PathIn.of_own (D := DD (fun _ => False) W wa ao) hown1 (fun b hb => by
        have h1 := hlt1 b (by rw [own_slice]; exact hb)
        exact .inr ⟨by omega, by omega, fun h => by have := (HL.out.2.2.2.2.2.1 b h).2; omega⟩)).below hb1a
      have hbra : Below wo.heap.size wo wa := hb1.trans (hb1a.mono hb1.size)
      have hs1 := hb1.size
      have HA := Lib.hid (And.intro hbra (And.intro hp1 (And.intro hat hwa)))
      obtain ⟨i0, hi0, hz0, hz1', hz2⟩ := info_parts infoPath
      clear hown1 hb1 hb1a hat hlt1 hp1 hwa hbra x0 x1 x2 x3 x4 xf
      have hwsz := H.out.2.1
      go_wp2_with (first | (at_builtin; rw [HA.out.2.2.2]; refine app_own elemP (by decide) rfl _ _ 40 rfl i0 _ 24 Try.underlying40 hi0 hz0 hz1' hz2 rfl (by decide) W.heap.size (DD (fun _ => False) W wa ao) ao cap asked.length asked rfl rfl (own_dd elemP (HL.out.2.2.2.1.below elemP HA.out.1) HA.out.1.size) [.slice co path.length ccap] path ⟨_, rfl, HA.out.2.1⟩ w1.heap.size rfl HA.out.2.2.1 (fun b hb => by rcases hb with h | h; exact h.elim; exact h.2.1) (by omega) (by omega) ?_; rintro ao2 cap2 w2 q1 q2 q3; have hs2 := q2.size; have hk2 := (Keeps.of_below (X := fun i => blk ao = some i) HA.out.1).trans' q2; have hva := (H.out.2.2.1.keeps HL.out.2.2.2.2.1 (by omega)).keeps hk2 (fun h => by have := (HL.out.2.2.2.2.2.1 _ h).1; omega); have HW2 := Lib.hid (And.intro q1 (And.intro q2 (And.intro q3 (And.intro hk2 hva)))); obtain ⟨x0, x1, x2, x3, x4, xf⟩ := TreeAt.cells ((hk2.block g (by omega) (fun h => by have := (HL.out.2.2.2.2.2.1 _ h).1; omega)).trans HL.out.2.2.2.2.2.2.1); obtain ⟨z0, z1, z2, z3⟩ := hva.pat; clear q1 q2 q3 hk2 hva))
      have hvi2 : VIn w2 E (n + 1) [.int .i64 k, .int .i64 m, .string ⟨tx.toArray⟩, .slice vo ks.length vcap] (.mk k m tx ks) := (H.out.2.2.2.1.keeps HL.out.2.2.2.2.1 (fun b hb h => by have := H.out.2.2.2.2.1 b hb; omega)).keeps HW2.out.2.2.2.1 (fun b hb h => by have := H.out.2.2.2.2.1 b hb; have := (HL.out.2.2.2.2.2.1 _ h).1; omega)
      have hvat := vat_any hvi2 (fun b hb => by have := H.out.2.2.2.2.1 b hb; have := HA.out.1.size; omega) (by omega) (HL.out.1.keeps HW2.out.2.2.2.1 (fun b hb h => by have := H.out.2.2.2.2.2.1 b hb; have := (HL.out.2.2.2.2.2.1 _ h).1; omega))
      have HV := Lib.hid hvat
      clear hvi2 hvat x0 x1 x2 x3 x4 xf z0 z1 z2 z3
      refine HV.out.mono ?_
      rintro e w3 ⟨hb3, hres⟩
      obtain ⟨u', ucs, hu', rfl, hvu⟩ : ∃ u' ucs, u' = u ∧ e = .returned (.tuple #[.agg ucs.toArray, .bool true]) ∧ VIn w3 E (n + 1) ucs u' := by
        rcases hres with ⟨u', ucs, hu', he, hvu⟩ | ⟨hno, _⟩
        · rw [HL.out.2.2.2.2.2.2.2.1, Option.some.injEq] at hu'
          exact ⟨u', ucs, hu'.symm, he, hvu⟩
        · rw [HL.out.2.2.2.2.2.2.2.1] at hno
          cases hno
      obtain ⟨k4, m4, t4, ks4⟩ := u'
      obtain ⟨uo, ucap, hpe, hucs, _⟩ := hvu.val
      rw [hpe]
      unfold patV
      obtain ⟨w4, hw4⟩ : ∃ w4, w3.alloc (.cells #[.int .i64 k4, .int .i64 m4, .string ⟨t4.toArray⟩, .slice uo ks4.length ucap] 34) = w4 := ⟨_, rfl⟩
      have hb34 : Below w3.heap.size w3 w4 := by rw [← hw4]; exact (Below.refl _ _).alloc (Nat.le_refl _) _
      have hp4 : PatAt w4 w3.heap.size k4 m4 t4 uo ks4.length ucap := by rw [← hw4]; exact PatAt.new w3 _ _ _ _ _ _ _
      have hb24 : Below w2.heap.size w2 w4 := hb3.trans (hb34.mono hb3.size)
      have hs3 := hb3.size
      have hs34 := hb34.size
      have H4 := Lib.hid (And.intro hb24 (And.intro hp4 (And.intro hu' hw4)))
      clear hres hvu hpe hucs hb3 hb34 hp4 hb24 hu' hw4
      go_wp2_with fail
      rw [H4.out.2.2.2]
      go_loopw [9] (fun v9 wi => ∃ i : Nat, i ≤ tests.length ∧ v9 = .int .i64 (i : Int) ∧ (∀ j (hj : j < tests.length), j < i → holdsT tests[j] (.mk k4 m4 t4 ks4) = false) ∧ Below w4.heap.size w4 wi) (fun v9 _ => tests.length - (intOf v9).toNat)
      case atStart => exact ⟨0, by omega, rfl, fun j hj h => by omega, Below.refl _ _⟩
      case round =>
        obtain ⟨i, hi, rfl, hall, hbi⟩ := hrel
        have hsi := hbi.size
        have hk2i : Keeps (fun i => blk ao = some i) wo wr := HW2.out.2.2.2.1.trans' (Keeps.of_below (H4.out.1.trans (hbi.mono H4.out.1.size)))
        have hpi := H4.out.2.1.below hbi
        obtain ⟨x0, x1, x2, x3, x4, xf⟩ := TreeAt.cells ((hk2i.block g (by omega) (fun h => by have := (HL.out.2.2.2.2.2.1 _ h).1; omega)).trans HL.out.2.2.2.2.2.2.1)
        have HO := Lib.hid (And.intro hall (And.intro hbi (And.intro hk2i (And.intro hpi x3))))
        clear hall hbi hk2i
        by_cases hlt : i < tests.length
        · have hd1 : decide ((i : Int) < (tests.length : Int)) = true := decide_eq_true (by omega)
          have hilt : (i : Int) < (tests.length : Int) := by omega
          obtain ⟨b, o, po2, pc2, hto, c0, c1, c2, c3, hblt⟩ := testCells (HL.out.2.1.keeps elemT HO.out.2.2.1 (fun b hb h => by have := H.out.2.2.2.2.2.1 b hb; have := (HL.out.2.2.2.2.2.1 _ h).1; omega)) i hlt
          subst hto
          obtain ⟨y, hy⟩ : ∃ y, tests[i] = y := ⟨_, rfl⟩
          rw [hy] at c0 c1 c2 c3
          have hh := holds_any y po2 uo pc2 ucap k4 m4 t4 ks4
          obtain ⟨q, hq⟩ : ∃ q, holdsT y (.mk k4 m4 t4 ks4) = q := ⟨_, rfl⟩
          rw [hq] at hh
          have HH := Lib.hid (And.intro hh (And.intro (And.intro c0 (And.intro c1 (And.intro c2 c3))) (And.intro hy hq)))
          clear hh c0 c1 c2 c3 hy hq
          go_wp2_with fail
          refine seq_start (by kernel_rfl) ?_
          refine seq_take 0 (v := ?_) rfl (by kernel_rfl) (fun _ _ _ h => h) (by rfl) (fun w' hw' => ?_) ?_
          rotate_left
          · go_simp; try with_reducible rfl
          try simp only [List.getElem_toArray, List.getElem_cons_succ, List.getElem_cons_zero, Act.put, List.setIfInBounds_toArray, List.set_cons_zero, List.set_cons_succ]
          refine seq_take 1 (v := ?_) rfl (by kernel_rfl) (fun _ _ _ h => h) (by rfl) (fun w' hw' => ?_) ?_
          rotate_left
          · go_simp; try with_reducible rfl
          try simp only [List.getElem_toArray, List.getElem_cons_succ, List.getElem_cons_zero, Act.put, List.setIfInBounds_toArray, List.set_cons_zero, List.set_cons_succ]
          refine seq_take 2 rfl (by kernel_rfl) (fun _ _ _ h => h) (by rfl) (seq_ldPs rfl rfl (HO.out.2.2.2.2)) ?_
          try simp only [List.getElem_toArray, List.getElem_cons_succ, List.getElem_cons_zero, Act.put, List.setIfInBounds_toArray, List.set_cons_zero, List.set_cons_succ]
          refine seq_take 3 (v := ?_) rfl (by kernel_rfl) (fun _ _ _ h => h) (by rfl) (fun w' hw' => ?_) ?_
          rotate_left
          · go_simp; try with_reducible rfl
          try simp only [List.getElem_toArray, List.getElem_cons_succ, List.getElem_cons_zero, Act.put, List.setIfInBounds_toArray, List.set_cons_zero, List.set_cons_succ]
          refine seq_take 4 (v := ?_) rfl (by kernel_rfl) (fun _ _ _ h => h) (by rfl) (fun w' hw' => ?_) ?_
          rotate_left
          · go_simp; try with_reducible rfl
          try simp only [List.getElem_toArray, List.getElem_cons_succ, List.getElem_cons_zero, Act.put, List.setIfInBounds_toArray, List.set_cons_zero, List.set_cons_succ]
          refine seq_take 5 (v := ?_) rfl (by kernel_rfl) (fun _ _ _ h => h) (by rfl) (fun w' hw' => ?_) ?_
          rotate_left
          · go_simp; try with_reducible rfl
          try simp only [List.getElem_toArray, List.getElem_cons_succ, List.getElem_cons_zero, Act.put, List.setIfInBounds_toArray, List.set_cons_zero, List.set_cons_succ]
          refine seq_take 6 (v := ?_) rfl (by kernel_rfl) (fun _ _ _ h => h) (by rfl) (fun w' hw' => ?_) ?_
          rotate_left
          · go_simp; try with_reducible rfl
          try simp only [List.getElem_toArray, List.getElem_cons_succ, List.getElem_cons_zero, Act.put, List.setIfInBounds_toArray, List.set_cons_zero, List.set_cons_succ]
          refine seq_take 7 (v := ?_) rfl (by kernel_rfl) (fun _ _ _ h => h) (by rfl) (fun w' hw' => ?_) ?_
          rotate_left
          · go_simp; try with_reducible rfl
          try simp only [List.getElem_toArray, List.getElem_cons_succ, List.getElem_cons_zero, Act.put, List.setIfInBounds_toArray, List.set_cons_zero, List.set_cons_succ]
          refine seq_take 8 (v := ?_) rfl (by kernel_rfl) (fun _ _ _ h => h) (by rfl) (fun w' hw' => ?_) ?_
          rotate_left
          · go_simp; try with_reducible rfl
          try simp only [List.getElem_toArray, List.getElem_cons_succ, List.getElem_cons_zero, Act.put, List.setIfInBounds_toArray, List.set_cons_zero, List.set_cons_succ]
          refine seq_take 9 rfl (by kernel_rfl) (fun _ _ _ h => h) (by rfl) (seq_ldPs rfl rfl (HO.out.2.2.2.2)) ?_
          try simp only [List.getElem_toArray, List.getElem_cons_succ, List.getElem_cons_zero, Act.put, List.setIfInBounds_toArray, List.set_cons_zero, List.set_cons_succ]
          refine seq_take 10 (v := ?_) rfl (by kernel_rfl) (fun _ _ _ h => h) (by rfl) (fun w' hw' => ?_) ?_
          rotate_left
          · go_simp; try with_reducible rfl
          try simp only [List.getElem_toArray, List.getElem_cons_succ, List.getElem_cons_zero, Act.put, List.setIfInBounds_toArray, List.set_cons_zero, List.set_cons_succ]
          refine seq_take 11 (v := ?_) rfl (by kernel_rfl) (fun _ _ _ h => h) (by rfl) (fun w' hw' => ?_) ?_
          rotate_left
          · go_simp; try with_reducible rfl
          try simp only [List.getElem_toArray, List.getElem_cons_succ, List.getElem_cons_zero, Act.put, List.setIfInBounds_toArray, List.set_cons_zero, List.set_cons_succ]
          refine seq_take 12 rfl (by kernel_rfl) (fun _ _ _ h => h) (by rfl) (seq_ldPatF rfl rfl (HH.out.2.1)) ?_
          try simp only [List.getElem_toArray, List.getElem_cons_succ, List.getElem_cons_zero, Act.put, List.setIfInBounds_toArray, List.set_cons_zero, List.set_cons_succ]
          refine seq_take 13 rfl (by kernel_rfl) (fun _ _ _ h => h) (by rfl) (seq_ldVal rfl rfl (HO.out.2.2.2.1)) ?_
          try simp only [List.getElem_toArray, List.getElem_cons_succ, List.getElem_cons_zero, Act.put, List.setIfInBounds_toArray, List.set_cons_zero, List.set_cons_succ]
          refine seq_run 14 rfl (by kernel_rfl) (by rfl) (fun KK hKK => ?_)
          go_wp2_with fail
          refine (HH.out.1 _).mono ?_
          rintro e w6 ⟨rfl, hb6⟩
          have H6 := Lib.hid hb6
          have hb6' : Below wr.heap.size wr w6 := (Below.refl _ wr).drew.trans (by simpa using hb6)
          have H6' := Lib.hid hb6'
          clear hb6 hb6' x0 x1 x2 x3 x4 xf
          go_wp2_with fail
          refine ⟨H6.out, ?_⟩
          refine seq_take 15 (v := ?_) rfl (by kernel_rfl) (fun _ _ _ h => h) (by rfl) (fun w' hw' => ?_) ?_
          rotate_left
          · go_simp; try with_reducible rfl
          try simp only [List.getElem_toArray, List.getElem_cons_succ, List.getElem_cons_zero, Act.put, List.setIfInBounds_toArray, List.set_cons_zero, List.set_cons_succ]
          refine seq_take 16 (v := ?_) rfl (by kernel_rfl) (fun _ _ _ h => h) (by rfl) (fun w' hw' => ?_) ?_
          rotate_left
          · go_simp; try with_reducible rfl
          try simp only [List.getElem_toArray, List.getElem_cons_succ, List.getElem_cons_zero, Act.put, List.setIfInBounds_toArray, List.set_cons_zero, List.set_cons_succ]
          refine seq_take 17 (v := ?_) rfl (by kernel_rfl) (fun _ _ _ h => h) (by rfl) (fun w' hw' => ?_) ?_
          rotate_left
          · go_simp; try with_reducible rfl
          try simp only [List.getElem_toArray, List.getElem_cons_succ, List.getElem_cons_zero, Act.put, List.setIfInBounds_toArray, List.set_cons_zero, List.set_cons_succ]
          refine seq_done (by kernel_rfl) ?_
          cases q
          · go_wp2_with fail
            go_roundw
            case rel =>
              refine ⟨i + 1, by omega, by simp, fun j hj hji => ?_, HO.out.2.1.trans (H6'.out.mono hsi)⟩
              rcases Nat.lt_or_ge j i with h | h
              · exact HO.out.1 j hj h
              · obtain rfl : j = i := by omega
                rw [HH.out.2.2.1]
                exact HH.out.2.2.2
            case measure => simp [intOf]; omega
          · have hk2x : Keeps (fun i => blk ao = some i) wo w6 := HO.out.2.2.1.trans' (Keeps.of_below H6'.out)
            have hbx : Below w2.heap.size w2 w6 := H4.out.1.trans ((HO.out.2.1.trans ((H6'.out).mono hsi)).mono H4.out.1.size)
            obtain ⟨x0, x1, x2, x3, x4, xf⟩ := TreeAt.cells ((hk2x.block g (by omega) (fun h => by have := (HL.out.2.2.2.2.2.1 _ h).1; omega)).trans HL.out.2.2.2.2.2.2.1)
            obtain ⟨kid, hkid, hrk⟩ := HL.out.2.2.2.2.2.2.2.2.1 i hi (fun j hj hji => by rw [← H4.out.2.2.1]; exact HO.out.1 j hj hji) (fun _ => by rw [HH.out.2.2.1]; exact (by rw [← H4.out.2.2.1]; exact HH.out.2.2.2))
            have hmin : min (i : Int) ((kids.length : Int) - 1) = (i : Int) := by omega
            have hik : i < kids.length := by omega
            rw [List.getElem?_eq_getElem hik, Option.some.injEq] at hkid
            obtain ⟨kb, kof, k0, k1, k2o, k2n, k2c, k3o, k3n, k3c, k4o, k4n, k4c, hko, htk, e0, e1, e2, e3, e4⟩ := kid_at HL.out.2.2.1 hk2x (fun b hb h => by have := H.out.2.2.2.2.2.1 b hb; have := (HL.out.2.2.2.2.2.1 _ h).1; omega) i hik
            rw [hkid] at htk
            subst hko
            have HX := Lib.hid (And.intro hbx (And.intro htk (And.intro hrk hmin)))
            have hikz : ((i : Nat) : Int) < (kids.length : Int) := by omega
            clear hk2x hbx hkid hrk htk hmin
            go_wp2_with (refine op_min2 rfl _ _ _ rfl .i64 _ _ (i : Int) rfl rfl HX.out.2.2.2 ?_)
            go_roundw
            case rel =>
              have hn := run_next HL.out.2.2.2.2.1 (by omega) H.out.2.2.2.2.2.1 HL.out.2.2.2.2.2.1 HA.out.1 HW2.out.1 HW2.out.2.1 HX.out.1 HL.out.2.2.2.2.2.2.1 rfl (HX.out.2.1.deep (Nat.le_succ _)) HX.out.2.2.1
              rw [List.length_append, List.length_singleton] at hn
              exact hn
            case measure =>
              have := HL.out.2.2.2.2.2.2.2.2.2.2
              simp [sliceLen]
              omega
        · obtain rfl : i = tests.length := by omega
          have hd1 : decide ((tests.length : Int) < (tests.length : Int)) = false := decide_eq_false (by omega)
          go_wp2_with fail
          refine seq_start (by kernel_rfl) ?_
          refine seq_take 0 (v := ?_) rfl (by kernel_rfl) (fun _ _ _ h => h) (by rfl) (fun w' hw' => ?_) ?_
          rotate_left
          · go_simp; try with_reducible rfl
          try simp only [List.getElem_toArray, List.getElem_cons_succ, List.getElem_cons_zero, Act.put, List.setIfInBounds_toArray, List.set_cons_zero, List.set_cons_succ]
          refine seq_take 1 (v := ?_) rfl (by kernel_rfl) (fun _ _ _ h => h) (by rfl) (fun w' hw' => ?_) ?_
          rotate_left
          · go_simp; try with_reducible rfl
          try simp only [List.getElem_toArray, List.getElem_cons_succ, List.getElem_cons_zero, Act.put, List.setIfInBounds_toArray, List.set_cons_zero, List.set_cons_succ]
          refine seq_take 2 rfl (by kernel_rfl) (fun _ _ _ h => h) (by rfl) (seq_ldPs rfl rfl (HO.out.2.2.2.2)) ?_
          try simp only [List.getElem_toArray, List.getElem_cons_succ, List.getElem_cons_zero, Act.put, List.setIfInBounds_toArray, List.set_cons_zero, List.set_cons_succ]
          refine seq_take 3 (v := ?_) rfl (by kernel_rfl) (fun _ _ _ h => h) (by rfl) (fun w' hw' => ?_) ?_
          rotate_left
          · go_simp; try with_reducible rfl
          try simp only [List.getElem_toArray, List.getElem_cons_succ, List.getElem_cons_zero, Act.put, List.setIfInBounds_toArray, List.set_cons_zero, List.set_cons_succ]
          refine seq_take 4 (v := ?_) rfl (by kernel_rfl) (fun _ _ _ h => h) (by rfl) (fun w' hw' => ?_) ?_
          rotate_left
          · go_simp; try with_reducible rfl
          try simp only [List.getElem_toArray, List.getElem_cons_succ, List.getElem_cons_zero, Act.put, List.setIfInBounds_toArray, List.set_cons_zero, List.set_cons_succ]
          refine seq_take 5 (v := ?_) rfl (by kernel_rfl) (fun _ _ _ h => h) (by rfl) (fun w' hw' => ?_) ?_
          rotate_left
          · go_simp; try with_reducible rfl
          try simp only [List.getElem_toArray, List.getElem_cons_succ, List.getElem_cons_zero, Act.put, List.setIfInBounds_toArray, List.set_cons_zero, List.set_cons_succ]
          refine seq_skip 6 rfl (by kernel_rfl) (fun _ _ _ h => h) (by rfl) ?_
          try simp only [List.getElem_toArray, List.getElem_cons_succ, List.getElem_cons_zero, Act.put, List.setIfInBounds_toArray, List.set_cons_zero, List.set_cons_succ]
          refine seq_skip 7 rfl (by kernel_rfl) (fun _ _ _ h => h) (by rfl) ?_
          try simp only [List.getElem_toArray, List.getElem_cons_succ, List.getElem_cons_zero, Act.put, List.setIfInBounds_toArray, List.set_cons_zero, List.set_cons_succ]
          refine seq_skip 8 rfl (by kernel_rfl) (fun _ _ _ h => h) (by rfl) ?_
          try simp only [List.getElem_toArray, List.getElem_cons_succ, List.getElem_cons_zero, Act.put, List.setIfInBounds_toArray, List.set_cons_zero, List.set_cons_succ]
          refine seq_skip 9 rfl (by kernel_rfl) (fun _ _ _ h => h) (by rfl) ?_
          try simp only [List.getElem_toArray, List.getElem_cons_succ, List.getElem_cons_zero, Act.put, List.setIfInBounds_toArray, List.set_cons_zero, List.set_cons_succ]
          refine seq_skip 10 rfl (by kernel_rfl) (fun _ _ _ h => h) (by rfl) ?_
          try simp only [List.getElem_toArray, List.getElem_cons_succ, List.getElem_cons_zero, Act.put, List.setIfInBounds_toArray, List.set_cons_zero, List.set_cons_succ]
          refine seq_skip 11 rfl (by kernel_rfl) (fun _ _ _ h => h) (by rfl) ?_
          try simp only [List.getElem_toArray, List.getElem_cons_succ, List.getElem_cons_zero, Act.put, List.setIfInBounds_toArray, List.set_cons_zero, List.set_cons_succ]
          refine seq_skip 12 rfl (by kernel_rfl) (fun _ _ _ h => h) (by rfl) ?_
          try simp only [List.getElem_toArray, List.getElem_cons_succ, List.getElem_cons_zero, Act.put, List.setIfInBounds_toArray, List.set_cons_zero, List.set_cons_succ]
          refine seq_skip 13 rfl (by kernel_rfl) (fun _ _ _ h => h) (by rfl) ?_
          try simp only [List.getElem_toArray, List.getElem_cons_succ, List.getElem_cons_zero, Act.put, List.setIfInBounds_toArray, List.set_cons_zero, List.set_cons_succ]
          refine seq_skip 14 rfl (by kernel_rfl) (fun _ _ _ h => h) (by rfl) ?_
          try simp only [List.getElem_toArray, List.getElem_cons_succ, List.getElem_cons_zero, Act.put, List.setIfInBounds_toArray, List.set_cons_zero, List.set_cons_succ]
          refine seq_skip 15 rfl (by kernel_rfl) (fun _ _ _ h => h) (by rfl) ?_
          try simp only [List.getElem_toArray, List.getElem_cons_succ, List.getElem_cons_zero, Act.put, List.setIfInBounds_toArray, List.set_cons_zero, List.set_cons_succ]
          refine seq_skip 16 rfl (by kernel_rfl) (fun _ _ _ h => h) (by rfl) ?_
          try simp only [List.getElem_toArray, List.getElem_cons_succ, List.getElem_cons_zero, Act.put, List.setIfInBounds_toArray, List.set_cons_zero, List.set_cons_succ]
          refine seq_take 17 (v := ?_) rfl (by kernel_rfl) (fun _ _ _ h => h) (by rfl) (fun w' hw' => ?_) ?_
          rotate_left
          · go_simp; try with_reducible rfl
          try simp only [List.getElem_toArray, List.getElem_cons_succ, List.getElem_cons_zero, Act.put, List.setIfInBounds_toArray, List.set_cons_zero, List.set_cons_succ]
          refine seq_done (by kernel_rfl) ?_
          clear x0 x1 x2 x3 x4 xf
          have hk2x : Keeps (fun i => blk ao = some i) wo wr := HO.out.2.2.1
          have hbx : Below w2.heap.size w2 wr.drew := H4.out.1.trans ((HO.out.2.1.trans ((((Below.refl _ wr).drew)).mono hsi)).mono H4.out.1.size)
          obtain ⟨x0, x1, x2, x3, x4, xf⟩ := TreeAt.cells ((hk2x.block g (by omega) (fun h => by have := (HL.out.2.2.2.2.2.1 _ h).1; omega)).trans HL.out.2.2.2.2.2.2.1)
          obtain ⟨kid, hkid, hrk⟩ := HL.out.2.2.2.2.2.2.2.2.1 tests.length hi (fun j hj hji => by rw [← H4.out.2.2.1]; exact HO.out.1 j hj hji) (fun h => absurd h (by omega))
          have hmin : min (tests.length : Int) ((kids.length : Int) - 1) = (tests.length : Int) := by omega
          have hik : tests.length < kids.length := by omega
          rw [List.getElem?_eq_getElem hik, Option.some.injEq] at hkid
          obtain ⟨kb, kof, k0, k1, k2o, k2n, k2c, k3o, k3n, k3c, k4o, k4n, k4c, hko, htk, e0, e1, e2, e3, e4⟩ := kid_at HL.out.2.2.1 hk2x (fun b hb h => by have := H.out.2.2.2.2.2.1 b hb; have := (HL.out.2.2.2.2.2.1 _ h).1; omega) tests.length hik
          rw [hkid] at htk
          subst hko
          have HX := Lib.hid (And.intro hbx (And.intro htk (And.intro hrk hmin)))
          have hikz : ((tests.length : Nat) : Int) < (kids.length : Int) := by omega
          clear hk2x hbx hkid hrk htk hmin
          go_wp2_with (refine op_min2 rfl _ _ _ rfl .i64 _ _ (tests.length : Int) rfl rfl HX.out.2.2.2 ?_)
          go_roundw
          case rel =>
            have hn := run_next HL.out.2.2.2.2.1 (by omega) H.out.2.2.2.2.2.1 HL.out.2.2.2.2.2.1 HA.out.1 HW2.out.1 HW2.out.2.1 HX.out.1 HL.out.2.2.2.2.2.2.1 rfl (HX.out.2.1.deep (Nat.le_succ _)) HX.out.2.2.1
            rw [List.length_append, List.length_singleton] at hn
            exact hn
          case measure =>
            have := HL.out.2.2.2.2.2.2.2.2.2.2
            simp [sliceLen]
            omega
end Go.Proofs.Ytnhdefaagicejaa
