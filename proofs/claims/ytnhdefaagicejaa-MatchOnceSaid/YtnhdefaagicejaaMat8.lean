/- The walks of At: match's, and the document's. -/
import Derived.Test.YtnhdefaagicejaaMat7
namespace Go.Proofs.Ytnhdefaagicejaa
set_option linter.unusedSimpArgs false
set_option linter.unusedVariables false
open Go.RowKit

theorem atV_take_none {v : PV} : ∀ {path : List Nat} {j : Nat}, atV v (path.take j) = none → atV v path = none := by
  intro path
  induction path generalizing v with
  | nil => intro j h; simpa using h
  | cons i is ih =>
    intro j h
    cases j with
    | zero => simp [atV] at h
    | succ j =>
      rw [List.take_succ_cons, atV] at h
      rw [atV]
      cases hk : v.kids[i]? with
      | none => rfl
      | some u => rw [hk] at h; exact ih h
/-- What a call to At leaves. -/
def VAts (n : Nat) (w : World) (D : Nat → Prop) (x : PV) (path : List Nat) (e : Ending) (w' : World) : Prop :=
  Below w.heap.size w w' ∧ ((∃ u cs, atV x path = some u ∧ e = .returned (.tuple #[.agg cs.toArray, .bool true]) ∧ VIn w' D n cs u) ∨ (atV x path = none ∧ e = .returned (.tuple #[patV 0 0 [] none 0 0, .bool false])))
/-- A value's cells in a block of its own. -/
def ValAt (w : World) (g : Nat) (cs : List Value) : Prop := w.heap[g]? = some (.cells cs.toArray 34 (0, 0))
theorem ValAt.pat {w : World} {g : Nat} {k m : Int} {t : List UInt8} {ao : Option Addr} {n cap : Nat} (h : ValAt w g [.int .i64 k, .int .i64 m, .string ⟨t.toArray⟩, .slice ao n cap]) : PatAt w g k m t ao n cap := PatAt.row h
theorem ValAt.frozen {w : World} {g : Nat} {cs : List Value} (h : ValAt w g cs) : ∀ j, w.frozen? ⟨g, j, none⟩ = false := fun j => frozen_of_row w _ j _ _ h
theorem ValAt.put {w : World} {g : Nat} {cs : List Value} (h : ValAt w g cs) (hl : cs.length = 4) (v0 v1 v2 v3 : Value) : ValAt ((((w.setCell ⟨g, 0, none⟩ v0).setCell ⟨g, 1, none⟩ v1).setCell ⟨g, 2, none⟩ v2).setCell ⟨g, 3, none⟩ v3) g [v0, v1, v2, v3] := by
  match cs, hl with
  | [a, b, c, d], _ => exact setCell_row0 3 v3 (setCell_row0 2 v2 (setCell_row0 1 v1 (setCell_row0 0 v0 h)))
theorem ValAt.lt {w : World} {g : Nat} {cs : List Value} (h : ValAt w g cs) : g < w.heap.size := (Array.getElem?_eq_some_iff.1 h).1
theorem ValAt.keeps {X : Nat → Prop} {w w' : World} {g : Nat} {cs : List Value} (h : ValAt w g cs) (hk : Keeps X w w') (hX : ¬ X g) : ValAt w' g cs := (hk.block g h.lt hX).trans h
theorem results_vat (tmps : Array Value) (W : World) (g : Nat) (k m : Int) (t : List UInt8) (ao : Option Addr) (n cap : Nat) (z : Value) (hp : tmps[4]?.getD undef = .pointer (some ⟨g, 0, none⟩)) (hz : tmps[5]?.getD undef = z) (hc : PatAt W g k m t ao n cap) :
    (results Try.f17 tmps).run Try.prog W = .ok (.tuple #[patV k m t ao n cap, z]) W := by
  obtain ⟨c0, c1, c2, c3⟩ := hc
  have hu := Try.underlying34
  unfold patV
  simp only [results, Try.results17]
  go_simp
theorem results_rat (tmps : Array Value) (W : World) (g : Nat) (k m : Int) (t : List UInt8) (ao : Option Addr) (n cap : Nat) (z : Value) (hp : tmps[4]?.getD undef = .pointer (some ⟨g, 0, none⟩)) (hz : tmps[5]?.getD undef = z) (hc : PatAt W g k m t ao n cap) :
    (results Try.f11 tmps).run Try.prog W = .ok (.tuple #[patV k m t ao n cap, z]) W := by
  obtain ⟨c0, c1, c2, c3⟩ := hc
  have hu := Try.underlying34
  unfold patV
  simp only [results, Try.results11]
  go_simp
/-- A place's number, where it lies. -/
theorem PathIn.cell {w : World} {D : Nat → Prop} {po : Option Addr} {pcap : Nat} {path : List Nat} (h : PathIn w D (.slice po path.length pcap) path) (j : Nat) (hj : j < path.length) : ∃ b o, po = some ⟨b, o, none⟩ ∧ w.cell? ⟨b, o + j, none⟩ = some (.int .i64 (path[j] : Int)) := by
  obtain ⟨po', pcap', hv, _, _, hat, _⟩ := h
  cases hv
  obtain ⟨b, o, h1, h2⟩ := hat.exv j (by rw [natsV_length]; exact hj)
  exact ⟨b, o, h1, by rw [h2]; simp [natsV]⟩
/-- A value on its way down, in the block g of the world W. -/
def DownI (n : Nat) (D : Nat → Prop) (W : World) (g : Nat) (u : PV) (wr : World) : Prop := ∃ cs, ValAt wr g cs ∧ VIn wr D n cs u ∧ Keeps (fun b => b = g) W wr
set_option maxRecDepth 100000 in
set_option maxHeartbeats 4000000 in
theorem vat_any {n : Nat} {w : World} {D E : Nat → Prop} {cs : List Value} {x : PV} (hv : VIn w D n cs x) (hD : ∀ b, D b → b < w.heap.size) {po : Option Addr} {pcap : Nat} {path : List Nat} (hpl : path.length ≤ 1000000) (hp : PathIn w E (.slice po path.length pcap) path) :
    Calls Try.prog 17 #[.agg cs.toArray, .slice po path.length pcap] w (VAts n w D x path) := by
  obtain ⟨g, hg⟩ : ∃ g, w.heap.size = g := ⟨_, rfl⟩
  cases n with
  | zero => exact hv.elim
  | succ n =>
  obtain ⟨k, m, t, ks⟩ := x
  obtain ⟨ao, cap, hcv, hcs, _⟩ := hv.val
  subst hcs
  rw [hcv]
  unfold patV
  obtain ⟨W, hW⟩ : ∃ W, (w.alloc (.cells #[.int .i64 k, .int .i64 m, .string ⟨t.toArray⟩, .slice ao ks.length cap] 34)).alloc (.cells #[.int .i64 0, .int .i64 0, .string ⟨#[]⟩, .slice none 0 0] 34) = W := ⟨_, rfl⟩
  have hbW : Below g w W := by rw [← hW, ← hg]; exact ((Below.refl _ _).alloc (Nat.le_refl _) _).alloc (by simp) _
  have hsW : W.heap.size = g + 2 := by rw [← hW, ← hg]; simp
  have h1W : ValAt W g [.int .i64 k, .int .i64 m, .string ⟨t.toArray⟩, .slice ao ks.length cap] := by
    rw [← hW, ← hg]
    exact (Below.heap_alloc _ _ _ (by simp)).trans (heap_alloc_new w _)
  have h2W : ValAt W (g + 1) [.int .i64 0, .int .i64 0, .string ⟨#[]⟩, .slice none 0 0] := by
    rw [← hW, ← hg]
    have := heap_alloc_new (w.alloc (.cells #[.int .i64 k, .int .i64 m, .string ⟨t.toArray⟩, .slice ao ks.length cap] 34)) (.cells #[.int .i64 0, .int .i64 0, .string ⟨#[]⟩, .slice none 0 0] 34)
    simp only [World.size_alloc] at this
    exact this
  have H := Lib.hid (And.intro hbW (And.intro hsW (And.intro h1W (And.intro h2W (And.intro (hv.below (by rw [hg]; exact hbW)) (And.intro (hp.there.below (by rw [hg]; exact hbW)) (And.intro (show ∀ b, D b → b < g by rw [← hg]; exact hD) (And.intro hW hg))))))))
  clear hbW hsW h1W h2W hv hp hD hW hg hcv
  go_enter Try.func17, Try.ntmps17
  go_upto_block 0 with (fail)
  rw [H.out.2.2.2.2.2.2.2.1, H.out.2.2.2.2.2.2.2.2]
  go_wp2_with fail
  go_loopw [10] (fun v10 wr => ∃ (j : Nat) (u : PV), j ≤ path.length ∧ v10 = .int .i64 (j : Int) ∧ atV (.mk k m t ks) (path.take j) = some u ∧ DownI (n + 1) D W g u wr) (fun v10 _ => path.length - (intOf v10).toNat)
  case atStart => exact ⟨0, _, by omega, rfl, by simp [atV], _, H.out.2.2.1, H.out.2.2.2.2.1, Keeps.refl _ _⟩
  case round =>
    obtain ⟨j, u, hj, rfl, hat, cs, hva, hvi, hk⟩ := hrel
    obtain ⟨k2, m2, t2, ks2⟩ := u
    obtain ⟨ao2, cap2, hpe, hcs2, _, hcap2, hks2⟩ := hvi.val
    clear hpe
    subst hcs2
    obtain ⟨c0, c1, c2, c3⟩ := hva.pat
    have hf := hva.frozen
    have hsk := hk.size
    have hsW := H.out.2.1
    have h2r : ValAt wr (g + 1) _ := H.out.2.2.2.1.keeps hk (by omega)
    have HV := Lib.hid (And.intro hva (And.intro hvi (And.intro hk (And.intro hat h2r))))
    clear hva hvi hk h2r
    by_cases hlt : j < path.length
    · have hdj : decide ((j : Int) < (path.length : Int)) = true := decide_eq_true (by omega)
      obtain ⟨pb, pof, rfl, hpc⟩ := (H.out.2.2.2.2.2.1.keeps HV.out.2.2.1 (fun b hb h => by have := hb.2; have := H.out.2.2.2.2.2.2.2.2; omega)).cell j hlt
      obtain ⟨i, hi⟩ : ∃ i, path[j] = i := ⟨_, rfl⟩
      rw [hi] at hpc
      have hnx : atV (.mk k m t ks) (path.take (j + 1)) = ks2[i]? := by rw [List.take_succ_eq_append_getElem hlt, atV_snoc _ _ _ _ hat, hi]; rfl
      have hi0 : decide ((i : Int) < 0) = false := decide_eq_false (by omega)
      have HN := Lib.hid hnx
      clear hnx hi hat
      by_cases hil : i < ks2.length
      · have hdi : decide ((ks2.length : Int) ≤ (i : Int)) = false := decide_eq_false (by omega)
        cases n with
        | zero =>
          obtain ⟨_, _, _, _, hv, _⟩ := hks2.get i hil
          exact hv.elim
        | succ n =>
        obtain ⟨kb, ko, k3, m3, t3, kao3, ks3, kcap3, hkao, hx3, hv3, e0, e1, e2, e3, hlt3⟩ := hks2.cells i hil
        subst hkao
        have HX := Lib.hid (And.intro hx3 (hv3.deep (Nat.le_succ _)))
        have hil1 : (i : Int) < (ks2.length : Int) := by omega
        clear hx3 hv3 hks2
        go_wp2_with fail
        go_roundw
        case rel =>
          refine ⟨j + 1, .mk k3 m3 t3 ks3, by omega, by simp, by rw [HN.out, ← HX.out.1, List.getElem?_eq_getElem hil], _, HV.out.1.put rfl _ _ _ _, HX.out.2.keeps (keep4 (X := fun b => b = g) _ rfl _ _ _ _) (fun b hb h => by have := H.out.2.2.2.2.2.2.1 b hb; omega), HV.out.2.2.1.trans' (keep4 (X := fun b => b = g) _ rfl _ _ _ _)⟩
        case measure => simp [intOf]; omega
      · have hdi : decide ((ks2.length : Int) ≤ (i : Int)) = true := decide_eq_true (by omega)
        have HZ := Lib.hid (show atV (.mk k m t ks) path = none from atV_take_none (j := j + 1) (by rw [HN.out]; exact List.getElem?_eq_none (by omega)))
        obtain ⟨y0, y1, y2, y3⟩ := HV.out.2.2.2.2.pat
        have hf2 := HV.out.2.2.2.2.frozen
        go_wp2_with fail
        refine bodyPost_ret (v := .tuple #[patV 0 0 [] none 0 0, .bool false]) (results_vat _ _ (g + 1) 0 0 [] none 0 0 _ (by rfl) (by rfl) (HV.out.2.2.2.2.put rfl _ _ _ _).pat) rfl ⟨?_, .inr ⟨HZ.out, rfl⟩⟩
        rw [H.out.2.2.2.2.2.2.2.2]
        exact H.out.1.trans (Keeps.below (X := fun b => g ≤ b) ((HV.out.2.2.1.mono (fun b _ h => by omega)).trans' (keep4 (X := fun b => g ≤ b) _ (by omega) _ _ _ _)) (fun b hb h => by omega) (by omega))
    · obtain rfl : j = path.length := by omega
      have hdj : decide ((path.length : Int) < (path.length : Int)) = false := decide_eq_false (by omega)
      rw [List.take_of_length_le (Nat.le_refl _)] at hat
      obtain ⟨y0, y1, y2, y3⟩ := HV.out.2.2.2.2.pat
      have hf2 := HV.out.2.2.2.2.frozen
      have HZ := Lib.hid hat
      clear hat hks2
      go_wp2_with fail
      refine bodyPost_ret (v := .tuple #[patV k2 m2 t2 ao2 ks2.length cap2, .bool true]) (results_vat _ _ (g + 1) k2 m2 t2 ao2 ks2.length cap2 _ (by rfl) (by rfl) (HV.out.2.2.2.2.put rfl _ _ _ _).pat) rfl ⟨?_, .inl ⟨_, _, HZ.out, rfl, HV.out.2.1.keeps (keep4 (X := fun b => b = g + 1) _ rfl _ _ _ _) (fun b hb h => by have := H.out.2.2.2.2.2.2.1 b hb; omega)⟩⟩
      rw [H.out.2.2.2.2.2.2.2.2]
      exact H.out.1.trans (Keeps.below (X := fun b => g ≤ b) ((HV.out.2.2.1.mono (fun b _ h => by omega)).trans' (keep4 (X := fun b => g ≤ b) _ (by omega) _ _ _ _)) (fun b hb h => by omega) (by omega))
theorem seq_ldVs {o : Oper} {x : Operand} {a : Act} {w : World} (ho : o.op = .load 23 x) {ad : Addr} {v : Value} (hx : a.eval x = .pointer (some ad)) (hc : w.cell? ad = some v) :
    ∀ w', Below w.heap.size w w' → (execOp a.eval o).run Try.prog w' = .ok (.value v) w' := by
  intro w' hb
  have hc' : w'.cell? ad = some v := (World.cell?_of_block (hb.block ad.block (World.block_lt_of_cell? (a := ad) w hc))).trans hc
  have hu := Try.underlying23
  unfold execOp
  simp only [ho, hx]
  go_simp
theorem seq_ldVal {o : Oper} {x : Operand} {a : Act} {w : World} (ho : o.op = .load 34 x) {g f : Nat} {k m : Int} {t : List UInt8} {ao : Option Addr} {n cap : Nat} (hx : a.eval x = .pointer (some ⟨g, f, none⟩)) (hc : w.cell? ⟨g, f, none⟩ = some (.int .i64 k) ∧ w.cell? ⟨g, f + 1, none⟩ = some (.int .i64 m) ∧ w.cell? ⟨g, f + 2, none⟩ = some (.string ⟨t.toArray⟩) ∧ w.cell? ⟨g, f + 3, none⟩ = some (.slice ao n cap)) :
    ∀ w', Below w.heap.size w w' → (execOp a.eval o).run Try.prog w' = .ok (.value (patV k m t ao n cap)) w' := by
  intro w' hb
  obtain ⟨c0, c1, c2, c3⟩ := hc
  have hl : g < w.heap.size := World.block_lt_of_cell? (a := ⟨g, f, none⟩) w c0
  have d0 : w'.cell? ⟨g, f, none⟩ = _ := (World.cell?_of_block (a := ⟨g, f, none⟩) (hb.block g hl)).trans c0
  have d1 : w'.cell? ⟨g, f + 1, none⟩ = _ := (World.cell?_of_block (a := ⟨g, f + 1, none⟩) (hb.block g hl)).trans c1
  have d2 : w'.cell? ⟨g, f + 2, none⟩ = _ := (World.cell?_of_block (a := ⟨g, f + 2, none⟩) (hb.block g hl)).trans c2
  have d3 : w'.cell? ⟨g, f + 3, none⟩ = _ := (World.cell?_of_block (a := ⟨g, f + 3, none⟩) (hb.block g hl)).trans c3
  have hu := Try.underlying34
  unfold execOp patV
  simp only [ho, hx]
  go_simp
set_option maxRecDepth 100000 in
set_option maxHeartbeats 4000000 in
theorem rat_any {n : Nat} {w : World} {D E : Nat → Prop} {cs : List Value} {x : PV} (hv : VIn w D n cs x) (hD : ∀ b, D b → b < w.heap.size) {po : Option Addr} {pcap : Nat} {path : List Nat} (hpl : path.length ≤ 1000000) (hp : PathIn w E (.slice po path.length pcap) path) :
    Calls Try.prog 11 #[.agg cs.toArray, .slice po path.length pcap] w (VAts n w D x path) := by
  obtain ⟨g, hg⟩ : ∃ g, w.heap.size = g := ⟨_, rfl⟩
  cases n with
  | zero => exact hv.elim
  | succ n =>
  obtain ⟨k, m, t, ks⟩ := x
  obtain ⟨ao, cap, hcv, hcs, _⟩ := hv.val
  subst hcs
  rw [hcv]
  unfold patV
  obtain ⟨W, hW⟩ : ∃ W, (w.alloc (.cells #[.int .i64 k, .int .i64 m, .string ⟨t.toArray⟩, .slice ao ks.length cap] 34)).alloc (.cells #[.int .i64 0, .int .i64 0, .string ⟨#[]⟩, .slice none 0 0] 34) = W := ⟨_, rfl⟩
  have hbW : Below g w W := by rw [← hW, ← hg]; exact ((Below.refl _ _).alloc (Nat.le_refl _) _).alloc (by simp) _
  have hsW : W.heap.size = g + 2 := by rw [← hW, ← hg]; simp
  have h1W : ValAt W g [.int .i64 k, .int .i64 m, .string ⟨t.toArray⟩, .slice ao ks.length cap] := by
    rw [← hW, ← hg]
    exact (Below.heap_alloc _ _ _ (by simp)).trans (heap_alloc_new w _)
  have h2W : ValAt W (g + 1) [.int .i64 0, .int .i64 0, .string ⟨#[]⟩, .slice none 0 0] := by
    rw [← hW, ← hg]
    have := heap_alloc_new (w.alloc (.cells #[.int .i64 k, .int .i64 m, .string ⟨t.toArray⟩, .slice ao ks.length cap] 34)) (.cells #[.int .i64 0, .int .i64 0, .string ⟨#[]⟩, .slice none 0 0] 34)
    simp only [World.size_alloc] at this
    exact this
  have H := Lib.hid (And.intro hbW (And.intro hsW (And.intro h1W (And.intro h2W (And.intro (hv.below (by rw [hg]; exact hbW)) (And.intro (hp.there.below (by rw [hg]; exact hbW)) (And.intro (show ∀ b, D b → b < g by rw [← hg]; exact hD) (And.intro hW hg))))))))
  clear hbW hsW h1W h2W hv hp hD hW hg hcv
  go_enter Try.func11, Try.ntmps11
  go_upto_block 0 with (fail)
  rw [H.out.2.2.2.2.2.2.2.1, H.out.2.2.2.2.2.2.2.2]
  go_wp2_with fail
  go_loopw [6] (fun v10 wr => ∃ (j : Nat) (u : PV), j ≤ path.length ∧ v10 = .int .i64 (j : Int) ∧ atV (.mk k m t ks) (path.take j) = some u ∧ DownI (n + 1) D W g u wr) (fun v10 _ => path.length - (intOf v10).toNat)
  case atStart => exact ⟨0, _, by omega, rfl, by simp [atV], _, H.out.2.2.1, H.out.2.2.2.2.1, Keeps.refl _ _⟩
  case round =>
    obtain ⟨j, u, hj, rfl, hat, cs, hva, hvi, hk⟩ := hrel
    obtain ⟨k2, m2, t2, ks2⟩ := u
    obtain ⟨ao2, cap2, hpe, hcs2, _, hcap2, hks2⟩ := hvi.val
    clear hpe
    subst hcs2
    obtain ⟨c0, c1, c2, c3⟩ := hva.pat
    have hf := hva.frozen
    have hsk := hk.size
    have hsW := H.out.2.1
    have h2r : ValAt wr (g + 1) _ := H.out.2.2.2.1.keeps hk (by omega)
    have HV := Lib.hid (And.intro hva (And.intro hvi (And.intro hk (And.intro hat h2r))))
    clear hva hvi hk h2r
    by_cases hlt : j < path.length
    · have hdj : decide ((j : Int) < (path.length : Int)) = true := decide_eq_true (by omega)
      obtain ⟨pb, pof, rfl, hpc⟩ := (H.out.2.2.2.2.2.1.keeps HV.out.2.2.1 (fun b hb h => by have := hb.2; have := H.out.2.2.2.2.2.2.2.2; omega)).cell j hlt
      obtain ⟨i, hi⟩ : ∃ i, path[j] = i := ⟨_, rfl⟩
      rw [hi] at hpc
      have hnx : atV (.mk k m t ks) (path.take (j + 1)) = ks2[i]? := by rw [List.take_succ_eq_append_getElem hlt, atV_snoc _ _ _ _ hat, hi]; rfl
      have hi0 : decide ((i : Int) < 0) = false := decide_eq_false (by omega)
      have HN := Lib.hid hnx
      clear hnx hi hat
      have hjp : (j : Int) < (path.length : Int) := by omega
      by_cases hil : i < ks2.length
      · have hdi : decide ((ks2.length : Int) ≤ (i : Int)) = false := decide_eq_false (by omega)
        cases n with
        | zero =>
          obtain ⟨_, _, _, _, hv, _⟩ := hks2.get i hil
          exact hv.elim
        | succ n =>
        obtain ⟨kb, ko, k3, m3, t3, kao3, ks3, kcap3, hkao, hx3, hv3, e0, e1, e2, e3, hlt3⟩ := hks2.cells i hil
        subst hkao
        have HX := Lib.hid (And.intro hx3 (hv3.deep (Nat.le_succ _)))
        have hil1 : (i : Int) < (ks2.length : Int) := by omega
        have HE4 := Lib.hid (And.intro e0 (And.intro e1 (And.intro e2 e3)))
        clear hx3 hv3 hks2
        go_wp2_with fail
        refine seq_start (by kernel_rfl) ?_
        refine seq_take 0 (v := ?_) rfl (by kernel_rfl) (fun _ _ _ h => h) (by rfl) (fun w' hw' => ?_) ?_
        rotate_left
        · go_simp; try with_reducible rfl
        try simp only [List.getElem_toArray, List.getElem_cons_succ, List.getElem_cons_zero, Act.put, List.setIfInBounds_toArray, List.set_cons_zero, List.set_cons_succ]
        refine seq_take 1 (v := ?_) rfl (by kernel_rfl) (fun _ _ _ h => h) (by rfl) (fun w' hw' => ?_) ?_
        rotate_left
        · go_simp; try with_reducible rfl
        try simp only [List.getElem_toArray, List.getElem_cons_succ, List.getElem_cons_zero, Act.put, List.setIfInBounds_toArray, List.set_cons_zero, List.set_cons_succ]
        refine seq_take 2 (v := ?_) rfl (by kernel_rfl) (fun _ _ _ h => h) (by rfl) (fun w' hw' => ?_) ?_
        rotate_left
        · go_simp; try with_reducible rfl
        try simp only [List.getElem_toArray, List.getElem_cons_succ, List.getElem_cons_zero, Act.put, List.setIfInBounds_toArray, List.set_cons_zero, List.set_cons_succ]
        refine seq_take 3 rfl (by kernel_rfl) (fun _ _ _ h => h) (by rfl) (seq_ldi rfl rfl (hpc)) ?_
        try simp only [List.getElem_toArray, List.getElem_cons_succ, List.getElem_cons_zero, Act.put, List.setIfInBounds_toArray, List.set_cons_zero, List.set_cons_succ]
        refine seq_take 4 (v := ?_) rfl (by kernel_rfl) (fun _ _ _ h => h) (by rfl) (fun w' hw' => ?_) ?_
        rotate_left
        · go_simp; try with_reducible rfl
        try simp only [List.getElem_toArray, List.getElem_cons_succ, List.getElem_cons_zero, Act.put, List.setIfInBounds_toArray, List.set_cons_zero, List.set_cons_succ]
        refine seq_take 5 (v := ?_) rfl (by kernel_rfl) (fun _ _ _ h => h) (by rfl) (fun w' hw' => ?_) ?_
        rotate_left
        · go_simp; try with_reducible rfl
        try simp only [List.getElem_toArray, List.getElem_cons_succ, List.getElem_cons_zero, Act.put, List.setIfInBounds_toArray, List.set_cons_zero, List.set_cons_succ]
        refine seq_take 6 (v := ?_) rfl (by kernel_rfl) (fun _ _ _ h => h) (by rfl) (fun w' hw' => ?_) ?_
        rotate_left
        · go_simp; try with_reducible rfl
        try simp only [List.getElem_toArray, List.getElem_cons_succ, List.getElem_cons_zero, Act.put, List.setIfInBounds_toArray, List.set_cons_zero, List.set_cons_succ]
        refine seq_take 7 (v := ?_) rfl (by kernel_rfl) (fun _ _ _ h => h) (by rfl) (fun w' hw' => ?_) ?_
        rotate_left
        · go_simp; try with_reducible rfl
        try simp only [List.getElem_toArray, List.getElem_cons_succ, List.getElem_cons_zero, Act.put, List.setIfInBounds_toArray, List.set_cons_zero, List.set_cons_succ]
        refine seq_take 8 (v := ?_) rfl (by kernel_rfl) (fun _ _ _ h => h) (by rfl) (fun w' hw' => ?_) ?_
        rotate_left
        · go_simp; try with_reducible rfl
        try simp only [List.getElem_toArray, List.getElem_cons_succ, List.getElem_cons_zero, Act.put, List.setIfInBounds_toArray, List.set_cons_zero, List.set_cons_succ]
        refine seq_take 9 rfl (by kernel_rfl) (fun _ _ _ h => h) (by rfl) (seq_ldi rfl rfl (hpc)) ?_
        try simp only [List.getElem_toArray, List.getElem_cons_succ, List.getElem_cons_zero, Act.put, List.setIfInBounds_toArray, List.set_cons_zero, List.set_cons_succ]
        refine seq_take 10 (v := ?_) rfl (by kernel_rfl) (fun _ _ _ h => h) (by rfl) (fun w' hw' => ?_) ?_
        rotate_left
        · go_simp; try with_reducible rfl
        try simp only [List.getElem_toArray, List.getElem_cons_succ, List.getElem_cons_zero, Act.put, List.setIfInBounds_toArray, List.set_cons_zero, List.set_cons_succ]
        refine seq_take 11 rfl (by kernel_rfl) (fun _ _ _ h => h) (by rfl) (seq_ldVs rfl rfl (c3)) ?_
        try simp only [List.getElem_toArray, List.getElem_cons_succ, List.getElem_cons_zero, Act.put, List.setIfInBounds_toArray, List.set_cons_zero, List.set_cons_succ]
        refine seq_take 12 (v := ?_) rfl (by kernel_rfl) (fun _ _ _ h => h) (by rfl) (fun w' hw' => ?_) ?_
        rotate_left
        · go_simp; try with_reducible rfl
        try simp only [List.getElem_toArray, List.getElem_cons_succ, List.getElem_cons_zero, Act.put, List.setIfInBounds_toArray, List.set_cons_zero, List.set_cons_succ]
        refine seq_take 13 (v := ?_) rfl (by kernel_rfl) (fun _ _ _ h => h) (by rfl) (fun w' hw' => ?_) ?_
        rotate_left
        · go_simp; try with_reducible rfl
        try simp only [List.getElem_toArray, List.getElem_cons_succ, List.getElem_cons_zero, Act.put, List.setIfInBounds_toArray, List.set_cons_zero, List.set_cons_succ]
        refine seq_take 14 (v := ?_) rfl (by kernel_rfl) (fun _ _ _ h => h) (by rfl) (fun w' hw' => ?_) ?_
        rotate_left
        · go_simp; try with_reducible rfl
        try simp only [List.getElem_toArray, List.getElem_cons_succ, List.getElem_cons_zero, Act.put, List.setIfInBounds_toArray, List.set_cons_zero, List.set_cons_succ]
        refine seq_done (by kernel_rfl) ?_
        go_wp2_with fail
        refine seql_start [8] (by kernel_rfl) ?_
        refine seql_take 0 (v := ?_) rfl (by kernel_rfl) (fun _ _ _ h => h) (by rfl) (fun w' hw' => ?_) ?_
        rotate_left
        · go_simp; try with_reducible rfl
        try simp only [List.getElem_toArray, List.getElem_cons_succ, List.getElem_cons_zero, Act.put, List.setIfInBounds_toArray, List.set_cons_zero, List.set_cons_succ]
        refine seql_take 1 rfl (by kernel_rfl) (fun _ _ _ h => h) (by rfl) (seq_ldVs rfl rfl (c3)) ?_
        try simp only [List.getElem_toArray, List.getElem_cons_succ, List.getElem_cons_zero, Act.put, List.setIfInBounds_toArray, List.set_cons_zero, List.set_cons_succ]
        refine seql_take 2 (v := ?_) rfl (by kernel_rfl) (fun _ _ _ h => h) (by rfl) (fun w' hw' => ?_) ?_
        rotate_left
        · go_simp; try with_reducible rfl
        try simp only [List.getElem_toArray, List.getElem_cons_succ, List.getElem_cons_zero, Act.put, List.setIfInBounds_toArray, List.set_cons_zero, List.set_cons_succ]
        refine seql_take 3 (v := ?_) rfl (by kernel_rfl) (fun _ _ _ h => h) (by rfl) (fun w' hw' => ?_) ?_
        rotate_left
        · go_simp; try with_reducible rfl
        try simp only [List.getElem_toArray, List.getElem_cons_succ, List.getElem_cons_zero, Act.put, List.setIfInBounds_toArray, List.set_cons_zero, List.set_cons_succ]
        refine seql_take 4 (v := ?_) rfl (by kernel_rfl) (fun _ _ _ h => h) (by rfl) (fun w' hw' => ?_) ?_
        rotate_left
        · go_simp; try with_reducible rfl
        try simp only [List.getElem_toArray, List.getElem_cons_succ, List.getElem_cons_zero, Act.put, List.setIfInBounds_toArray, List.set_cons_zero, List.set_cons_succ]
        refine seql_take 5 rfl (by kernel_rfl) (fun _ _ _ h => h) (by rfl) (seq_ldi rfl rfl (hpc)) ?_
        try simp only [List.getElem_toArray, List.getElem_cons_succ, List.getElem_cons_zero, Act.put, List.setIfInBounds_toArray, List.set_cons_zero, List.set_cons_succ]
        refine seql_take 6 (v := ?_) rfl (by kernel_rfl) (fun _ _ _ h => h) (by rfl) (fun w' hw' => ?_) ?_
        rotate_left
        · go_simp; try with_reducible rfl
        try simp only [List.getElem_toArray, List.getElem_cons_succ, List.getElem_cons_zero, Act.put, List.setIfInBounds_toArray, List.set_cons_zero, List.set_cons_succ]
        refine seql_take 7 rfl (by kernel_rfl) (fun _ _ _ h => h) (by rfl) (seq_ldVal rfl rfl (HE4.out)) ?_
        try simp only [List.getElem_toArray, List.getElem_cons_succ, List.getElem_cons_zero, Act.put, List.setIfInBounds_toArray, List.set_cons_zero, List.set_cons_succ]
        unfold patV
        refine seql_last 8 rfl (by kernel_rfl) (by kernel_rfl) (by rfl) (fun KK hKK => ?_)
        go_wp2_with fail
        refine seql_done (by kernel_rfl) ?_
        go_wp2_with fail
        go_roundw
        case rel =>
          refine ⟨j + 1, .mk k3 m3 t3 ks3, by omega, by simp, by rw [HN.out, ← HX.out.1, List.getElem?_eq_getElem hil], _, HV.out.1.put rfl _ _ _ _, HX.out.2.keeps (((keep4 (X := fun b => b = g) wr rfl _ _ _ _).trans' (Keeps.drew _ _)).trans' (Keeps.drew _ _)) (fun b hb h => by have := H.out.2.2.2.2.2.2.1 b hb; omega), HV.out.2.2.1.trans' (((keep4 (X := fun b => b = g) wr rfl _ _ _ _).trans' (Keeps.drew _ _)).trans' (Keeps.drew _ _))⟩
        case measure => simp [intOf]; omega
      · have hdi : decide ((ks2.length : Int) ≤ (i : Int)) = true := decide_eq_true (by omega)
        have HZ := Lib.hid (show atV (.mk k m t ks) path = none from atV_take_none (j := j + 1) (by rw [HN.out]; exact List.getElem?_eq_none (by omega)))
        obtain ⟨y0, y1, y2, y3⟩ := HV.out.2.2.2.2.pat
        have hf2 := HV.out.2.2.2.2.frozen
        go_wp2_with fail
        refine seq_start (by kernel_rfl) ?_
        refine seq_take 0 (v := ?_) rfl (by kernel_rfl) (fun _ _ _ h => h) (by rfl) (fun w' hw' => ?_) ?_
        rotate_left
        · go_simp; try with_reducible rfl
        try simp only [List.getElem_toArray, List.getElem_cons_succ, List.getElem_cons_zero, Act.put, List.setIfInBounds_toArray, List.set_cons_zero, List.set_cons_succ]
        refine seq_take 1 (v := ?_) rfl (by kernel_rfl) (fun _ _ _ h => h) (by rfl) (fun w' hw' => ?_) ?_
        rotate_left
        · go_simp; try with_reducible rfl
        try simp only [List.getElem_toArray, List.getElem_cons_succ, List.getElem_cons_zero, Act.put, List.setIfInBounds_toArray, List.set_cons_zero, List.set_cons_succ]
        refine seq_take 2 (v := ?_) rfl (by kernel_rfl) (fun _ _ _ h => h) (by rfl) (fun w' hw' => ?_) ?_
        rotate_left
        · go_simp; try with_reducible rfl
        try simp only [List.getElem_toArray, List.getElem_cons_succ, List.getElem_cons_zero, Act.put, List.setIfInBounds_toArray, List.set_cons_zero, List.set_cons_succ]
        refine seq_take 3 rfl (by kernel_rfl) (fun _ _ _ h => h) (by rfl) (seq_ldi rfl rfl (hpc)) ?_
        try simp only [List.getElem_toArray, List.getElem_cons_succ, List.getElem_cons_zero, Act.put, List.setIfInBounds_toArray, List.set_cons_zero, List.set_cons_succ]
        refine seq_take 4 (v := ?_) rfl (by kernel_rfl) (fun _ _ _ h => h) (by rfl) (fun w' hw' => ?_) ?_
        rotate_left
        · go_simp; try with_reducible rfl
        try simp only [List.getElem_toArray, List.getElem_cons_succ, List.getElem_cons_zero, Act.put, List.setIfInBounds_toArray, List.set_cons_zero, List.set_cons_succ]
        refine seq_take 5 (v := ?_) rfl (by kernel_rfl) (fun _ _ _ h => h) (by rfl) (fun w' hw' => ?_) ?_
        rotate_left
        · go_simp; try with_reducible rfl
        try simp only [List.getElem_toArray, List.getElem_cons_succ, List.getElem_cons_zero, Act.put, List.setIfInBounds_toArray, List.set_cons_zero, List.set_cons_succ]
        refine seq_take 6 (v := ?_) rfl (by kernel_rfl) (fun _ _ _ h => h) (by rfl) (fun w' hw' => ?_) ?_
        rotate_left
        · go_simp; try with_reducible rfl
        try simp only [List.getElem_toArray, List.getElem_cons_succ, List.getElem_cons_zero, Act.put, List.setIfInBounds_toArray, List.set_cons_zero, List.set_cons_succ]
        refine seq_take 7 (v := ?_) rfl (by kernel_rfl) (fun _ _ _ h => h) (by rfl) (fun w' hw' => ?_) ?_
        rotate_left
        · go_simp; try with_reducible rfl
        try simp only [List.getElem_toArray, List.getElem_cons_succ, List.getElem_cons_zero, Act.put, List.setIfInBounds_toArray, List.set_cons_zero, List.set_cons_succ]
        refine seq_take 8 (v := ?_) rfl (by kernel_rfl) (fun _ _ _ h => h) (by rfl) (fun w' hw' => ?_) ?_
        rotate_left
        · go_simp; try with_reducible rfl
        try simp only [List.getElem_toArray, List.getElem_cons_succ, List.getElem_cons_zero, Act.put, List.setIfInBounds_toArray, List.set_cons_zero, List.set_cons_succ]
        refine seq_take 9 rfl (by kernel_rfl) (fun _ _ _ h => h) (by rfl) (seq_ldi rfl rfl (hpc)) ?_
        try simp only [List.getElem_toArray, List.getElem_cons_succ, List.getElem_cons_zero, Act.put, List.setIfInBounds_toArray, List.set_cons_zero, List.set_cons_succ]
        refine seq_take 10 (v := ?_) rfl (by kernel_rfl) (fun _ _ _ h => h) (by rfl) (fun w' hw' => ?_) ?_
        rotate_left
        · go_simp; try with_reducible rfl
        try simp only [List.getElem_toArray, List.getElem_cons_succ, List.getElem_cons_zero, Act.put, List.setIfInBounds_toArray, List.set_cons_zero, List.set_cons_succ]
        refine seq_take 11 rfl (by kernel_rfl) (fun _ _ _ h => h) (by rfl) (seq_ldVs rfl rfl (c3)) ?_
        try simp only [List.getElem_toArray, List.getElem_cons_succ, List.getElem_cons_zero, Act.put, List.setIfInBounds_toArray, List.set_cons_zero, List.set_cons_succ]
        refine seq_take 12 (v := ?_) rfl (by kernel_rfl) (fun _ _ _ h => h) (by rfl) (fun w' hw' => ?_) ?_
        rotate_left
        · go_simp; try with_reducible rfl
        try simp only [List.getElem_toArray, List.getElem_cons_succ, List.getElem_cons_zero, Act.put, List.setIfInBounds_toArray, List.set_cons_zero, List.set_cons_succ]
        refine seq_take 13 (v := ?_) rfl (by kernel_rfl) (fun _ _ _ h => h) (by rfl) (fun w' hw' => ?_) ?_
        rotate_left
        · go_simp; try with_reducible rfl
        try simp only [List.getElem_toArray, List.getElem_cons_succ, List.getElem_cons_zero, Act.put, List.setIfInBounds_toArray, List.set_cons_zero, List.set_cons_succ]
        refine seq_take 14 (v := ?_) rfl (by kernel_rfl) (fun _ _ _ h => h) (by rfl) (fun w' hw' => ?_) ?_
        rotate_left
        · go_simp; try with_reducible rfl
        try simp only [List.getElem_toArray, List.getElem_cons_succ, List.getElem_cons_zero, Act.put, List.setIfInBounds_toArray, List.set_cons_zero, List.set_cons_succ]
        refine seq_done (by kernel_rfl) ?_
        go_wp2_with fail
        refine bodyPost_ret (v := .tuple #[patV 0 0 [] none 0 0, .bool false]) (results_rat _ _ (g + 1) 0 0 [] none 0 0 _ (by rfl) (by rfl) (ValAt.put (w := wr.drew) HV.out.2.2.2.2 rfl _ _ _ _).pat) rfl ⟨?_, .inr ⟨HZ.out, rfl⟩⟩
        rw [H.out.2.2.2.2.2.2.2.2]
        exact H.out.1.trans (Keeps.below (X := fun b => g ≤ b) (((HV.out.2.2.1.mono (fun b _ h => by omega)).trans' (Keeps.drew _ _)).trans' (keep4 (X := fun b => g ≤ b) _ (by omega) _ _ _ _)) (fun b hb h => by omega) (by omega))
    · obtain rfl : j = path.length := by omega
      have hdj : decide ((path.length : Int) < (path.length : Int)) = false := decide_eq_false (by omega)
      rw [List.take_of_length_le (Nat.le_refl _)] at hat
      obtain ⟨y0, y1, y2, y3⟩ := HV.out.2.2.2.2.pat
      have hf2 := HV.out.2.2.2.2.frozen
      have HZ := Lib.hid hat
      clear hat hks2
      go_wp2_with fail
      refine bodyPost_ret (v := .tuple #[patV k2 m2 t2 ao2 ks2.length cap2, .bool true]) (results_rat _ _ (g + 1) k2 m2 t2 ao2 ks2.length cap2 _ (by rfl) (by rfl) (HV.out.2.2.2.2.put rfl _ _ _ _).pat) rfl ⟨?_, .inl ⟨_, _, HZ.out, rfl, HV.out.2.1.keeps (keep4 (X := fun b => b = g + 1) _ rfl _ _ _ _) (fun b hb h => by have := H.out.2.2.2.2.2.2.1 b hb; omega)⟩⟩
      rw [H.out.2.2.2.2.2.2.2.2]
      exact H.out.1.trans (Keeps.below (X := fun b => g ≤ b) ((HV.out.2.2.1.mono (fun b _ h => by omega)).trans' (keep4 (X := fun b => g ≤ b) _ (by omega) _ _ _ _)) (fun b hb h => by omega) (by omega))
end Go.Proofs.Ytnhdefaagicejaa
