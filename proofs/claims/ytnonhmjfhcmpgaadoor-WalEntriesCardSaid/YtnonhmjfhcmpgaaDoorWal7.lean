/- A log and its disk together: what calls leave of both; the walks of Truncate and Format. -/
import Derived.Test.YtnonhmjfhcmpgaaDoorWal6
namespace Go.Proofs.YtnonhmjfhcmpgaaDoor
open Go.RowKit

theorem Upd.comp {B : Nat} {w w1 w2 : World} {M I M' I' : Nat → Prop} {d : Nat} {s2 : DS} (k2 : Keeps M w w1) (k3 : ∀ b, M' b → M b ∨ w.heap.size ≤ b) (k4 : ∀ b, I' b → I b ∨ w.heap.size ≤ b) (u : Upd B w1 M' I' d s2 w2) : Upd B w M I d s2 w2 := by
  obtain ⟨M2, I2, h, K2, m2, i2⟩ := u
  have hs := k2.size
  refine ⟨M2, I2, h, k2.trans K2 (fun i hi hm => (k3 i hm).resolve_right (by omega)), fun b hb => ?_, fun b hb => ?_⟩
  · rcases m2 b hb with h | h
    · exact k3 b h
    · exact .inr (by omega)
  · rcases i2 b hb with h | h
    · exact k4 b h
    · exact .inr (by omega)

/-- A log and its disk, behind a call. -/
def SysUpd (B : Nat) (w : World) (M I : Nat → Prop) (d g : Nat) (s' : DS) (l' : LS) (w' : World) : Prop :=
  ∃ M' I', DiskAt B w' M' I' d s' ∧ LogAt w' g d l' ∧ ¬ M' g ∧ ¬ I' g ∧ Keeps (fun i => M i ∨ i = g) w w' ∧ (∀ b, M' b → M b ∨ w.heap.size ≤ b) ∧ (∀ b, I' b → I b ∨ w.heap.size ≤ b)
theorem SysUpd.of_upd {B : Nat} {w w' : World} {M I : Nat → Prop} {d g : Nat} {s' : DS} {l : LS} (hl : LogAt w g d l) (hM : ¬ M g) (hI : ¬ I g) (u : Upd B w M I d s' w') : SysUpd B w M I d g s' l w' := by
  obtain ⟨M', I', h, K, m, i⟩ := u
  have hlt := hl.lt
  refine ⟨M', I', h, hl.keeps K hM, fun h => ?_, fun h => ?_, K.mono fun _ _ h => .inl h, m, i⟩
  · rcases m g h with h | h
    · exact hM h
    · omega
  · rcases i g h with h | h
    · exact hI h
    · omega
theorem SysUpd.comp {B : Nat} {w w1 w2 : World} {M I M' I' : Nat → Prop} {d g : Nat} {s2 : DS} {l2 : LS} (k2 : Keeps (fun i => M i ∨ i = g) w w1) (k3 : ∀ b, M' b → M b ∨ w.heap.size ≤ b) (k4 : ∀ b, I' b → I b ∨ w.heap.size ≤ b) (u : SysUpd B w1 M' I' d g s2 l2 w2) : SysUpd B w M I d g s2 l2 w2 := by
  obtain ⟨M2, I2, h, hl, hM, hI, K2, m2, i2⟩ := u
  have hs := k2.size
  refine ⟨M2, I2, h, hl, hM, hI, k2.trans K2 (fun i hi hm => ?_), fun b hb => ?_, fun b hb => ?_⟩
  · rcases hm with h | h
    · exact .inl ((k3 i h).resolve_right (by omega))
    · exact .inr h
  · rcases m2 b hb with h | h
    · exact k3 b h
    · exact .inr (by omega)
  · rcases i2 b hb with h | h
    · exact k4 b h
    · exact .inr (by omega)
/-- Behind it only the log's own object was written. -/
theorem SysUpd.then_log {B : Nat} {w w1 w2 : World} {M I : Nat → Prop} {d g : Nat} {s' : DS} {l l2 : LS} (u : SysUpd B w M I d g s' l w1) (K : Keeps (fun i => i = g) w1 w2) (hl : LogAt w1 g d l → LogAt w2 g d l2) : SysUpd B w M I d g s' l2 w2 := by
  obtain ⟨M', I', h, h1, hM, hI, K1, m, i⟩ := u
  exact ⟨M', I', h.keeps K (fun b hb e => hM (by rw [← e]; exact hb)) (fun b hb e => hI (by rw [← e]; exact hb)), hl h1, hM, hI, K1.trans K (fun i _ h => .inr h), m, i⟩
theorem Tab.keepsW {B : Nat} {X : Nat → Prop} {w w' : World} (h : Tab w) (hk : Keeps X w w') (hX : ¬ X 0) : Tab w' := fun i hi => keeps_cell hk hX (h i hi)

theorem slotZ_any (n : Nat) (z : Int) (hz : z = n) (hn : n ≤ 1000000000) (w : World) : Calls Tryd.prog 44 #[.int .i64 z] w (fun e w' => e = .returned (.int .i64 ((1 - n % 2 : Nat) : Int)) ∧ w = w') := by
  subst hz
  exact slot_any n hn w
theorem headZ_any (a : Nat) (z : Int) (hz : z = a) (ha : a ≤ 4611686018427387904) (w : World) (ht : Tab w) : Calls Tryd.prog 33 #[.int .i64 z] w (NewBytes w (headL a)) := by
  subst hz
  exact head_any a ha w ht
theorem wwriteZ_any {B : Nat} {M I : Nat → Prop} {d : Nat} {s : DS} (w : World) (h : DiskAt B w M I d s) (hst : s.steps ≤ 1000000000) (hWl : s.W.length ≤ 1000000000) (f cnt n : Nat) (z : Int) (hz : z = n) (hf : f ≤ 1000000000) (hn : n ≤ 1000000000) (bo : Option Addr) (k cap : Nat) (l : List UInt8) (hk : k = l.length) (hl : l.length ≤ 512) (hat : At w bo (bytesV l)) (hB : B ≤ w.heap.size) :
    Calls Tryd.prog 31 #[placeV d f cnt, .int .i64 z, .slice bo k cap] w (fun e w' => e = .returned (.int .i64 ((s.write ((f + n : Nat) : Int) (padZ l)).1 : Int)) ∧ Upd B w M I d (s.write ((f + n : Nat) : Int) (padZ l)).2 w' ∧ CellKept d w w') := by
  subst hz
  exact wwrite_any w h hst hWl f cnt n hf hn bo k cap l hk hl hat hB

def truncL (l : LS) (e : Nat) : LS := if e = 0 then { l with age := l.age + 1, next := 0, at_ := 2 } else l
theorem write_steps (s : DS) (n : Int) (b : List UInt8) : (s.write n b).2.steps ≤ s.steps + 1 ∧ (s.write n b).2.W.length ≤ s.W.length + 1 := by
  unfold DS.write
  split
  · exact ⟨by simp only; omega, by simp only; omega⟩
  · split
    · exact ⟨by simp only; omega, by simp only; omega⟩
    · split
      · rename_i h; simp only [DS.spend, if_pos h]; omega
      · rename_i h; simp only [DS.spend, if_neg h, List.length_append, List.length_cons, List.length_nil]; omega

set_option maxRecDepth 100000 in
set_option maxHeartbeats 2000000 in
theorem truncate_any {B : Nat} {M I : Nat → Prop} {d g : Nat} {s : DS} {l : LS} (w : World) (h : DiskAt B w M I d s) (hl : LogAt w g d l) (hM : ¬ M g) (hI : ¬ I g) (hst : s.steps ≤ 900000000) (hWl : s.W.length ≤ 900000000) (hf : l.f ≤ 1000000) (hage : l.age ≤ 900000000) (ht : Tab w) (hB0 : 0 < B) (hB : B ≤ w.heap.size) :
    Calls Tryd.prog 15 #[.pointer (some ⟨g, 0, none⟩)] w (fun e w' => e = .returned (.int .i64 ((truncP l.f s l.age).1 : Int)) ∧ SysUpd B w M I d g (truncP l.f s l.age).2 (truncL l (truncP l.f s l.age).1) w') := by
  have H := Lib.hid (And.intro h (And.intro hl (And.intro hM (And.intro hI ht))))
  obtain ⟨_, _, _, c3, _, _⟩ := hl.cells
  have HC := Lib.hid c3
  have hs1 : IntKind.i64.wrap ((l.age : Int) + 1) = (l.age : Int) + 1 := by rw [IntKind.wrap_i64]; omega
  have HTP := Lib.hid (show truncP l.f s l.age = (if (s.write ((l.f + (1 - (l.age + 1) % 2) : Nat) : Int) (secH (l.age + 1))).1 ≠ 0 then s.write ((l.f + (1 - (l.age + 1) % 2) : Nat) : Int) (secH (l.age + 1)) else (s.write ((l.f + (1 - (l.age + 1) % 2) : Nat) : Int) (secH (l.age + 1))).2.barrier) from rfl)
  generalize truncP l.f s l.age = R at *
  have HWS := Lib.hid (write_steps s ((l.f + (1 - (l.age + 1) % 2) : Nat) : Int) (secH (l.age + 1)))
  clear h hl hM hI ht c3
  go_enter Tryd.func15, Tryd.ntmps15
  go_wp2_with fail
  refine seql_start [16, 17] (by kernel_rfl) ?_
  refine seql_take 0 (v := ?_) rfl (by kernel_rfl) (fun _ _ _ h => h) (by rfl) (fun w' hw' => ?_) ?_
  rotate_left
  · go_simp; try with_reducible rfl
  try simp only [List.getElem_toArray, List.getElem_cons_succ, List.getElem_cons_zero, Act.put, List.setIfInBounds_toArray, List.set_cons_zero, List.set_cons_succ]
  refine seql_take 1 (v := ?_) rfl (by kernel_rfl) (fun _ _ _ h => h) (by rfl) (fun w' hw' => ?_) ?_
  rotate_left
  · go_simp; try with_reducible rfl
  try simp only [List.getElem_toArray, List.getElem_cons_succ, List.getElem_cons_zero, Act.put, List.setIfInBounds_toArray, List.set_cons_zero, List.set_cons_succ]
  refine seql_take 2 (v := ?_) rfl (by kernel_rfl) (fun _ _ _ h => h) (by rfl) (fun w' hw' => ?_) ?_
  rotate_left
  · go_simp; try with_reducible rfl
  try simp only [List.getElem_toArray, List.getElem_cons_succ, List.getElem_cons_zero, Act.put, List.setIfInBounds_toArray, List.set_cons_zero, List.set_cons_succ]
  refine seql_take 3 rfl (by kernel_rfl) (fun _ _ _ h => h) (by rfl) (seq_ldp rfl rfl (H.out.2.1.drew)) ?_
  try simp only [List.getElem_toArray, List.getElem_cons_succ, List.getElem_cons_zero, Act.put, List.setIfInBounds_toArray, List.set_cons_zero, List.set_cons_succ]
  refine seql_take 4 (v := ?_) rfl (by kernel_rfl) (fun _ _ _ h => h) (by rfl) (fun w' hw' => ?_) ?_
  rotate_left
  · go_simp; try with_reducible rfl
  try simp only [List.getElem_toArray, List.getElem_cons_succ, List.getElem_cons_zero, Act.put, List.setIfInBounds_toArray, List.set_cons_zero, List.set_cons_succ]
  refine seql_take 5 (v := ?_) rfl (by kernel_rfl) (fun _ _ _ h => h) (by rfl) (fun w' hw' => ?_) ?_
  rotate_left
  · go_simp; try with_reducible rfl
  try simp only [List.getElem_toArray, List.getElem_cons_succ, List.getElem_cons_zero, Act.put, List.setIfInBounds_toArray, List.set_cons_zero, List.set_cons_succ]
  refine seql_take 6 (v := ?_) rfl (by kernel_rfl) (fun _ _ _ h => h) (by rfl) (fun w' hw' => ?_) ?_
  rotate_left
  · go_simp; try with_reducible rfl
  try simp only [List.getElem_toArray, List.getElem_cons_succ, List.getElem_cons_zero, Act.put, List.setIfInBounds_toArray, List.set_cons_zero, List.set_cons_succ]
  refine seql_take 7 rfl (by kernel_rfl) (fun _ _ _ h => h) (by rfl) (seq_ldi rfl rfl ((show w.drew.cell? ⟨g, 3, none⟩ = _ from HC.out))) ?_
  try simp only [List.getElem_toArray, List.getElem_cons_succ, List.getElem_cons_zero, Act.put, List.setIfInBounds_toArray, List.set_cons_zero, List.set_cons_succ]
  refine seql_take 8 (v := ?_) rfl (by kernel_rfl) (fun _ _ _ h => h) (by rfl) (fun w' hw' => ?_) ?_
  rotate_left
  · go_simp; try with_reducible rfl
  try simp only [List.getElem_toArray, List.getElem_cons_succ, List.getElem_cons_zero, Act.put, List.setIfInBounds_toArray, List.set_cons_zero, List.set_cons_succ]
  refine seql_take 10 (v := ?_) rfl (by kernel_rfl) (fun _ _ _ h => h) (by rfl) (fun w' hw' => ?_) ?_
  rotate_left
  · go_simp; try with_reducible rfl
  try simp only [List.getElem_toArray, List.getElem_cons_succ, List.getElem_cons_zero, Act.put, List.setIfInBounds_toArray, List.set_cons_zero, List.set_cons_succ]
  refine seql_take 11 (v := ?_) rfl (by kernel_rfl) (fun _ _ _ h => h) (by rfl) (fun w' hw' => ?_) ?_
  rotate_left
  · go_simp; try with_reducible rfl
  try simp only [List.getElem_toArray, List.getElem_cons_succ, List.getElem_cons_zero, Act.put, List.setIfInBounds_toArray, List.set_cons_zero, List.set_cons_succ]
  refine seql_take 12 (v := ?_) rfl (by kernel_rfl) (fun _ _ _ h => h) (by rfl) (fun w' hw' => ?_) ?_
  rotate_left
  · go_simp; try with_reducible rfl
  try simp only [List.getElem_toArray, List.getElem_cons_succ, List.getElem_cons_zero, Act.put, List.setIfInBounds_toArray, List.set_cons_zero, List.set_cons_succ]
  refine seql_take 13 rfl (by kernel_rfl) (fun _ _ _ h => h) (by rfl) (seq_ldi rfl rfl ((show w.drew.cell? ⟨g, 3, none⟩ = _ from HC.out))) ?_
  try simp only [List.getElem_toArray, List.getElem_cons_succ, List.getElem_cons_zero, Act.put, List.setIfInBounds_toArray, List.set_cons_zero, List.set_cons_succ]
  refine seql_take 14 (v := ?_) rfl (by kernel_rfl) (fun _ _ _ h => h) (by rfl) (fun w' hw' => ?_) ?_
  rotate_left
  · go_simp; try with_reducible rfl
  try simp only [List.getElem_toArray, List.getElem_cons_succ, List.getElem_cons_zero, Act.put, List.setIfInBounds_toArray, List.set_cons_zero, List.set_cons_succ]
  refine seql_run 9 rfl (by kernel_rfl) (by rfl) (fun KK hKK => ?_)
  go_wp2_with fail
  refine (slotZ_any (l.age + 1) _ (by omega) (by omega) w.drew).mono ?_
  rintro e w1 ⟨rfl, rfl⟩
  go_wp2_with fail
  refine ⟨Below.refl _ _, ?_⟩
  refine seql_run 15 rfl (by kernel_rfl) (by rfl) (fun KK hKK => ?_)
  go_wp2_with fail
  refine (headZ_any (l.age + 1) _ (by omega) (by omega) w.drew (H.out.2.2.2.2.below (Below.refl _ w).drew)).mono ?_
  rintro e w1 ⟨ho, hcap, rfl, hown1, hb1⟩
  have hhl := headL_length (l.age + 1) (by omega)
  have H1 := Lib.hid (And.intro (At.own hown1) hb1)
  have hsz1 := hb1.size
  simp only [World.size_drew] at hsz1
  clear hown1 hb1
  go_wp2_with fail
  refine ⟨H1.out.2, ?_⟩
  clear hs1
  refine seql_last 16 rfl (by kernel_rfl) (by kernel_rfl) (by rfl) (fun KK hKK => ?_)
  go_wp2_with fail
  have hb01 : Below w.heap.size w w1 := (Below.refl _ w).drew.trans (H1.out.2.mono (by simp))
  have HB01 := Lib.hid hb01
  clear hb01
  refine (wwriteZ_any w1 (H.out.1.below HB01.out) (by omega) (by omega) l.f l.cnt (1 - (l.age + 1) % 2) _ rfl (by omega) (by omega) ho _ hcap (headL (l.age + 1)) rfl (by omega) H1.out.1 (by omega)).mono ?_
  rintro e w2 ⟨rfl, hu, _⟩
  rw [show padZ (headL (l.age + 1)) = secH (l.age + 1) from rfl] at hu ⊢
  generalize s.write ((l.f + (1 - (l.age + 1) % 2) : Nat) : Int) (secH (l.age + 1)) = T at *
  obtain ⟨T1, T2⟩ := T
  simp only at hu ⊢ HTP HWS
  have hu0 : Upd B w M I d T2 w2 := Upd.comp (Keeps.of_below HB01.out) (fun _ h => .inl h) (fun _ h => .inl h) hu
  have HU := Lib.hid hu0
  clear hu hu0 hhl
  go_wp2_with fail
  refine seql_more 17 rfl (by kernel_rfl) (by kernel_rfl) (by rfl) (fun KK hKK => ?_)
  go_wp2_with fail
  refine seql_done (by kernel_rfl) ?_
  by_cases hT : T1 = 0
  · subst hT
    have hR : R = T2.barrier := by rw [HTP.out, if_neg (by simp)]
    have HR := Lib.hid hR
    clear hR
    obtain ⟨M', I', h', K', m', i'⟩ := HU.out
    have hlog2 : LogAt w2 g d l := H.out.2.1.keeps K' H.out.2.2.1
    have H2 := Lib.hid (And.intro h' (And.intro K' (And.intro m' (And.intro i' hlog2))))
    have c02 := hlog2.cells.1
    have hsz2 := K'.size
    have HWS' := HWS.out
    clear h' K' m' i' hlog2
    go_wp2_with fail
    refine (barrier_any w2 H2.out.1 (by omega) (by omega) (by omega)).mono ?_
    rintro e w3 ⟨rfl, hu3⟩
    rw [← HR.out]
    rw [← HR.out] at hu3
    obtain ⟨R1, R2⟩ := R
    simp only at hu3 ⊢
    have hu03 : Upd B w M I d R2 w3 := Upd.comp H2.out.2.1 H2.out.2.2.1 H2.out.2.2.2.1 hu3
    have hsys := SysUpd.of_upd H.out.2.1 H.out.2.2.1 H.out.2.2.2.1 hu03
    have HS := Lib.hid hsys
    obtain ⟨_, _, _, hlog3, _⟩ := hsys
    clear hu3 hu03 c02 HWS'
    by_cases hR1 : R1 = 0
    · subst hR1
      have c33 := hlog3.cells.2.2.2.1
      have c34 := hlog3.cells.2.2.2.2.1
      have c35 := hlog3.cells.2.2.2.2.2
      have f33 := hlog3.fz 3
      have f34 := hlog3.fz 4
      have f35 := hlog3.fz 5
      clear hlog3
      go_wp2_with fail
      go_returns
      refine ⟨rfl, HS.out.then_log ?_ fun h => ?_⟩
      · exact Keeps.trans' (X := fun i => i = g) (Keeps.trans' (X := fun i => i = g) (Keeps.of_grown (setCell_grown0 _ _ _ _) rfl) (Keeps.of_grown (setCell_grown0 _ _ _ _) rfl)) (Keeps.of_grown (setCell_grown0 _ _ _ _) rfl)
      · exact ((h.setAge (l.age + 1)).setNext 0).setPos 2
    · have hne : ((R1 : Int) != 0) = true := by simp; exact hR1
      clear hlog3
      go_wp2_with fail
      go_returns
      refine ⟨rfl, ?_⟩
      unfold truncL
      rw [if_neg hR1]
      exact HS.out
  · have hR : R = (T1, T2) := by rw [HTP.out, if_pos hT]
    subst hR
    have hne : ((T1 : Int) != 0) = true := by simp; exact hT
    go_wp2_with fail
    go_returns
    refine ⟨rfl, ?_⟩
    simp only [truncL]
    rw [if_neg hT]
    exact SysUpd.of_upd H.out.2.1 H.out.2.2.1 H.out.2.2.2.1 HU.out

end Go.Proofs.YtnonhmjfhcmpgaaDoor
