/- The walks of num.Wrap, stands, bare, a float's bits, fits: the form of values. -/
import Derived.Test.YtpeehagaiofobaaDoorOps
import Derived.Test.YtpeehagaiofobaaDoorOps2
import Derived.Test.YtpeehagaiofobaaDoorWalWire
import Derived.WalkLawsBesides
import Derived.Test.YtpeehagaiofobaaDoorPV
import Derived.Test.YtpeehagaiofobaaDoorWireP
import Derived.Test.YtpeehagaiofobaaDoorRead

/- Values with depth as bytes, in plain Lean: which are in form, their bytes, reading them again. -/
namespace Go.Proofs.YtpeehagaiofobaaDoor

/-- A text's bytes. -/
def encS (t : List UInt8) : List UInt8 := enc t.length ++ t
/-- What stands ahead of a value's parts. -/
def headB (k m : Int) (t : List UInt8) (n : Nat) : List UInt8 :=
  enc k ++ (if k = 0 ∨ k = 5 then enc m else if k = 1 ∨ k = 2 then encS t else if k = 3 then enc m ++ enc n else if k = 4 then enc n else [])
mutual
def encV : PV → List UInt8
  | .mk k m t ks => headB k m t ks.length ++ encVs ks
def encVs : List PV → List UInt8
  | [] => []
  | x :: xs => encV x ++ encVs xs
end
mutual
/-- The bytes behind others; no more than are wanted. -/
def putV (b : List UInt8) : PV → List UInt8
  | .mk k m t ks => if 16384 < b.length then b else putVs (b ++ headB k m t ks.length) ks
def putVs (b : List UInt8) : List PV → List UInt8
  | [] => b
  | x :: xs => putVs (putV b x) xs
end
mutual
theorem putV_ge (b : List UInt8) : ∀ x : PV, b.length ≤ (putV b x).length
  | .mk k m t ks => by
    unfold putV
    split
    · omega
    · have := putVs_ge (b ++ headB k m t ks.length) ks
      rw [List.length_append] at this
      omega
theorem putVs_ge (b : List UInt8) : ∀ xs : List PV, b.length ≤ (putVs b xs).length
  | [] => by unfold putVs; omega
  | x :: xs => by
    unfold putVs
    have h1 := putV_ge b x
    have h2 := putVs_ge (putV b x) xs
    omega
end
mutual
theorem putV_enc (b : List UInt8) : ∀ x : PV, (putV b x).length ≤ 16384 → putV b x = b ++ encV x
  | .mk k m t ks => by
    intro h
    have hb : ¬ 16384 < b.length := Nat.not_lt.2 (Nat.le_trans (putV_ge b (.mk k m t ks)) h)
    unfold putV at h ⊢
    rw [if_neg hb] at h ⊢
    rw [putVs_enc _ ks h, encV, List.append_assoc]
theorem putVs_enc (b : List UInt8) : ∀ xs : List PV, (putVs b xs).length ≤ 16384 → putVs b xs = b ++ encVs xs
  | [] => by intro _; unfold putVs encVs; simp
  | x :: xs => by
    intro h
    unfold putVs at h ⊢
    have h1 := putVs_ge (putV b x) xs
    rw [putVs_enc _ xs h, putV_enc b x (by omega), encVs, List.append_assoc]
end

/-- In form, but for the parts. 'fl': are a float's eight bytes the float's? -/
def fitsV (fl : List UInt8 → Bool) (k m : Int) (t : List UInt8) (n : Nat) : Bool :=
  if k = 0 then decide (t = []) && decide (n = 0) && decide (-4611686018427387904 ≤ m ∧ m ≤ 4611686018427387903)
  else if k = 1 then decide (m = 0) && decide (n = 0) && decide (t.length = 8) && fl t
  else if k = 2 then decide (m = 0) && decide (n = 0) && decide (t.length ≤ 4096)
  else if k = 3 then decide (t = []) && decide (0 ≤ m ∧ m ≤ 255) && decide (n ≤ 8)
  else if k = 4 then decide (t = []) && decide (m = 0) && decide (2 ≤ n ∧ n ≤ 8)
  else if k = 5 then decide (t = []) && decide (n = 0) && decide (1 ≤ m ∧ m ≤ 1099511627776)
  else if k = 6 then decide (m = 0) && decide (t = []) && decide (n = 0)
  else false
mutual
def rightV (fl : List UInt8 → Bool) (d : Nat) : PV → Bool
  | .mk k m t ks => decide (d ≤ 200) && fitsV fl k m t ks.length && rightVs fl (d + 1) ks
def rightVs (fl : List UInt8 → Bool) (d : Nat) : List PV → Bool
  | [] => true
  | x :: xs => rightV fl d x && rightVs fl d xs
end

theorem numR_encI (lo hi z : Int) (rest : List UInt8) (h1 : lo ≤ z) (h2 : z ≤ hi) (h3 : -9223372036854775808 ≤ z) (h4 : z ≤ 9223372036854775807) : numR lo hi (enc z ++ rest, 0) = (z, (rest, 0)) := by
  have hr : raw (enc z ++ rest) = (zz z, (enc z).length, 0) := by
    unfold enc
    rw [raw_numB _ _ (zz_lt z h3 h4)]
  unfold numR
  simp only [ne_eq, not_true_eq_false, if_false, hr, unzz_zz]
  rw [if_neg (by omega), List.drop_left]
theorem strR_encS (hi : Int) (t rest : List UInt8) (h1 : (t.length : Int) ≤ hi) (h2 : t.length ≤ 9223372036854775807) : strR hi (encS t ++ rest, 0) = (t, (rest, 0)) := by
  unfold strR
  rw [encS, List.append_assoc, numR_encI 0 hi t.length (t ++ rest) (by omega) h1 (by omega) (by omega)]
  simp
  omega
end Go.Proofs.YtpeehagaiofobaaDoor

/- The walk of wire.Str. -/
namespace Go.Proofs.YtpeehagaiofobaaDoor
open Go.RowKit
set_option maxHeartbeats 400000 in
theorem str_any (s : ByteArray) (hs : s.size ≤ 1099511627776) (w : World) :
    Calls Tryd.prog 51 #[.string s] w (NewBytes w (enc s.size ++ s.data.toList)) := by
  have hl10 := enc_len s.size (by omega) (by omega)
  go_enter Tryd.func51, Tryd.ntmps51
  go_wp2_with fail
  refine (num_any s.size (by omega) (by omega) w).mono ?_
  rintro e w1 ⟨ao, cap, rfl, hown, hbel⟩
  have hsz := hbel.size
  have H := Lib.hid (And.intro hown hbel)
  clear hown hbel
  go_wp2_with (at_builtin; refine app_str rfl _ _ rfl w.heap.size ao cap (enc s.size) _ rfl H.out.1 s rfl (by omega) (by omega) ?_; rintro ao' cap' w2 ⟨q1, q2, q3⟩)
  go_ret
  obtain ⟨hown, hbel⟩ := H.out
  have e : (enc s.size).length + s.size = (enc s.size ++ s.data.toList).length := by rw [List.length_append, Array.length_toList]; rfl
  exact ⟨ao', cap', by rw [e]; rfl, q1, hbel.trans (below_grown hown (by omega) q2)⟩

end Go.Proofs.YtpeehagaiofobaaDoor

namespace Go.Proofs.YtpeehagaiofobaaDoor
open Go.RowKit

/-- A whole number as an integer of 63 bits. -/
def wrap63 (z : Int) : Int := (z + 4611686018427387904) % 9223372036854775808 - 4611686018427387904
theorem wrap63_eq (z : Int) : wrap64 (z * 2) / 2 = wrap63 z := by unfold wrap64 wrap63; omega
theorem wrap63_iff (z : Int) : wrap63 z = z ↔ -4611686018427387904 ≤ z ∧ z ≤ 4611686018427387903 := by unfold wrap63; omega
theorem wrap_any (z : Int) (w : World) : Calls Tryd.prog 34 #[.int .i64 z] w fun e w' => e = .returned (.int .i64 (wrap63 z)) ∧ w = w' := by
  go_enter Tryd.func34, Tryd.ntmps34
  go_wp2_with fail
  go_ret
  exact ⟨by rw [← wrap63_eq]; rfl, rfl⟩
theorem stands_any (w : World) : Calls Tryd.prog 5 #[] w fun e w' => e = .returned (.bool true) ∧ w = w' := by
  have hadd : Calls Tryd.prog 15 #[.int .i64 4611686018427387903, .int .i64 1] w fun e w' => e = .returned (.int .i64 (-4611686018427387904)) ∧ w = w' := by
    go_enter Tryd.func15, Tryd.ntmps15
    go_wp2_with fail
    refine (wrap_any _ w).mono ?_
    rintro e w1 ⟨rfl, rfl⟩
    go_wp2_with fail
    go_ret
    exact ⟨rfl, rfl⟩
  go_enter Tryd.func5, Tryd.ntmps5
  go_wp2_with fail
  refine hadd.mono ?_
  rintro e w1 ⟨rfl, rfl⟩
  go_wp2_with fail
  go_ret
  exact ⟨rfl, rfl⟩
/-- The four cells of a value. -/
def valV (k m : Int) (t : List UInt8) (ao : Option Addr) (n cap : Nat) : Value := .agg #[.int .i64 k, .int .i64 m, .string ⟨t.toArray⟩, .slice ao n cap]
set_option maxRecDepth 100000 in
set_option maxHeartbeats 1000000 in
theorem bare_any' (k m : Int) (t : List UInt8) (ao : Option Addr) (n cap : Nat) (a b : Bool) (w : World) :
    Calls Tryd.prog 62 #[valV k m t ao n cap, .bool a, .bool b] w (fun e w' => e = .returned (.bool ((a || decide (m = 0)) && (b || decide (t = [])) && decide (n = 0))) ∧ Below w.heap.size w w') := by
  unfold valV
  obtain ⟨r, hr⟩ : ∃ r, ((a || decide (m = 0)) && (b || decide (t = [])) && decide (n = 0)) = r := ⟨_, rfl⟩
  rw [hr]
  have HR := Lib.hid hr
  clear hr
  have hte : t.isEmpty = decide (t = []) := by cases t <;> rfl
  have hn0 : ((n : Int) == 0) = decide (n = 0) := by
    rw [Bool.eq_iff_iff]
    simp
  have HB := Lib.hid (fun (x : Obj) => (Below.refl w.heap.size w).alloc (Nat.le_refl _) x)
  have HTE := Lib.hid (And.intro hte hn0)
  clear hte hn0
  go_enter Tryd.func62, Tryd.ntmps62
  go_wp2_with fail
  all_goals
    go_ret
    refine ⟨?_, HB.out _⟩
    rw [← HR.out]
    simp_all [HTE.out.1, HTE.out.2]
theorem frombits_run (x : Int) (w : World) : (callFunc 71 #[.int .u64 x]).run Tryd.prog w = .ok (.value (.float .f64 x.toNat)) w := by
  rw [run_callFunc_extern (e := Extern.MathFloatBits.float64frombits) Tryd.func71 (by kernel_rfl) (by kernel_rfl) (by kernel_rfl) (by kernel_rfl)]
  rfl
theorem tobits_run (x : Nat) (w : World) : (callFunc 70 #[.float .f64 x]).run Tryd.prog w = .ok (.value (.int .u64 x)) w := by
  rw [run_callFunc_extern (e := Extern.MathFloatBits.float64bits) Tryd.func70 (by kernel_rfl) (by kernel_rfl) (by kernel_rfl) (by kernel_rfl)]
  rfl
theorem go_any (x : Int) (w : World) : Calls Tryd.prog 65 #[.int .u64 x] w (fun e w' => e = .returned (.float .f64 x.toNat) ∧ w = w') := by
  have hfr := frombits_run
  go_enter Tryd.func65, Tryd.ntmps65
  go_wp2_with fail
  go_ret
  exact ⟨rfl, rfl⟩
def isNaNB (x : Nat) : Bool := FloatKind.f64.format.order x x != some Ordering.eq
theorem isnan_any (x : Nat) (w : World) : Calls Tryd.prog 69 #[.float .f64 x] w (fun e w' => e = .returned (.bool (isNaNB x)) ∧ w = w') := by
  go_enter Tryd.func69, Tryd.ntmps69
  go_wp2_with fail
  go_ret
  exact ⟨rfl, rfl⟩
/-- A float's bits, none of which is another name of no number. -/
def ofM (x : Nat) : Int := if isNaNB x then 9221120237041090560 else (x : Int)
theorem of_any (x : Nat) (w : World) : Calls Tryd.prog 63 #[.float .f64 x] w (fun e w' => e = .returned (.int .u64 (ofM x)) ∧ w = w') := by
  have htb := tobits_run
  cases hn : isNaNB x
  · have HN := Lib.hid (show ofM x = (x : Int) by unfold ofM; rw [hn]; rfl)
    go_enter Tryd.func63, Tryd.ntmps63
    go_wp2_with fail
    refine (isnan_any x w).mono ?_
    rintro e w1 ⟨rfl, rfl⟩
    rw [hn]
    go_wp2_with fail
    go_ret
    exact ⟨by rw [HN.out]; rfl, rfl⟩
  · have HN := Lib.hid (show ofM x = 9221120237041090560 by unfold ofM; rw [hn]; rfl)
    go_enter Tryd.func63, Tryd.ntmps63
    go_wp2_with fail
    refine (isnan_any x w).mono ?_
    rintro e w1 ⟨rfl, rfl⟩
    rw [hn]
    go_wp2_with fail
    go_ret
    exact ⟨by rw [HN.out]; rfl, rfl⟩
def fstep (x : Int) (c : UInt8) : Int := bits .or .u64 (IntKind.u64.wrap (x * 256)) (IntKind.u64.wrap c.toNat)
def fbits (t : List UInt8) : Int := t.foldl fstep 0
set_option maxRecDepth 100000 in
set_option maxHeartbeats 1000000 in
theorem vfloat_any (t : List UInt8) (ht : t.length ≤ 1000000) (w : World) :
    Calls Tryd.prog 64 #[.string ⟨t.toArray⟩] w (fun e w' => e = .returned (.int .u64 (fbits t)) ∧ w = w') := by
  have hsz : (ByteArray.mk t.toArray).size = t.length := by rw [ByteArray.size]; simp
  have HS := Lib.hid (fun k (hk : k < t.length) => show bits .or .u64 (IntKind.u64.wrap (fbits (t.take k) * 256)) (IntKind.u64.wrap ((t[k]).toNat : Int)) = fbits (t.take (k + 1)) from by
    rw [List.take_succ_eq_append_getElem hk]
    unfold fbits
    rw [List.foldl_append]
    rfl)
  go_enter Tryd.func64, Tryd.ntmps64
  go_wp2_with fail
  go_loopw [3, 7] (fun v3 v7 wr => ∃ k : Nat, k ≤ t.length ∧ v7 = .int .i64 (k : Int) ∧ v3 = .int .u64 (fbits (t.take k)) ∧ wr = w) (fun _ v7 _ => t.length - (intOf v7).toNat)
  case atStart => exact ⟨0, by omega, rfl, rfl, rfl⟩
  case round =>
    obtain ⟨k, hk, rfl, rfl, rfl⟩ := hrel
    by_cases hlt : k < t.length
    · have hd1 : decide ((k : Int) < (t.length : Int)) = true := decide_eq_true (by omega)
      have hidx : (ByteArray.mk t.toArray)[k]'(by omega) = t[k] := by
        show t.toArray[k] = t[k]
        simp
      go_wp2_with fail
      go_roundw
      case rel => exact ⟨k + 1, by omega, by simp, by rw [HS.out k hlt], trivial⟩
      case measure => simp [intOf]; omega
    · obtain rfl : k = t.length := by omega
      rw [List.take_length]
      go_wp2_with fail
      go_ret
      exact ⟨rfl, rfl⟩
/-- Are eight bytes a float's? -/
def floatOk (t : List UInt8) : Bool := ofM (fbits t).toNat == fbits t

/-- A value's cells lie in a block. -/
def ValAt (w : World) (g : Nat) (k m : Int) (t : List UInt8) (ao : Option Addr) (n cap : Nat) : Prop :=
  w.cell? ⟨g, 0, none⟩ = some (.int .i64 k) ∧ w.cell? ⟨g, 1, none⟩ = some (.int .i64 m) ∧ w.cell? ⟨g, 2, none⟩ = some (.string ⟨t.toArray⟩) ∧ w.cell? ⟨g, 3, none⟩ = some (.slice ao n cap)
theorem ValAt.lt {w : World} {g : Nat} {k m : Int} {t : List UInt8} {ao : Option Addr} {n cap : Nat} (h : ValAt w g k m t ao n cap) : g < w.heap.size := World.block_lt_of_cell? (a := ⟨g, 0, none⟩) w h.1
theorem ValAt.below {w w' : World} {g : Nat} {k m : Int} {t : List UInt8} {ao : Option Addr} {n cap : Nat} (h : ValAt w g k m t ao n cap) (hb : Below w.heap.size w w') : ValAt w' g k m t ao n cap :=
  ⟨(World.cell?_of_block (hb.block g h.lt)).trans h.1, (World.cell?_of_block (hb.block g h.lt)).trans h.2.1, (World.cell?_of_block (hb.block g h.lt)).trans h.2.2.1, (World.cell?_of_block (hb.block g h.lt)).trans h.2.2.2⟩
theorem ValAt.new (w : World) (k m : Int) (t : List UInt8) (ao : Option Addr) (n cap : Nat) : ValAt (w.alloc (.cells #[.int .i64 k, .int .i64 m, .string ⟨t.toArray⟩, .slice ao n cap] 37)) w.heap.size k m t ao n cap := by
  have hrow : (w.alloc (.cells #[.int .i64 k, .int .i64 m, .string ⟨t.toArray⟩, .slice ao n cap] 37)).heap[w.heap.size]? = _ := heap_alloc_new w _
  exact ⟨cell_of_row _ _ 0 _ _ (0, 0) hrow, cell_of_row _ _ 1 _ _ (0, 0) hrow, cell_of_row _ _ 2 _ _ (0, 0) hrow, cell_of_row _ _ 3 _ _ (0, 0) hrow⟩
theorem seq_ldv {o : Oper} {x : Operand} {a : Act} {w : World} (ho : o.op = .load 37 x) {g : Nat} {k m : Int} {t : List UInt8} {ao : Option Addr} {n cap : Nat} (hx : a.eval x = .pointer (some ⟨g, 0, none⟩)) (hc : ValAt w g k m t ao n cap) :
    ∀ w', Below w.heap.size w w' → (execOp a.eval o).run Tryd.prog w' = .ok (.value (valV k m t ao n cap)) w' := by
  intro w' hb
  obtain ⟨c0, c1, c2, c3⟩ := hc.below hb
  have hu := Tryd.underlying37
  unfold execOp valV
  simp only [ho, hx]
  go_simp
set_option maxRecDepth 100000 in
set_option maxHeartbeats 4000000 in
theorem fits_any' (k m : Int) (t : List UInt8) (ao : Option Addr) (n cap : Nat) (w : World) :
    Calls Tryd.prog 48 #[valV k m t ao n cap] w (fun e w' => e = .returned (.bool (fitsV floatOk k m t n)) ∧ Below w.heap.size w w') := by
  obtain ⟨r, hr⟩ : ∃ r, fitsV floatOk k m t n = r := ⟨_, rfl⟩
  rw [hr]
  have HR := Lib.hid hr
  clear hr
  unfold valV
  have HV := Lib.hid (ValAt.new w k m t ao n cap)
  have HB := Lib.hid ((Below.refl w.heap.size w).alloc (Nat.le_refl _) (.cells #[.int .i64 k, .int .i64 m, .string ⟨t.toArray⟩, .slice ao n cap] 37))
  have hte : t.isEmpty = decide (t = []) := by cases t <;> rfl
  by_cases h0 : k = 0
  · subst h0
    go_enter Tryd.func48, Tryd.ntmps48
    go_wp2_with fail
    generalize (w.alloc (.cells #[.int .i64 0, .int .i64 m, .string ⟨t.toArray⟩, .slice ao n cap] 37)) = W at *
    refine seq_start (by kernel_rfl) ?_
    refine seq_take 0 rfl (by kernel_rfl) (fun _ _ _ h => h) (by rfl) (seq_ldv rfl rfl ((HV.out.below (Below.refl _ W).drew))) ?_
    try simp only [List.getElem_toArray, List.getElem_cons_succ, List.getElem_cons_zero, Act.put, List.setIfInBounds_toArray, List.set_cons_zero, List.set_cons_succ]
    refine seq_run 1 rfl (by kernel_rfl) (by rfl) (fun KK hKK => ?_)
    go_wp2_with fail
    refine (bare_any' 0 m t ao n cap true false W.drew).mono ?_
    rintro e w1 ⟨rfl, hb1⟩
    have HV1 := Lib.hid ((HV.out.below (Below.refl _ W).drew).below hb1)
    have HB1 := Lib.hid (And.intro (HB.out.trans ((below_drew hb1).mono HB.out.size)) hb1)
    clear hb1
    obtain ⟨q, hq⟩ : ∃ q, ((true || decide (m = 0)) && (false || decide (t = [])) && decide (n = 0)) = q := ⟨_, rfl⟩
    rw [hq]
    have HQ := Lib.hid hq
    clear hq
    go_wp2_with fail
    refine ⟨HB1.out.2, ?_⟩
    cases q
    · refine seq_take 2 (v := ?_) rfl (by kernel_rfl) (fun _ _ _ h => h) (by rfl) (fun w' hw' => ?_) ?_
      rotate_left
      · go_simp; try with_reducible rfl
      try simp only [List.getElem_toArray, List.getElem_cons_succ, List.getElem_cons_zero, Act.put, List.setIfInBounds_toArray, List.set_cons_zero, List.set_cons_succ]
      refine seq_skip 3 rfl (by kernel_rfl) (fun _ _ _ h => h) (by rfl) ?_
      try simp only [List.getElem_toArray, List.getElem_cons_succ, List.getElem_cons_zero, Act.put, List.setIfInBounds_toArray, List.set_cons_zero, List.set_cons_succ]
      refine seq_skip 4 rfl (by kernel_rfl) (fun _ _ _ h => h) (by rfl) ?_
      try simp only [List.getElem_toArray, List.getElem_cons_succ, List.getElem_cons_zero, Act.put, List.setIfInBounds_toArray, List.set_cons_zero, List.set_cons_succ]
      refine seq_skip 5 rfl (by kernel_rfl) (fun _ _ _ h => h) (by rfl) ?_
      try simp only [List.getElem_toArray, List.getElem_cons_succ, List.getElem_cons_zero, Act.put, List.setIfInBounds_toArray, List.set_cons_zero, List.set_cons_succ]
      refine seq_skip 6 rfl (by kernel_rfl) (fun _ _ _ h => h) (by rfl) ?_
      try simp only [List.getElem_toArray, List.getElem_cons_succ, List.getElem_cons_zero, Act.put, List.setIfInBounds_toArray, List.set_cons_zero, List.set_cons_succ]
      refine seq_skip 7 rfl (by kernel_rfl) (fun _ _ _ h => h) (by rfl) ?_
      try simp only [List.getElem_toArray, List.getElem_cons_succ, List.getElem_cons_zero, Act.put, List.setIfInBounds_toArray, List.set_cons_zero, List.set_cons_succ]
      refine seq_skip 8 rfl (by kernel_rfl) (fun _ _ _ h => h) (by rfl) ?_
      try simp only [List.getElem_toArray, List.getElem_cons_succ, List.getElem_cons_zero, Act.put, List.setIfInBounds_toArray, List.set_cons_zero, List.set_cons_succ]
      refine seq_take 9 (v := ?_) rfl (by kernel_rfl) (fun _ _ _ h => h) (by rfl) (fun w' hw' => ?_) ?_
      rotate_left
      · go_simp; try with_reducible rfl
      try simp only [List.getElem_toArray, List.getElem_cons_succ, List.getElem_cons_zero, Act.put, List.setIfInBounds_toArray, List.set_cons_zero, List.set_cons_succ]
      refine seq_take 10 (v := ?_) rfl (by kernel_rfl) (fun _ _ _ h => h) (by rfl) (fun w' hw' => ?_) ?_
      rotate_left
      · go_simp; try with_reducible rfl
      try simp only [List.getElem_toArray, List.getElem_cons_succ, List.getElem_cons_zero, Act.put, List.setIfInBounds_toArray, List.set_cons_zero, List.set_cons_succ]
      refine seq_done (by kernel_rfl) ?_
      go_wp2_with fail
      go_ret
      refine ⟨?_, HB1.out.1⟩
      rw [← HR.out]
      have := HQ.out
      simp_all [fitsV]
    · refine seq_take 2 (v := ?_) rfl (by kernel_rfl) (fun _ _ _ h => h) (by rfl) (fun w' hw' => ?_) ?_
      rotate_left
      · go_simp; try with_reducible rfl
      try simp only [List.getElem_toArray, List.getElem_cons_succ, List.getElem_cons_zero, Act.put, List.setIfInBounds_toArray, List.set_cons_zero, List.set_cons_succ]
      refine seq_take 3 (v := ?_) rfl (by kernel_rfl) (fun _ _ _ h => h) (by rfl) (fun w' hw' => ?_) ?_
      rotate_left
      · go_simp; try with_reducible rfl
      try simp only [List.getElem_toArray, List.getElem_cons_succ, List.getElem_cons_zero, Act.put, List.setIfInBounds_toArray, List.set_cons_zero, List.set_cons_succ]
      refine seq_take 4 rfl (by kernel_rfl) (fun _ _ _ h => h) (by rfl) (seq_ldi rfl rfl (HV1.out.2.1)) ?_
      try simp only [List.getElem_toArray, List.getElem_cons_succ, List.getElem_cons_zero, Act.put, List.setIfInBounds_toArray, List.set_cons_zero, List.set_cons_succ]
      refine seq_take 6 (v := ?_) rfl (by kernel_rfl) (fun _ _ _ h => h) (by rfl) (fun w' hw' => ?_) ?_
      rotate_left
      · go_simp; try with_reducible rfl
      try simp only [List.getElem_toArray, List.getElem_cons_succ, List.getElem_cons_zero, Act.put, List.setIfInBounds_toArray, List.set_cons_zero, List.set_cons_succ]
      refine seq_take 7 rfl (by kernel_rfl) (fun _ _ _ h => h) (by rfl) (seq_ldi rfl rfl (HV1.out.2.1)) ?_
      try simp only [List.getElem_toArray, List.getElem_cons_succ, List.getElem_cons_zero, Act.put, List.setIfInBounds_toArray, List.set_cons_zero, List.set_cons_succ]
      refine seq_run 5 rfl (by kernel_rfl) (by rfl) (fun KK hKK => ?_)
      go_wp2_with fail
      refine (wrap_any m w1).mono ?_
      rintro e w2 ⟨rfl, rfl⟩
      have HWR := Lib.hid (wrap63_iff m)
      go_wp2_with fail
      refine ⟨Below.refl _ _, ?_⟩
      refine seq_take 8 (v := ?_) rfl (by kernel_rfl) (fun _ _ _ h => h) (by rfl) (fun w' hw' => ?_) ?_
      rotate_left
      · go_simp; try with_reducible rfl
      try simp only [List.getElem_toArray, List.getElem_cons_succ, List.getElem_cons_zero, Act.put, List.setIfInBounds_toArray, List.set_cons_zero, List.set_cons_succ]
      refine seq_take 9 (v := ?_) rfl (by kernel_rfl) (fun _ _ _ h => h) (by rfl) (fun w' hw' => ?_) ?_
      rotate_left
      · go_simp; try with_reducible rfl
      try simp only [List.getElem_toArray, List.getElem_cons_succ, List.getElem_cons_zero, Act.put, List.setIfInBounds_toArray, List.set_cons_zero, List.set_cons_succ]
      refine seq_take 10 (v := ?_) rfl (by kernel_rfl) (fun _ _ _ h => h) (by rfl) (fun w' hw' => ?_) ?_
      rotate_left
      · go_simp; try with_reducible rfl
      try simp only [List.getElem_toArray, List.getElem_cons_succ, List.getElem_cons_zero, Act.put, List.setIfInBounds_toArray, List.set_cons_zero, List.set_cons_succ]
      refine seq_done (by kernel_rfl) ?_
      go_wp2_with fail
      go_ret
      refine ⟨?_, HB1.out.1⟩
      rw [← HR.out]
      have h1 := HQ.out
      have h2 := HWR.out
      simp at h1
      simp [fitsV, h1.1, h1.2]
      rw [Bool.eq_iff_iff]
      simp [h2]
  by_cases h1 : k = 1
  · subst h1
    have hsz : (ByteArray.mk t.toArray).size = t.length := by rw [ByteArray.size]; simp
    go_enter Tryd.func48, Tryd.ntmps48
    go_wp2_with fail
    generalize (w.alloc (.cells #[.int .i64 1, .int .i64 m, .string ⟨t.toArray⟩, .slice ao n cap] 37)) = W at *
    refine seq_start (by kernel_rfl) ?_
    refine seq_take 0 rfl (by kernel_rfl) (fun _ _ _ h => h) (by rfl) (seq_ldv rfl rfl ((HV.out.below (Below.refl _ W).drew))) ?_
    try simp only [List.getElem_toArray, List.getElem_cons_succ, List.getElem_cons_zero, Act.put, List.setIfInBounds_toArray, List.set_cons_zero, List.set_cons_succ]
    refine seq_run 1 rfl (by kernel_rfl) (by rfl) (fun KK hKK => ?_)
    go_wp2_with fail
    refine (bare_any' 1 m t ao n cap false true W.drew).mono ?_
    rintro e w1 ⟨rfl, hb1⟩
    have HV1 := Lib.hid ((HV.out.below (Below.refl _ W).drew).below hb1)
    have HB1 := Lib.hid (And.intro (HB.out.trans ((below_drew hb1).mono HB.out.size)) hb1)
    clear hb1
    obtain ⟨q, hq⟩ : ∃ q, ((false || decide (m = 0)) && (true || decide (t = [])) && decide (n = 0)) = q := ⟨_, rfl⟩
    rw [hq]
    have HQ := Lib.hid hq
    clear hq
    go_wp2_with fail
    refine ⟨HB1.out.2, ?_⟩
    cases q
    · refine seq_take 2 (v := ?_) rfl (by kernel_rfl) (fun _ _ _ h => h) (by rfl) (fun w' hw' => ?_) ?_
      rotate_left
      · go_simp; try with_reducible rfl
      try simp only [List.getElem_toArray, List.getElem_cons_succ, List.getElem_cons_zero, Act.put, List.setIfInBounds_toArray, List.set_cons_zero, List.set_cons_succ]
      refine seq_skip 3 rfl (by kernel_rfl) (fun _ _ _ h => h) (by rfl) ?_
      try simp only [List.getElem_toArray, List.getElem_cons_succ, List.getElem_cons_zero, Act.put, List.setIfInBounds_toArray, List.set_cons_zero, List.set_cons_succ]
      refine seq_skip 4 rfl (by kernel_rfl) (fun _ _ _ h => h) (by rfl) ?_
      try simp only [List.getElem_toArray, List.getElem_cons_succ, List.getElem_cons_zero, Act.put, List.setIfInBounds_toArray, List.set_cons_zero, List.set_cons_succ]
      refine seq_skip 5 rfl (by kernel_rfl) (fun _ _ _ h => h) (by rfl) ?_
      try simp only [List.getElem_toArray, List.getElem_cons_succ, List.getElem_cons_zero, Act.put, List.setIfInBounds_toArray, List.set_cons_zero, List.set_cons_succ]
      refine seq_skip 6 rfl (by kernel_rfl) (fun _ _ _ h => h) (by rfl) ?_
      try simp only [List.getElem_toArray, List.getElem_cons_succ, List.getElem_cons_zero, Act.put, List.setIfInBounds_toArray, List.set_cons_zero, List.set_cons_succ]
      refine seq_take 7 (v := ?_) rfl (by kernel_rfl) (fun _ _ _ h => h) (by rfl) (fun w' hw' => ?_) ?_
      rotate_left
      · go_simp; try with_reducible rfl
      try simp only [List.getElem_toArray, List.getElem_cons_succ, List.getElem_cons_zero, Act.put, List.setIfInBounds_toArray, List.set_cons_zero, List.set_cons_succ]
      refine seq_take 8 (v := ?_) rfl (by kernel_rfl) (fun _ _ _ h => h) (by rfl) (fun w' hw' => ?_) ?_
      rotate_left
      · go_simp; try with_reducible rfl
      try simp only [List.getElem_toArray, List.getElem_cons_succ, List.getElem_cons_zero, Act.put, List.setIfInBounds_toArray, List.set_cons_zero, List.set_cons_succ]
      refine seq_skip 9 rfl (by kernel_rfl) (fun _ _ _ h => h) (by rfl) ?_
      try simp only [List.getElem_toArray, List.getElem_cons_succ, List.getElem_cons_zero, Act.put, List.setIfInBounds_toArray, List.set_cons_zero, List.set_cons_succ]
      refine seq_skip 10 rfl (by kernel_rfl) (fun _ _ _ h => h) (by rfl) ?_
      try simp only [List.getElem_toArray, List.getElem_cons_succ, List.getElem_cons_zero, Act.put, List.setIfInBounds_toArray, List.set_cons_zero, List.set_cons_succ]
      refine seq_skip 11 rfl (by kernel_rfl) (fun _ _ _ h => h) (by rfl) ?_
      try simp only [List.getElem_toArray, List.getElem_cons_succ, List.getElem_cons_zero, Act.put, List.setIfInBounds_toArray, List.set_cons_zero, List.set_cons_succ]
      refine seq_skip 12 rfl (by kernel_rfl) (fun _ _ _ h => h) (by rfl) ?_
      try simp only [List.getElem_toArray, List.getElem_cons_succ, List.getElem_cons_zero, Act.put, List.setIfInBounds_toArray, List.set_cons_zero, List.set_cons_succ]
      refine seq_skip 13 rfl (by kernel_rfl) (fun _ _ _ h => h) (by rfl) ?_
      try simp only [List.getElem_toArray, List.getElem_cons_succ, List.getElem_cons_zero, Act.put, List.setIfInBounds_toArray, List.set_cons_zero, List.set_cons_succ]
      refine seq_skip 14 rfl (by kernel_rfl) (fun _ _ _ h => h) (by rfl) ?_
      try simp only [List.getElem_toArray, List.getElem_cons_succ, List.getElem_cons_zero, Act.put, List.setIfInBounds_toArray, List.set_cons_zero, List.set_cons_succ]
      refine seq_skip 15 rfl (by kernel_rfl) (fun _ _ _ h => h) (by rfl) ?_
      try simp only [List.getElem_toArray, List.getElem_cons_succ, List.getElem_cons_zero, Act.put, List.setIfInBounds_toArray, List.set_cons_zero, List.set_cons_succ]
      refine seq_skip 16 rfl (by kernel_rfl) (fun _ _ _ h => h) (by rfl) ?_
      try simp only [List.getElem_toArray, List.getElem_cons_succ, List.getElem_cons_zero, Act.put, List.setIfInBounds_toArray, List.set_cons_zero, List.set_cons_succ]
      refine seq_skip 17 rfl (by kernel_rfl) (fun _ _ _ h => h) (by rfl) ?_
      try simp only [List.getElem_toArray, List.getElem_cons_succ, List.getElem_cons_zero, Act.put, List.setIfInBounds_toArray, List.set_cons_zero, List.set_cons_succ]
      refine seq_take 18 (v := ?_) rfl (by kernel_rfl) (fun _ _ _ h => h) (by rfl) (fun w' hw' => ?_) ?_
      rotate_left
      · go_simp; try with_reducible rfl
      try simp only [List.getElem_toArray, List.getElem_cons_succ, List.getElem_cons_zero, Act.put, List.setIfInBounds_toArray, List.set_cons_zero, List.set_cons_succ]
      refine seq_take 19 (v := ?_) rfl (by kernel_rfl) (fun _ _ _ h => h) (by rfl) (fun w' hw' => ?_) ?_
      rotate_left
      · go_simp; try with_reducible rfl
      try simp only [List.getElem_toArray, List.getElem_cons_succ, List.getElem_cons_zero, Act.put, List.setIfInBounds_toArray, List.set_cons_zero, List.set_cons_succ]
      refine seq_done (by kernel_rfl) ?_
      go_wp2_with fail
      go_ret
      refine ⟨?_, HB1.out.1⟩
      rw [← HR.out]
      have := HQ.out
      simp_all [fitsV]
    · refine seq_take 2 (v := ?_) rfl (by kernel_rfl) (fun _ _ _ h => h) (by rfl) (fun w' hw' => ?_) ?_
      rotate_left
      · go_simp; try with_reducible rfl
      try simp only [List.getElem_toArray, List.getElem_cons_succ, List.getElem_cons_zero, Act.put, List.setIfInBounds_toArray, List.set_cons_zero, List.set_cons_succ]
      refine seq_take 3 (v := ?_) rfl (by kernel_rfl) (fun _ _ _ h => h) (by rfl) (fun w' hw' => ?_) ?_
      rotate_left
      · go_simp; try with_reducible rfl
      try simp only [List.getElem_toArray, List.getElem_cons_succ, List.getElem_cons_zero, Act.put, List.setIfInBounds_toArray, List.set_cons_zero, List.set_cons_succ]
      refine seq_take 4 rfl (by kernel_rfl) (fun _ _ _ h => h) (by rfl) (seq_lds rfl rfl (HV1.out.2.2.1)) ?_
      try simp only [List.getElem_toArray, List.getElem_cons_succ, List.getElem_cons_zero, Act.put, List.setIfInBounds_toArray, List.set_cons_zero, List.set_cons_succ]
      refine seq_take 5 (v := ?_) rfl (by kernel_rfl) (fun _ _ _ h => h) (by rfl) (fun w' hw' => ?_) ?_
      rotate_left
      · go_simp; try with_reducible rfl
      try simp only [List.getElem_toArray, List.getElem_cons_succ, List.getElem_cons_zero, Act.put, List.setIfInBounds_toArray, List.set_cons_zero, List.set_cons_succ]
      by_cases h8 : t.length = 8
      · have h8' : ((t.length : Int) == 8) = true := by simp [h8]
        refine seq_take 6 (v := ?_) rfl (by kernel_rfl) (fun _ _ _ h => h) (by rfl) (fun w' hw' => ?_) ?_
        rotate_left
        · go_simp; try with_reducible rfl
        try simp only [List.getElem_toArray, List.getElem_cons_succ, List.getElem_cons_zero, Act.put, List.setIfInBounds_toArray, List.set_cons_zero, List.set_cons_succ]
        refine seq_take 7 (v := ?_) rfl (by kernel_rfl) (fun _ _ _ h => h) (by rfl) (fun w' hw' => ?_) ?_
        rotate_left
        · go_simp; try with_reducible rfl
        try simp only [List.getElem_toArray, List.getElem_cons_succ, List.getElem_cons_zero, Act.put, List.setIfInBounds_toArray, List.set_cons_zero, List.set_cons_succ]
        refine seq_take 8 (v := ?_) rfl (by kernel_rfl) (fun _ _ _ h => h) (by rfl) (fun w' hw' => ?_) ?_
        rotate_left
        · go_simp; try with_reducible rfl
        try simp only [List.getElem_toArray, List.getElem_cons_succ, List.getElem_cons_zero, Act.put, List.setIfInBounds_toArray, List.set_cons_zero, List.set_cons_succ]
        refine seq_take 9 (v := ?_) rfl (by kernel_rfl) (fun _ _ _ h => h) (by rfl) (fun w' hw' => ?_) ?_
        rotate_left
        · go_simp; try with_reducible rfl
        try simp only [List.getElem_toArray, List.getElem_cons_succ, List.getElem_cons_zero, Act.put, List.setIfInBounds_toArray, List.set_cons_zero, List.set_cons_succ]
        refine seq_take 10 rfl (by kernel_rfl) (fun _ _ _ h => h) (by rfl) (seq_lds rfl rfl (HV1.out.2.2.1)) ?_
        try simp only [List.getElem_toArray, List.getElem_cons_succ, List.getElem_cons_zero, Act.put, List.setIfInBounds_toArray, List.set_cons_zero, List.set_cons_succ]
        refine seq_take 14 (v := ?_) rfl (by kernel_rfl) (fun _ _ _ h => h) (by rfl) (fun w' hw' => ?_) ?_
        rotate_left
        · go_simp; try with_reducible rfl
        try simp only [List.getElem_toArray, List.getElem_cons_succ, List.getElem_cons_zero, Act.put, List.setIfInBounds_toArray, List.set_cons_zero, List.set_cons_succ]
        refine seq_take 15 rfl (by kernel_rfl) (fun _ _ _ h => h) (by rfl) (seq_lds rfl rfl (HV1.out.2.2.1)) ?_
        try simp only [List.getElem_toArray, List.getElem_cons_succ, List.getElem_cons_zero, Act.put, List.setIfInBounds_toArray, List.set_cons_zero, List.set_cons_succ]
        refine seq_run 11 rfl (by kernel_rfl) (by rfl) (fun KK hKK => ?_)
        go_wp2_with fail
        refine (vfloat_any t (by omega) w1).mono ?_
        rintro e w2 ⟨rfl, rfl⟩
        go_wp2_with fail
        refine ⟨Below.refl _ _, ?_⟩
        refine seq_run 12 rfl (by kernel_rfl) (by rfl) (fun KK hKK => ?_)
        go_wp2_with fail
        refine (go_any (fbits t) w1).mono ?_
        rintro e w2 ⟨rfl, rfl⟩
        go_wp2_with fail
        refine ⟨Below.refl _ _, ?_⟩
        refine seq_run 13 rfl (by kernel_rfl) (by rfl) (fun KK hKK => ?_)
        go_wp2_with fail
        refine (of_any (fbits t).toNat w1).mono ?_
        rintro e w2 ⟨rfl, rfl⟩
        go_wp2_with fail
        refine ⟨Below.refl _ _, ?_⟩
        refine seq_run 16 rfl (by kernel_rfl) (by rfl) (fun KK hKK => ?_)
        go_wp2_with fail
        refine (vfloat_any t (by omega) w1).mono ?_
        rintro e w2 ⟨rfl, rfl⟩
        go_wp2_with fail
        refine ⟨Below.refl _ _, ?_⟩
        refine seq_take 17 (v := ?_) rfl (by kernel_rfl) (fun _ _ _ h => h) (by rfl) (fun w' hw' => ?_) ?_
        rotate_left
        · go_simp; try with_reducible rfl
        try simp only [List.getElem_toArray, List.getElem_cons_succ, List.getElem_cons_zero, Act.put, List.setIfInBounds_toArray, List.set_cons_zero, List.set_cons_succ]
        refine seq_take 18 (v := ?_) rfl (by kernel_rfl) (fun _ _ _ h => h) (by rfl) (fun w' hw' => ?_) ?_
        rotate_left
        · go_simp; try with_reducible rfl
        try simp only [List.getElem_toArray, List.getElem_cons_succ, List.getElem_cons_zero, Act.put, List.setIfInBounds_toArray, List.set_cons_zero, List.set_cons_succ]
        refine seq_take 19 (v := ?_) rfl (by kernel_rfl) (fun _ _ _ h => h) (by rfl) (fun w' hw' => ?_) ?_
        rotate_left
        · go_simp; try with_reducible rfl
        try simp only [List.getElem_toArray, List.getElem_cons_succ, List.getElem_cons_zero, Act.put, List.setIfInBounds_toArray, List.set_cons_zero, List.set_cons_succ]
        refine seq_done (by kernel_rfl) ?_
        go_wp2_with fail
        go_ret
        refine ⟨?_, HB1.out.1⟩
        rw [← HR.out]
        have := HQ.out
        simp at this
        simp [fitsV, this.1, this.2, h8, floatOk]
      · have h8' : ((t.length : Int) == 8) = false := by simp; omega
        refine seq_take 6 (v := ?_) rfl (by kernel_rfl) (fun _ _ _ h => h) (by rfl) (fun w' hw' => ?_) ?_
        rotate_left
        · go_simp; try with_reducible rfl
        try simp only [List.getElem_toArray, List.getElem_cons_succ, List.getElem_cons_zero, Act.put, List.setIfInBounds_toArray, List.set_cons_zero, List.set_cons_succ]
        refine seq_take 7 (v := ?_) rfl (by kernel_rfl) (fun _ _ _ h => h) (by rfl) (fun w' hw' => ?_) ?_
        rotate_left
        · go_simp; try with_reducible rfl
        try simp only [List.getElem_toArray, List.getElem_cons_succ, List.getElem_cons_zero, Act.put, List.setIfInBounds_toArray, List.set_cons_zero, List.set_cons_succ]
        refine seq_take 8 (v := ?_) rfl (by kernel_rfl) (fun _ _ _ h => h) (by rfl) (fun w' hw' => ?_) ?_
        rotate_left
        · go_simp; try with_reducible rfl
        try simp only [List.getElem_toArray, List.getElem_cons_succ, List.getElem_cons_zero, Act.put, List.setIfInBounds_toArray, List.set_cons_zero, List.set_cons_succ]
        refine seq_skip 9 rfl (by kernel_rfl) (fun _ _ _ h => h) (by rfl) ?_
        try simp only [List.getElem_toArray, List.getElem_cons_succ, List.getElem_cons_zero, Act.put, List.setIfInBounds_toArray, List.set_cons_zero, List.set_cons_succ]
        refine seq_skip 10 rfl (by kernel_rfl) (fun _ _ _ h => h) (by rfl) ?_
        try simp only [List.getElem_toArray, List.getElem_cons_succ, List.getElem_cons_zero, Act.put, List.setIfInBounds_toArray, List.set_cons_zero, List.set_cons_succ]
        refine seq_skip 11 rfl (by kernel_rfl) (fun _ _ _ h => h) (by rfl) ?_
        try simp only [List.getElem_toArray, List.getElem_cons_succ, List.getElem_cons_zero, Act.put, List.setIfInBounds_toArray, List.set_cons_zero, List.set_cons_succ]
        refine seq_skip 12 rfl (by kernel_rfl) (fun _ _ _ h => h) (by rfl) ?_
        try simp only [List.getElem_toArray, List.getElem_cons_succ, List.getElem_cons_zero, Act.put, List.setIfInBounds_toArray, List.set_cons_zero, List.set_cons_succ]
        refine seq_skip 13 rfl (by kernel_rfl) (fun _ _ _ h => h) (by rfl) ?_
        try simp only [List.getElem_toArray, List.getElem_cons_succ, List.getElem_cons_zero, Act.put, List.setIfInBounds_toArray, List.set_cons_zero, List.set_cons_succ]
        refine seq_skip 14 rfl (by kernel_rfl) (fun _ _ _ h => h) (by rfl) ?_
        try simp only [List.getElem_toArray, List.getElem_cons_succ, List.getElem_cons_zero, Act.put, List.setIfInBounds_toArray, List.set_cons_zero, List.set_cons_succ]
        refine seq_skip 15 rfl (by kernel_rfl) (fun _ _ _ h => h) (by rfl) ?_
        try simp only [List.getElem_toArray, List.getElem_cons_succ, List.getElem_cons_zero, Act.put, List.setIfInBounds_toArray, List.set_cons_zero, List.set_cons_succ]
        refine seq_skip 16 rfl (by kernel_rfl) (fun _ _ _ h => h) (by rfl) ?_
        try simp only [List.getElem_toArray, List.getElem_cons_succ, List.getElem_cons_zero, Act.put, List.setIfInBounds_toArray, List.set_cons_zero, List.set_cons_succ]
        refine seq_skip 17 rfl (by kernel_rfl) (fun _ _ _ h => h) (by rfl) ?_
        try simp only [List.getElem_toArray, List.getElem_cons_succ, List.getElem_cons_zero, Act.put, List.setIfInBounds_toArray, List.set_cons_zero, List.set_cons_succ]
        refine seq_take 18 (v := ?_) rfl (by kernel_rfl) (fun _ _ _ h => h) (by rfl) (fun w' hw' => ?_) ?_
        rotate_left
        · go_simp; try with_reducible rfl
        try simp only [List.getElem_toArray, List.getElem_cons_succ, List.getElem_cons_zero, Act.put, List.setIfInBounds_toArray, List.set_cons_zero, List.set_cons_succ]
        refine seq_take 19 (v := ?_) rfl (by kernel_rfl) (fun _ _ _ h => h) (by rfl) (fun w' hw' => ?_) ?_
        rotate_left
        · go_simp; try with_reducible rfl
        try simp only [List.getElem_toArray, List.getElem_cons_succ, List.getElem_cons_zero, Act.put, List.setIfInBounds_toArray, List.set_cons_zero, List.set_cons_succ]
        refine seq_done (by kernel_rfl) ?_
        go_wp2_with fail
        go_ret
        refine ⟨?_, HB1.out.1⟩
        rw [← HR.out]
        simp [fitsV, h8]
  by_cases h2 : k = 2
  · subst h2
    go_enter Tryd.func48, Tryd.ntmps48
    go_wp2_with fail
    refine (bare_any' 2 m t ao n cap false true _).mono ?_
    rintro e w1 ⟨rfl, hb1⟩
    have HV1 := HV.out.below hb1
    have c2 := HV1.2.2.1
    have HB1 := Lib.hid (HB.out.trans (hb1.mono HB.out.size))
    clear hb1 HV1
    obtain ⟨q, hq⟩ : ∃ q, ((false || decide (m = 0)) && (true || decide (t = [])) && decide (n = 0)) = q := ⟨_, rfl⟩
    rw [hq]
    have HQ := Lib.hid hq
    clear hq
    have hsz : (ByteArray.mk t.toArray).size = t.length := by rw [ByteArray.size]; simp
    cases q
    all_goals
      go_wp2_with fail
      go_ret
      refine ⟨?_, HB1.out⟩
      rw [← HR.out]
      have := HQ.out
      simp_all [fitsV] <;> (try intros) <;> first | omega | (rw [Bool.eq_iff_iff]; simp; omega)
  by_cases h3 : k = 3
  · subst h3
    go_enter Tryd.func48, Tryd.ntmps48
    go_wp2_with fail
    all_goals
      go_ret
      refine ⟨?_, (Below.refl w.heap.size w).alloc (Nat.le_refl _) _⟩
      rw [← HR.out]
      simp_all [fitsV] <;> (try intros) <;> first | omega | (rw [Bool.eq_iff_iff]; simp; omega)
  by_cases h4 : k = 4
  · subst h4
    go_enter Tryd.func48, Tryd.ntmps48
    go_wp2_with fail
    all_goals
      go_ret
      refine ⟨?_, (Below.refl w.heap.size w).alloc (Nat.le_refl _) _⟩
      rw [← HR.out]
      simp_all [fitsV] <;> (try intros) <;> first | omega | (rw [Bool.eq_iff_iff]; simp; omega)
  by_cases h5 : k = 5
  · subst h5
    go_enter Tryd.func48, Tryd.ntmps48
    go_wp2_with fail
    refine (bare_any' 5 m t ao n cap true false _).mono ?_
    rintro e w1 ⟨rfl, hb1⟩
    have HV1 := HV.out.below hb1
    have c1 := HV1.2.1
    have HB1 := Lib.hid (HB.out.trans (hb1.mono HB.out.size))
    clear hb1 HV1
    obtain ⟨q, hq⟩ : ∃ q, ((true || decide (m = 0)) && (false || decide (t = [])) && decide (n = 0)) = q := ⟨_, rfl⟩
    rw [hq]
    have HQ := Lib.hid hq
    clear hq
    cases q
    all_goals
      go_wp2_with fail
    all_goals
      go_ret
      refine ⟨?_, HB1.out⟩
      rw [← HR.out]
      have := HQ.out
      simp_all [fitsV] <;> (try intros) <;> first | omega | (rw [Bool.eq_iff_iff]; simp; omega)
  by_cases h6 : k = 6
  · subst h6
    go_enter Tryd.func48, Tryd.ntmps48
    go_wp2_with fail
    refine (bare_any' 6 m t ao n cap false false _).mono ?_
    rintro e w1 ⟨rfl, hb1⟩
    have HB1 := Lib.hid (HB.out.trans (hb1.mono HB.out.size))
    clear hb1
    go_wp2_with fail
    go_ret
    refine ⟨?_, HB1.out⟩
    rw [← HR.out]
    simp [fitsV]
  · have d0 : (k == 0) = false := by simpa using h0
    have d1 : (k == 1) = false := by simpa using h1
    have d2 : (k == 2) = false := by simpa using h2
    have d3 : (k == 3) = false := by simpa using h3
    have d4 : (k == 4) = false := by simpa using h4
    have d5 : (k == 5) = false := by simpa using h5
    have d6 : (k == 6) = false := by simpa using h6
    have HF := Lib.hid (show fitsV floatOk k m t n = false by unfold fitsV; simp [h0, h1, h2, h3, h4, h5, h6])
    clear h0 h1 h2 h3 h4 h5 h6
    go_enter Tryd.func48, Tryd.ntmps48
    go_wp2_with fail
    go_ret
    exact ⟨by rw [← HR.out, HF.out]; rfl, HB.out⟩
end Go.Proofs.YtpeehagaiofobaaDoor
