/- The walks of ageOf, and of record where there is none. -/
import Derived.Test.YtpeehagaiofobaaDoorWal2
namespace Go.Proofs.YtpeehagaiofobaaDoor
open Go.RowKit

/-- 'b[i:j]', 'b[i:j:m]'. -/
theorem run_slice_ij {P : Program} (w : World) (t : TypeId) (size : Nat) (ht : P.underlying t = some (.slice (P.elem t))) (hs : (P.info? (P.elem t)).map (·.size) = some size) (ao : Option Addr) (n cap i j : Nat) (h1 : i ≤ j) (h2 : j ≤ cap) :
    (Instr.sliceAt t (.slice ao n cap) (some (.int .i64 (i : Int))) (some (.int .i64 (j : Int))) none).run P w = .ok (.slice (if cap = i then ao else ao.map (·.add (i * size))) (j - i) (cap - i)) w := by
  obtain ⟨i0, hi, rfl⟩ := Option.map_eq_some_iff.1 hs
  rw [run_sliceAt_slice w t _ _ _ _ ht, run_slice_lh w t ao n cap ht .i64 .i64 (i : Int) (j : Int) (by omega) (by omega) (by omega)]
  simp [sizeOf, typeInfo, hi, sliced]
theorem run_slice_ijm {P : Program} (w : World) (t : TypeId) (size : Nat) (ht : P.underlying t = some (.slice (P.elem t))) (hs : (P.info? (P.elem t)).map (·.size) = some size) (ao : Option Addr) (n cap i j m : Nat) (h1 : i ≤ j) (h2 : j ≤ m) (h3 : m ≤ cap) :
    (Instr.sliceAt t (.slice ao n cap) (some (.int .i64 (i : Int))) (some (.int .i64 (j : Int))) (some (.int .i64 (m : Int)))).run P w = .ok (.slice (if m = i then ao else ao.map (·.add (i * size))) (j - i) (m - i)) w := by
  obtain ⟨i0, hi, rfl⟩ := Option.map_eq_some_iff.1 hs
  rw [run_sliceAt_slice w t _ _ _ _ ht, run_slice_lhm w t ao n cap ht .i64 .i64 .i64 (i : Int) (j : Int) (m : Int) (by omega) (by omega) (by omega) (by omega)]
  simp [sizeOf, typeInfo, hi, sliced]
theorem slice_lh {w : World} {ops : Array Oper} {rest : List Oper} {o : Oper} {a : Act} {Q : Exit → Act → World → Prop} (hgd : Region.wanted o (yielded ops a.tmps) = true) (x lo hi : Operand) (ho : o.op = .slice 40 x (some lo) (some hi) none)
    (ao : Option Addr) (n cap i j : Nat) (hx : a.eval x = .slice ao n cap) (hl : a.eval lo = .int .i64 (i : Int)) (hh : a.eval hi = .int .i64 (j : Int)) (h1 : i ≤ j) (h2 : j ≤ cap)
    (h : wpList Tryd.prog ops Q rest (a.put o.dst (.slice (tailOf ao cap i) (j - i) (cap - i))) w) : wpList Tryd.prog ops Q (o :: rest) a w := by
  refine wpList_go hgd fun K hK => ?_
  have hr := run_slice_ij (P := Tryd.prog) w 40 1 elemB sizeB ao n cap i j h1 h2
  rw [Nat.mul_one] at hr
  unfold Oper.wp execOp
  simp only [ho, hx, hl, hh, Option.map_some, Option.map_none, hr, Sem.run_bind, Sem.run_pure, Result.andThen_ok]
  exact hK _ _ h

theorem readE_on (s : DS) (hoff : s.off = false) (hW : s.W = []) (f k : Nat) (h : f + k < s.L.length) : s.readE ((f + k : Nat) : Int) = (0, secOf s.L f k) := by
  unfold DS.readE
  have hin : inR ((f + k : Nat) : Int) s.L.length = true := decide_eq_true ⟨by omega, by omega⟩
  rw [hoff, if_neg (by decide), hin, if_neg (by decide)]
  unfold DS.read secOf
  rw [hW, Int.toNat_natCast]
  rfl
theorem zeros_length : zeros.length = 512 := List.length_replicate
theorem secOf_length {s : DS} (h : s.ok) (f k : Nat) : (secOf s.L f k).length = 512 := by
  unfold secOf
  rw [List.getD_eq_getElem?_getD]
  cases hl : s.L[f + k]? with
  | none => exact zeros_length
  | some o =>
    cases o with
    | none => exact zeros_length
    | some b => exact h.2.1 b (List.mem_of_getElem? hl)

theorem zz_nat (a : Nat) : zz (a : Int) = 2 * a := by unfold zz; rw [if_pos (by omega)]; omega
theorem unzz_2 (a : Nat) : unzz (2 * a) = (a : Int) := by unfold unzz; rw [if_pos (by omega)]; omega
/-- A number's bytes are read as it. -/
theorem numR_enc (lo hi : Int) (a : Nat) (rest : List UInt8) (h1 : lo ≤ a) (h2 : (a : Int) ≤ hi) (h3 : a < 9223372036854775808) : numR lo hi (enc a ++ rest, 0) = ((a : Int), (rest, 0)) := by
  have hr : raw (enc a ++ rest) = (2 * a, (enc (a : Int)).length, 0) := by
    unfold enc
    rw [raw_numB _ _ (by rw [zz_nat]; omega), zz_nat]
  unfold numR
  simp only [ne_eq, not_true_eq_false, if_false, hr, unzz_2]
  rw [if_neg (by omega), List.drop_left]

theorem bytesV_head (c : List UInt8) (x : UInt8) (h : c.head? = some x) : (bytesV c)[0]? = some (u8v x) := by
  cases c with
  | nil => simp at h
  | cons y c => simp at h; subst h; rfl

theorem prefix_any (so bo : Option Addr) (scap bcap n : Nat) (c p : List UInt8) (hc : c.length = 512) (hs : 512 ≤ scap) (hp : p.length = n) (hn : n ≤ 512) (w : World) (hat : At w so (bytesV c)) (hbt : At w bo (bytesV p)) :
    Calls Tryd.prog 44 #[.slice so 512 scap, .slice bo n bcap] w (fun e w' => e = .returned (.bool (decide (c.take n = p))) ∧ w = w') := by
  have HA := Lib.hid (And.intro hat hbt)
  have hle : decide ((n : Int) ≤ 512) = true := decide_eq_true (by omega)
  have HC := Lib.hid (And.intro hc hp)
  clear hat hbt hc hp
  go_enter Tryd.func44, Tryd.ntmps44
  go_wp2_with fail
  refine (bytesEq_any so bo (c.take n) p scap bcap n n w (by simp [HC.out.1]; omega) HC.out.2.symm (HA.out.1.takeB n) HA.out.2).mono ?_
  rintro e w1 ⟨rfl, rfl⟩
  go_wp2_with fail
  go_ret
  exact ⟨rfl, rfl⟩

theorem secH_take (a : Nat) : (secH a).take 2 = [76, 71] := rfl
theorem secH_drop (a : Nat) : ∃ rest, (secH a).drop 2 = enc a ++ rest := by
  refine ⟨four (crc ([76, 71] ++ enc a)) ++ List.replicate (512 - (headL a).length) 0, ?_⟩
  simp [secH, padZ, headL, closedL]
theorem zeros_take : zeros.take 2 ≠ [76, 71] := by decide
theorem headIs_length {c : List UInt8} {a : Nat} (h : HeadIs c a) (ha : a ≤ 4611686018427387904) : c.length = 512 := by
  rcases h with ⟨_, rfl⟩ | ⟨_, rfl⟩
  · exact zeros_length
  · exact secH_length a (by omega)

set_option maxRecDepth 100000 in
set_option maxHeartbeats 1000000 in
theorem ageOf_any (so : Option Addr) (scap : Nat) (c : List UInt8) (a : Nat) (hc : HeadIs c a) (hs : 512 ≤ scap) (ha : a ≤ 1000000000) (w : World) (hat : At w so (bytesV c)) (ht : Tab w) :
    Calls Tryd.prog 21 #[.slice so 512 scap] w (Says w (.int .i64 (a : Int))) := by
  have HT := Lib.hid ht
  have HA := Lib.hid hat
  have HL := Lib.hid (headIs_length hc (by omega))
  have HC := Lib.hid hc
  have kc := conv_const
  clear hat ht hc
  go_enter Tryd.func21, Tryd.ntmps21
  go_wp2_with fail
  have hat0 : At (w.alloc (.cells #[.int .u8 76, .int .u8 71] 5 (2, 3))) (some ⟨w.heap.size, 0, none⟩) (bytesV [76, 71]) := At.new w _ _ (2, 3)
  generalize hW : w.alloc (.cells #[.int .u8 76, .int .u8 71] 5 (2, 3)) = W at *
  have hbW : Below w.heap.size w W := by rw [← hW]; exact (Below.refl _ w).alloc (Nat.le_refl _) _
  have H0 := Lib.hid (And.intro hat0 hbW)
  have hszW := hbW.size
  clear kc hat0 hW hbW
  refine (prefix_any so _ scap 2 2 c [76, 71] HL.out hs rfl (by omega) W (HA.out.below H0.out.2) H0.out.1).mono ?_
  rintro e w' ⟨rfl, rfl⟩
  rcases HC.out with ⟨rfl, rfl⟩ | ⟨h1, rfl⟩
  · rw [decide_eq_false zeros_take]
    go_wp2_with fail
    go_returns
    exact ⟨rfl, H0.out.2⟩
  · rw [decide_eq_true (secH_take a)]
    obtain ⟨rest, hrest⟩ := secH_drop a
    have HR := Lib.hid hrest
    clear hrest
    have h510 : ((secH a).drop 2).length = 510 := by rw [List.length_drop, HL.out]
    have HATD := Lib.hid (show At W (tailOf so scap 2) (bytesV ((secH a).drop 2)) from (HA.out.below H0.out.2).dropB scap 2 (by rw [HL.out]; exact hs))
    have H510 := Lib.hid h510
    clear h510
    go_wp2_with (refine slice_lo rfl _ _ rfl so 512 scap 2 rfl rfl (by omega) ?_)
    have hop := open_any (tailOf so scap 2) ((secH a).drop 2) (scap - 2) (by rw [H510.out]; omega) W HATD.out
    rw [H510.out] at hop
    refine hop.mono ?_
    clear hop
    rintro e w2 ⟨gi, rfl, hgi, hin, hb2⟩
    rw [HR.out] at hin
    have H2 := Lib.hid (And.intro hgi (And.intro hin hb2))
    have hsz2 := hb2.size
    clear hgi hin hb2
    go_wp2_with fail
    refine (inum_any gi (enc a ++ rest, 0) 1 4611686018427387904 w2 H2.out.2.1).mono ?_
    rintro e w3 ⟨rfl, hin3, hg3⟩
    rw [numR_enc 1 4611686018427387904 a rest (by omega) (by omega) (by omega)]
    have hb3 : Below w.heap.size w w3 := (H0.out.2.trans (H2.out.2.2.mono hszW)).grown hg3 (by omega) (fun k hk => by cases hk; have := H2.out.1; omega)
    have H3 := Lib.hid hb3
    have hsz3 := hb3.size
    clear hin3 hg3 hb3
    have hne : ((a : Int) == 0) = false := by simp; omega
    go_wp2_with fail
    refine (head_any a (by omega) w3 (HT.out.below H3.out)).mono ?_
    rintro e w4 ⟨ho, hcap, rfl, hown4, hb4⟩
    have HH := Lib.hid (headL_length a (by omega))
    have H4 := Lib.hid (And.intro (At.own hown4) (H3.out.trans (hb4.mono hsz3)))
    clear hown4 hb4
    go_wp2_with fail
    refine (is_any so ho scap hcap _ (secH a) (headL a) HL.out hs rfl (by have := HH.out; omega) w4 (HA.out.below H4.out.2) H4.out.1).mono ?_
    rintro e w5 ⟨rfl, hb5⟩
    rw [decide_eq_true (show secH a = padZ (headL a) from rfl)]
    have H5 := Lib.hid (H4.out.2.trans (hb5.mono H4.out.2.size))
    clear hb5
    go_wp2_with fail
    go_returns
    exact ⟨rfl, H5.out⟩

end Go.Proofs.YtpeehagaiofobaaDoor
