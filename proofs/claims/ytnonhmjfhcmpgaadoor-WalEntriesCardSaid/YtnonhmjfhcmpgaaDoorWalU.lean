/- The walk of the document's Scan, over a log's sectors in order. -/
import Derived.Test.YtnonhmjfhcmpgaaDoorWalT
import Derived.Test.YtnonhmjfhcmpgaaDoorWalM
namespace Go.Proofs.YtnonhmjfhcmpgaaDoor
open Go.RowKit

theorem str_app1b (l : List UInt8) : (⟨#[68]⟩ ++ ⟨l.toArray⟩ : ByteArray) = ⟨(68 :: l).toArray⟩ := str_app [68] l
/-- The sectors' texts. -/
def SecsAt (w : World) (lo : Option Addr) (sec : Nat → List UInt8) : Prop := ∃ b o, lo = some ⟨b, o, none⟩ ∧ b < w.heap.size ∧ ∀ k, k < 14 → w.cell? ⟨b, o + k, none⟩ = some (.string ⟨(sec k).toArray⟩)
theorem SecsAt.below {w w' : World} {lo : Option Addr} {sec : Nat → List UInt8} (h : SecsAt w lo sec) (hb : Below w.heap.size w w') : SecsAt w' lo sec := by
  obtain ⟨b, o, e, hlt, hc⟩ := h
  have hs := hb.size
  exact ⟨b, o, e, by omega, fun k hk => (World.cell?_of_block (a := ⟨b, o + k, none⟩) (hb.block b hlt)).trans (hc k hk)⟩
theorem secF_cut (a n : Nat) (b : List UInt8) (hl : (secF a n b).length = 512) : ∃ rest, ByteArray.extract ⟨(secF a n b).toArray⟩ 1 512 = ⟨(enc a ++ (enc n ++ (enc b.length ++ (enc (crc b : Nat) ++ rest)))).toArray⟩ := by
  obtain ⟨rest, h⟩ := secF_drop a n b
  refine ⟨rest, ?_⟩
  rw [← h, ← exd_drop, hl]
theorem slice_slh {w : World} {ops : Array Oper} {rest : List Oper} {o : Oper} {a : Act} {Q : Exit → Act → World → Prop} (hgd : Region.wanted o (yielded ops a.tmps) = true) (x lo hi : Operand) (ho : o.op = .slice 9 x (some lo) (some hi) none)
    (l m : List UInt8) (i j : Nat) (zi zj : Int) (hi0 : zi = i) (hj0 : zj = j) (hx : a.eval x = .string ⟨l.toArray⟩) (hl : a.eval lo = .int .i64 zi) (hh : a.eval hi = .int .i64 zj) (h1 : i ≤ j) (h2 : j ≤ l.length) (hm : (l.drop i).take (j - i) = m)
    (h : wpList Tryd.prog ops Q rest (a.put o.dst (.string ⟨m.toArray⟩)) w) : wpList Tryd.prog ops Q (o :: rest) a w := by
  subst hi0
  subst hj0
  subst hm
  refine wpList_go hgd fun K hK => ?_
  have hsz : (ByteArray.mk l.toArray).size = l.length := by rw [ByteArray.size]; simp
  have hr : (Instr.sliceAt 9 (.string ⟨l.toArray⟩) (some (.int .i64 (i : Int))) (some (.int .i64 (j : Int))) none).run Tryd.prog w = .ok (.string ⟨((l.drop i).take (j - i)).toArray⟩) w := by
    rw [run_sliceAt_string _ 9 _ _ _ _ (by kernel_rfl), run_slice_string _ _ _ _ _ _ _ (by kernel_rfl) (by omega) (by omega) (by omega)]
    rw [Int.toNat_natCast, Int.toNat_natCast, ByteArray.extract_mk]
  unfold Oper.wp execOp
  simp only [ho, hx, hl, hh, Option.map_some, Option.map_none, hr, Sem.run_bind, Sem.run_pure, Result.andThen_ok]
  exact hK _ _ h
theorem app_strs {w : World} {ops : Array Oper} {rest : List Oper} {o : Oper} {a : Act} {Q : Exit → Act → World → Prop} (hgd : Region.wanted o (yielded ops a.tmps) = true) (s x : Operand)
    (ho : o.op = .call { callee := .builtin .append, args := #[s, x], argTypes := #[48, 48] })
    (base : Nat) (ao : Option Addr) (cap n : Nat) (l : List (List UInt8)) (hs : a.eval s = .slice ao n cap) (hown : w.ownsRow base 9 1 (.slice ao n cap) n (strsV l))
    (bo : Option Addr) (m c : Nat) (l' : List (List UInt8)) (hx : a.eval x = .slice bo m c) (hat : At w bo (strsV l')) (hm : l'.length = m)
    (hb : n + m ≤ 1000000000) (hbase : base ≤ w.heap.size)
    (h : ∀ ao' cap' w', w'.ownsRow base 9 1 (.slice ao' (n + m) cap') (n + m) (strsV (l ++ l')) → w.grownBy w' (blk ao) → (blk ao' = blk ao ∨ blk ao' = some w.heap.size) → wpList Tryd.prog ops Q rest (a.put o.dst (.slice ao' (n + m) cap')) w') : wpList Tryd.prog ops Q (o :: rest) a w :=
  wpList_go hgd fun _ hK => wp_strs s x ho base ao cap n l hs hown bo m c l' hx hat hm hb hbase fun ao' cap' w' h1 h2 h3 => hK _ _ (h ao' cap' w' h1 h2 h3)

set_option maxRecDepth 100000 in
set_option maxHeartbeats 4000000 in
theorem scan_any {sec : Nat → List UInt8} {age e : Nat} {recs : List (List UInt8)} (hinv : LogInv sec 14 age recs e) (hage : age ≤ 1000000000) (h512 : ∀ k, k < 14 → (sec k).length = 512) (lo : Option Addr) (cap : Nat) (w : World) (hat : SecsAt w lo sec) :
    Calls Tryd.prog 27 #[.slice lo 14 cap] w (fun x w' => ∃ so scap, x = .returned (.tuple #[.int .i64 (age : Int), .slice so recs.length scap, .int .i64 (e : Int)]) ∧ At w' so (strsV recs) ∧ Below w.heap.size w w') := by
  have HS := Lib.hid hat
  have HI := Lib.hid hinv
  have HL := Lib.hid h512
  have hpos := hinv.pos
  have hle := hinv.le
  have htwo := hinv.two
  obtain ⟨a0, a1, ha0, ha1, hmax⟩ := hinv.heads
  have HH := Lib.hid (And.intro ha0 (And.intro ha1 (show max (a0 : Int) (a1 : Int) = (age : Int) by omega)))
  have ha0le : a0 ≤ age := by omega
  have ha1le : a1 ≤ age := by omega
  have hne0 : ((age : Int) == 0) = false := by simp; omega
  obtain ⟨lb, lof, rfl, hlb, hcells⟩ := hat
  have HCL := Lib.hid hcells
  clear hinv ha0 ha1 hmax h512 hcells
  go_enter Tryd.func27, Tryd.ntmps27
  go_wp2_with fail
  refine seq_start (by kernel_rfl) ?_
  refine seq_take 0 (v := ?_) rfl (by kernel_rfl) (fun _ _ _ h => h) (by rfl) (fun w' hw' => ?_) ?_
  rotate_left
  · go_simp; try with_reducible rfl
  try simp only [List.getElem_toArray, List.getElem_cons_succ, List.getElem_cons_zero, Act.put, List.setIfInBounds_toArray, List.set_cons_zero, List.set_cons_succ]
  refine seq_take 1 (v := ?_) rfl (by kernel_rfl) (fun _ _ _ h => h) (by rfl) (fun w' hw' => ?_) ?_
  rotate_left
  · go_simp; try with_reducible rfl
  try simp only [List.getElem_toArray, List.getElem_cons_succ, List.getElem_cons_zero, Act.put, List.setIfInBounds_toArray, List.set_cons_zero, List.set_cons_succ]
  refine seq_take 2 rfl (by kernel_rfl) (fun _ _ _ h => h) (by rfl) (seq_lds rfl rfl ((show w.drew.cell? ⟨lb, lof, none⟩ = _ from HCL.out 0 (by decide)))) ?_
  try simp only [List.getElem_toArray, List.getElem_cons_succ, List.getElem_cons_zero, Act.put, List.setIfInBounds_toArray, List.set_cons_zero, List.set_cons_succ]
  refine seq_take 4 (v := ?_) rfl (by kernel_rfl) (fun _ _ _ h => h) (by rfl) (fun w' hw' => ?_) ?_
  rotate_left
  · go_simp; try with_reducible rfl
  try simp only [List.getElem_toArray, List.getElem_cons_succ, List.getElem_cons_zero, Act.put, List.setIfInBounds_toArray, List.set_cons_zero, List.set_cons_succ]
  refine seq_take 5 (v := ?_) rfl (by kernel_rfl) (fun _ _ _ h => h) (by rfl) (fun w' hw' => ?_) ?_
  rotate_left
  · go_simp; try with_reducible rfl
  try simp only [List.getElem_toArray, List.getElem_cons_succ, List.getElem_cons_zero, Act.put, List.setIfInBounds_toArray, List.set_cons_zero, List.set_cons_succ]
  refine seq_take 6 rfl (by kernel_rfl) (fun _ _ _ h => h) (by rfl) (seq_lds rfl rfl ((show w.drew.cell? ⟨lb, lof + 1, none⟩ = _ from HCL.out 1 (by decide)))) ?_
  try simp only [List.getElem_toArray, List.getElem_cons_succ, List.getElem_cons_zero, Act.put, List.setIfInBounds_toArray, List.set_cons_zero, List.set_cons_succ]
  refine seq_run 3 rfl (by kernel_rfl) (by rfl) (fun KK hKK => ?_)
  go_wp2_with fail
  refine (refageof_any (sec 0) a0 HH.out.1 (by omega) w.drew).mono ?_
  rintro x w1 ⟨rfl, hb1⟩
  have H1 := Lib.hid hb1
  clear hb1
  go_wp2_with fail
  refine ⟨H1.out, ?_⟩
  refine seq_run 7 rfl (by kernel_rfl) (by rfl) (fun KK hKK => ?_)
  go_wp2_with fail
  refine (refageof_any (sec 1) a1 HH.out.2.1 (by omega) w1).mono ?_
  rintro x w2 ⟨rfl, hb2⟩
  have H2 := Lib.hid hb2
  have HB2 := Lib.hid (below_drew (H1.out.trans (hb2.mono H1.out.size)))
  have hsz2 := HB2.out.size
  clear hb2
  go_wp2_with fail
  refine ⟨H2.out, ?_⟩
  refine seq_take 8 rfl (by kernel_rfl) (fun _ _ _ h => h) (by rfl) (yields_max2 rfl rfl rfl (HH.out.2.2)) ?_
  try simp only [List.getElem_toArray, List.getElem_cons_succ, List.getElem_cons_zero, Act.put, List.setIfInBounds_toArray, List.set_cons_zero, List.set_cons_succ]
  refine seq_take 9 (v := ?_) rfl (by kernel_rfl) (fun _ _ _ h => h) (by rfl) (fun w' hw' => ?_) ?_
  rotate_left
  · go_simp; try with_reducible rfl
  try simp only [List.getElem_toArray, List.getElem_cons_succ, List.getElem_cons_zero, Act.put, List.setIfInBounds_toArray, List.set_cons_zero, List.set_cons_succ]
  refine seq_done (by kernel_rfl) ?_
  go_wp2_with fail
  clear hne0
  go_loopw [6, 7] (fun v6 v7 wr => ∃ (k p : Nat) (so : Option Addr) (scap : Nat), k ≤ recs.length ∧ v6 = .slice so k scap ∧ v7 = .int .i64 (p : Int) ∧ Hid (Recs sec age 2 0 (recs.take k) p) ∧ wr.ownsRow w.heap.size 9 1 (.slice so k scap) k (strsV (recs.take k)) ∧ Below w.heap.size w wr) (fun v _ _ => recs.length - lenV v)
  case atStart => exact ⟨0, 2, none, 0, Nat.zero_le _, rfl, rfl, Lib.hid rfl, World.ownsRow_nil _ _ _ _, HB2.out⟩
  case round =>
    obtain ⟨k, p, so, scap, hk, rfl, rfl, HRecs, hown, hbr⟩ := hrel
    have HO := Lib.hid (And.intro hown hbr)
    have hszr := hbr.size
    have hpge : 2 + k ≤ p := by
      have := HRecs.out.ge
      rw [List.length_take, Nat.min_eq_left hk] at this
      exact this
    clear hown hbr
    by_cases hlt : k < recs.length
    · obtain ⟨hra, hrl, hrn, hre⟩ := Recs.head hlt HRecs.out HI.out.recs
      have hnp := needN_pos recs[k].length
      have hp14 : p < 14 := by omega
      obtain ⟨b, hb⟩ : ∃ b, recs[k] = b := ⟨_, rfl⟩
      rw [hb] at hra hrl hrn hre hnp
      rw [Nat.zero_add] at hra
      have HB := Lib.hid hb
      have HRA := Lib.hid (And.intro hra hrn)
      have hl512 := HL.out p hp14
      have hcell := HCL.out p hp14
      rw [hra.1] at hl512 hcell
      obtain ⟨rest, hcut⟩ := secF_cut age k b hl512
      have hix : (secF age k b).head? = some 72 := secF_head _ _ _
      obtain ⟨c, hc⟩ : ∃ c, secF age k b = c := ⟨_, rfl⟩
      rw [hc] at hl512 hcell hcut hix
      have HC := Lib.hid hc
      have hsz : (ByteArray.mk c.toArray).size = 512 := by rw [str_len, hl512]
      have hx0 : (ByteArray.mk c.toArray)[0]'(by omega) = 72 := by
        rw [str_idx c 0 (by omega)]
        have := List.head?_eq_getElem? (l := c)
        rw [hix, List.getElem?_eq_getElem (by omega)] at this
        exact (Option.some.inj this).symm
      replace hcell := (World.cell?_of_block (a := ⟨lb, lof + p, none⟩) (HO.out.2.block lb hlb)).trans hcell
      have hd1 : decide ((p : Int) < 14) = true := decide_eq_true (by omega)
      clear hb hra hrn hc hix
      go_wp2_with fail
      clear hcut hx0
      have hbA : Below wr.heap.size wr (wr.alloc (.cells #[.string ⟨(enc age ++ (enc k ++ (enc b.length ++ (enc (crc b : Nat) ++ rest)))).toArray⟩, .int .i64 0] 97)) := (Below.refl _ wr).alloc (Nat.le_refl _) _
      have hrA := RefAt.new wr (enc age ++ (enc k ++ (enc b.length ++ (enc (crc b : Nat) ++ rest))))
      generalize hgi : wr.heap.size = gi at *
      generalize hwA : (wr.alloc (.cells #[.string ⟨(enc age ++ (enc k ++ (enc b.length ++ (enc (crc b : Nat) ++ rest)))).toArray⟩, .int .i64 0] 97)) = wA at *
      have hszA : gi < wA.heap.size := by rw [← hwA]; simp; omega
      have HBA := Lib.hid hbA
      have HGI := Lib.hid hgi
      have hcl := crc_lt b
      clear hwA hbA hgi
      refine (rnum_any gi _ 1 4611686018427387904 wA hrA).mono ?_
      rintro x w3 ⟨rfl, hin3, hg3⟩
      rw [numR_enc 1 4611686018427387904 age _ (by omega) (by omega) (by omega)] at hin3 ⊢
      have H3 := Lib.hid (And.intro hin3 (HBA.out.grown hg3 (by omega) (fun q hq => by cases hq; exact Nat.le_refl _)))
      have hsz3 := hg3.size
      clear hin3 hg3 hrA
      go_wp2_with fail
      refine (rnum_any gi _ 0 4611686018427387904 w3 H3.out.1).mono ?_
      rintro x w4 ⟨rfl, hin4, hg4⟩
      rw [numR_enc 0 4611686018427387904 k _ (by omega) (by omega) (by omega)] at hin4 ⊢
      have H4 := Lib.hid (And.intro hin4 (H3.out.2.grown hg4 (by omega) (fun q hq => by cases hq; exact Nat.le_refl _)))
      have hsz4 := hg4.size
      clear hin4 hg4
      go_wp2_with fail
      refine (rnum_any gi _ 0 16777216 w4 H4.out.1).mono ?_
      rintro x w5 ⟨rfl, hin5, hg5⟩
      rw [numR_enc 0 16777216 b.length _ (by omega) (by omega) (by omega)] at hin5 ⊢
      have H5 := Lib.hid (And.intro hin5 (H4.out.2.grown hg5 (by omega) (fun q hq => by cases hq; exact Nat.le_refl _)))
      have hsz5 := hg5.size
      clear hin5 hg5
      go_wp2_with fail
      refine (rnum_any gi _ 0 4294967296 w5 H5.out.1).mono ?_
      rintro x w6 ⟨rfl, hin6, hg6⟩
      rw [numR_enc 0 4294967296 (crc b) _ (by omega) (by omega) (by omega)] at hin6 ⊢
      have hb6 : Below w.heap.size w w6 := HO.out.2.trans ((by rw [HGI.out]; exact H5.out.2.grown hg6 (by omega) (fun q hq => by cases hq; exact Nat.le_refl _) : Below wr.heap.size wr w6).mono (by rw [HGI.out]; exact hszr))
      have hown6 := owns_below HO.out.1 (by rw [HGI.out]; exact H5.out.2.grown hg6 (by omega) (fun q hq => by cases hq; exact Nat.le_refl _) : Below wr.heap.size wr w6)
      have H6 := Lib.hid (And.intro hown6 hb6)
      have hc1 := hin6.c1
      simp only at hc1
      have hsz6 := hb6.size
      clear hin6 hg6 hown6 hb6
      have hd2 : decide ((14 : Int) - (p : Int) < (needN b.length : Int)) = false := decide_eq_false (by omega)
      go_wp2_with fail
      refine (refneed_any b.length (by omega) w6).mono ?_
      rintro x w7 ⟨rfl, rfl⟩
      go_wp2_with fail
      clear hc1 hd2
      go_loopw [13, 14, 15] (fun v13 v14 v15 wr => ∃ (j q : Nat) (ao : Option Addr) (capq : Nat), j ≤ nparts b.length ∧ Hid (q = (b.take (511 * j)).length) ∧ v15 = .int .i64 (((j + 1 : Nat)) : Int) ∧ v14 = .bool true ∧ v13 = .slice ao q capq ∧ wr.ownsRow w6.heap.size 5 1 (.slice ao q capq) q (bytesV (b.take (511 * j))) ∧ Below w6.heap.size w6 wr) (fun _ _ v15 _ => needN b.length + 1 - (intOf v15).toNat)
      case atStart => exact ⟨0, 0, none, 0, Nat.zero_le _, Lib.hid (by simp), rfl, rfl, rfl, World.ownsRow_nil _ _ _ _, Below.refl _ _⟩
      case round =>
        obtain ⟨j, q, ao, capq, hj, HQ, rfl, rfl, rfl, hown, hbr⟩ := hrel
        have HOB := Lib.hid (And.intro hown hbr)
        have hszr := hbr.size
        have HNP := Lib.hid (show needN b.length = 1 + nparts b.length from rfl)
        clear hown hbr
        go_wp2_with fail
        refine (refneed_any b.length (by omega) wr).mono ?_
        rintro x w8 ⟨rfl, rfl⟩
        by_cases hjl : j < nparts b.length
        · have hcond : decide ((j : Int) + 1 < (needN b.length : Int)) = true := decide_eq_true (by have := HNP.out; omega)
          have hjb : j ≤ 14 := by have := HNP.out; omega
          have hpj : p + (j + 1) < 14 := by have := HNP.out; omega
          have hcellP := HCL.out (p + (j + 1)) (by have := HNP.out; omega)
          have hsj := HRA.out.1.2 j hjl
          rw [show p + 1 + j = p + (j + 1) by omega] at hsj
          rw [hsj] at hcellP
          have hpl := secP_length b j
          have HPC := Lib.hid (secP_take b j)
          have hatj : (secP b j) = padZ (68 :: chunk b j) := rfl
          have HATJ := Lib.hid hatj
          obtain ⟨cp, hcp⟩ : ∃ cp, secP b j = cp := ⟨_, rfl⟩
          rw [hcp] at hcellP hpl HPC HATJ
          replace hcellP := (World.cell?_of_block (a := ⟨lb, lof + (p + (j + 1)), none⟩) ((H6.out.2.trans (HOB.out.2.mono hsz6)).block lb hlb)).trans hcellP
          obtain ⟨r, hr⟩ : ∃ r, (chunk b j).length = r := ⟨_, rfl⟩
          have HCH := Lib.hid (chunk_length b j)
          have hjlt := nparts_lt hjl
          have hql := HQ.out
          rw [List.length_take] at hql
          have hq : q = 511 * j := by omega
          rw [hr] at HCH HPC
          have hmin : min (511 : Int) ((b.length : Int) - (q : Int)) = (r : Int) := by have := HCH.out; omega
          have hr511 : r ≤ 511 := by have := HCH.out; omega
          have hqb : q ≤ b.length := by omega
          have hszp : (ByteArray.mk cp.toArray).size = 512 := by rw [str_len, hpl]
          have HEX := Lib.hid (show (cp.drop 1).take r = chunk b j from by
            have h3 := congrArg (fun l : List UInt8 => l.drop 1) HPC.out
            simp only [List.drop_take, Nat.add_sub_cancel, List.drop_succ_cons, List.drop_zero] at h3
            exact h3)
          have HPL := Lib.hid hpl
          have HQ2 := Lib.hid (And.intro hq (And.intro hr hmin))
          clear hatj hcp hsj hq hr hql hjlt hmin hpl
          go_upto_region 22 with (refine op_min2 rfl _ _ _ rfl .i64 _ _ (r : Int) rfl rfl HQ2.out.2.2 ?_)
          clear hcellP hcond
          have HCAT := Lib.hid (str_app1b (chunk b j))
          have HCUT := Lib.hid (show (cp.drop 1).take (r + 1 - 1) = chunk b j from HEX.out)
          have hlc : ¬ 9223372036854775807 < 1 + (chunk b j).length := by rw [HQ2.out.2.1]; omega
          go_wp2_with (refine slice_slh rfl _ _ _ rfl cp (chunk b j) 1 (r + 1) _ _ (by rfl) (by omega) rfl rfl rfl (by omega) (by rw [HPL.out]; omega) HCUT.out ?_)
          rw [HCAT.out]
          clear hlc
          refine (refpad_any (68 :: chunk b j) (by simp; rw [HQ2.out.2.1]; omega) wr).mono ?_
          rintro x w9 ⟨rfl, hb9⟩
          rw [← HATJ.out]
          have H9 := Lib.hid (And.intro hb9 (owns_below HOB.out.1 hb9))
          have hsz9 := hb9.size
          clear hb9
          go_wp2_with (first | (refine slice_slh rfl _ _ _ rfl cp (chunk b j) 1 (r + 1) _ _ (by rfl) (by omega) rfl rfl rfl (by omega) (by rw [HPL.out]; omega) HCUT.out ?_) | (at_builtin; refine app_str rfl _ _ rfl w6.heap.size ao capq (b.take (511 * j)) q rfl H9.out.2 ⟨(chunk b j).toArray⟩ rfl (by rw [str_len, HQ2.out.2.1]; omega) (by omega) ?_; rintro ao' cap' w11 ⟨q1, q2, q3⟩))
          go_roundw
          case rel =>
            have hlen : q + r = (b.take (511 * (j + 1))).length := by rw [take_chunk, List.length_append, HQ2.out.2.1, HQ.out]
            rw [show (⟨(chunk b j).toArray⟩ : ByteArray).data.toList = chunk b j from rfl, ← take_chunk] at q1
            rw [← hlen] at q1
            exact ⟨j + 1, q + r, ao', cap', by omega, Lib.hid hlen, by simp, rfl, by rw [HQ2.out.2.1], q1, (HOB.out.2.trans (H9.out.1.mono hszr)).trans (below_grown H9.out.2 (by omega) q2)⟩
          case measure => simp [intOf]; have := HNP.out; omega
        · have hkk : j = nparts b.length := by omega
          subst hkk
          have hcond : decide (((nparts b.length : Nat) : Int) + 1 < (needN b.length : Int)) = false := decide_eq_false (by have := HNP.out; omega)
          have hqb : q = b.length := by rw [HQ.out, nparts_take]
          subst hqb
          have hown := HOB.out.1
          rw [nparts_take] at hown
          have HOB2 := Lib.hid (And.intro hown (And.intro (At.own hown) (owns_below H6.out.1 HOB.out.2)))
          have hbW := H6.out.2.trans (HOB.out.2.mono hsz6)
          have HBW := Lib.hid hbW
          have hszw := hbW.size
          clear hown hbW
          go_wp2_with (refine conv_str rfl _ rfl ao _ capq rfl b HOB2.out.2.1 rfl ?_)
          refine (reffirst_any age k (by omega) (by omega) b (by omega) wr).mono ?_
          rintro x w9 ⟨rfl, hb9⟩
          rw [HC.out]
          have hsz9 := hb9.size
          have H9 := Lib.hid (And.intro hb9 (And.intro (HOB2.out.2.1.below hb9) (owns_below HOB2.out.2.2 hb9)))
          have HBW9 := Lib.hid (HBW.out.trans (hb9.mono hszw))
          clear hb9 hcond
          go_wp2_with (first | (refine conv_str rfl _ rfl ao _ capq rfl b H9.out.2.1 rfl ?_) | (at_builtin; refine app_strs rfl _ _ rfl w.heap.size so scap k (recs.take k) rfl (H9.out.2.2.alloc _) (some ⟨w9.heap.size, 0, none⟩) 1 1 [b] rfl (At.new w9 #[strV b] 9) rfl (by omega) (by simp; omega) ?_; rintro so' scap' w11 q1 q2 q3))
          refine (refneed_any b.length (by omega) w11).mono ?_
          rintro x w12 ⟨rfl, rfl⟩
          go_wp2_with fail
          go_roundw
          case rel =>
            have e1 : recs.take (k + 1) = recs.take k ++ [b] := by rw [List.take_succ_eq_append_getElem hlt, HB.out]
            rw [← e1] at q1
            exact ⟨k + 1, p + needN b.length, so', scap', by omega, rfl, by simp, Lib.hid HRA.out.2, q1, (HBW9.out.alloc (by omega) _).trans (below_grown (H9.out.2.2.alloc _) (by simp; omega) q2)⟩
          case measure => simp [lenV]; omega
    · obtain rfl : k = recs.length := by omega
      have hpe : p = e := by
        have := HRecs.out
        rw [List.take_length] at this
        exact Recs.uniq this HI.out.recs
      subst hpe
      have hown := HO.out.1
      rw [List.take_length] at hown
      have HW := Lib.hid (At.own hown)
      clear hown
      by_cases hcl : p < 14
      · have hold := HI.out.old p (Nat.le_refl _) hcl
        have hl512 := HL.out p hcl
        have hcell := HCL.out p hcl
        replace hcell := (World.cell?_of_block (a := ⟨lb, lof + p, none⟩) (HO.out.2.block lb hlb)).trans hcell
        obtain ⟨c, hc⟩ : ∃ c, sec p = c := ⟨_, rfl⟩
        rw [hc] at hold hl512 hcell
        have hsz : (ByteArray.mk c.toArray).size = 512 := by rw [str_len, hl512]
        have hd1 : decide ((p : Int) < 14) = true := decide_eq_true (by omega)
        obtain ⟨x0, hx0⟩ : ∃ x, c.head? = some x := by
          cases hcc : c with
          | nil => rw [hcc] at hl512; simp at hl512
          | cons x _ => exact ⟨x, rfl⟩
        have hix : (ByteArray.mk c.toArray)[0]'(by omega) = x0 := by
          rw [str_idx c 0 (by omega)]
          have := List.head?_eq_getElem? (l := c)
          rw [hx0, List.getElem?_eq_getElem (by omega)] at this
          exact (Option.some.inj this).symm
        by_cases hx72 : x0 = 72
        · subst hx72
          obtain ⟨a, n, b, ha1, ha2, hn, hb, rfl⟩ : ∃ a n b, 1 ≤ a ∧ a < age ∧ n ≤ 1000000 ∧ b.length ≤ 1000000 ∧ c = secF a n b := by
            rcases hold with h | h
            · exact absurd hx0 h
            · exact h
          obtain ⟨rest, hcut⟩ := secF_cut a n b hl512
          obtain ⟨c, hc2⟩ : ∃ c, secF a n b = c := ⟨_, rfl⟩
          rw [hc2] at hcell hcut
          have hsz2 : (ByteArray.mk c.toArray).size = 512 := by rw [← hc2]; exact hsz
          have hix2 : (ByteArray.mk c.toArray)[0]'(by omega) = 72 := by
            rw [str_idx c 0 (by rw [← hc2]; omega)]
            have := List.head?_eq_getElem? (l := secF a n b)
            rw [hx0, List.getElem?_eq_getElem (by omega)] at this
            simp only [hc2] at this
            exact (Option.some.inj this).symm
          clear hold hx0 hc hix hsz hc2 hl512
          go_wp2_with fail
          clear hcut hix2
          have hbA : Below wr.heap.size wr (wr.alloc (.cells #[.string ⟨(enc a ++ (enc n ++ (enc b.length ++ (enc (crc b : Nat) ++ rest)))).toArray⟩, .int .i64 0] 97)) := (Below.refl _ wr).alloc (Nat.le_refl _) _
          have hrA := RefAt.new wr (enc a ++ (enc n ++ (enc b.length ++ (enc (crc b : Nat) ++ rest))))
          generalize hgi : wr.heap.size = gi at *
          generalize hwA : (wr.alloc (.cells #[.string ⟨(enc a ++ (enc n ++ (enc b.length ++ (enc (crc b : Nat) ++ rest)))).toArray⟩, .int .i64 0] 97)) = wA at *
          have hszA : gi < wA.heap.size := by rw [← hwA]; simp; omega
          have HBA := Lib.hid hbA
          have HGI := Lib.hid hgi
          have hclb := crc_lt b
          clear hwA hbA hgi
          refine (rnum_any gi _ 1 4611686018427387904 wA hrA).mono ?_
          rintro x w3 ⟨rfl, hin3, hg3⟩
          rw [numR_enc 1 4611686018427387904 a _ (by omega) (by omega) (by omega)] at hin3 ⊢
          have H3 := Lib.hid (And.intro hin3 (HBA.out.grown hg3 (by omega) (fun q hq => by cases hq; exact Nat.le_refl _)))
          have hsz3 := hg3.size
          clear hin3 hg3 hrA
          go_wp2_with fail
          refine (rnum_any gi _ 0 4611686018427387904 w3 H3.out.1).mono ?_
          rintro x w4 ⟨rfl, hin4, hg4⟩
          rw [numR_enc 0 4611686018427387904 n _ (by omega) (by omega) (by omega)] at hin4 ⊢
          have H4 := Lib.hid (And.intro hin4 (H3.out.2.grown hg4 (by omega) (fun q hq => by cases hq; exact Nat.le_refl _)))
          have hsz4 := hg4.size
          clear hin4 hg4
          go_wp2_with fail
          refine (rnum_any gi _ 0 16777216 w4 H4.out.1).mono ?_
          rintro x w5 ⟨rfl, hin5, hg5⟩
          rw [numR_enc 0 16777216 b.length _ (by omega) (by omega) (by omega)] at hin5 ⊢
          have H5 := Lib.hid (And.intro hin5 (H4.out.2.grown hg5 (by omega) (fun q hq => by cases hq; exact Nat.le_refl _)))
          have hsz5 := hg5.size
          clear hin5 hg5
          go_wp2_with fail
          refine (rnum_any gi _ 0 4294967296 w5 H5.out.1).mono ?_
          rintro x w6 ⟨rfl, hin6, hg6⟩
          rw [numR_enc 0 4294967296 (crc b) _ (by omega) (by omega) (by omega)] at hin6 ⊢
          have hb6 : Below gi wr w6 := H5.out.2.grown hg6 (by omega) (fun q hq => by cases hq; exact Nat.le_refl _)
          have H6 := Lib.hid (And.intro (HW.out.below (by rw [HGI.out]; exact hb6)) (HO.out.2.trans (hb6.mono hszr)))
          have hc1 := hin6.c1
          simp only at hc1
          clear hin6 hg6 hb6
          have hne : ((a : Int) != (age : Int)) = true := by simp; omega
          go_wp2_with fail
          go_returns
          exact ⟨so, scap, rfl, H6.out.1, H6.out.2⟩
        · have hne : ((x0.toNat : Int) != 72) = true := by
            simp only [bne_iff_ne, ne_eq]
            intro h
            exact hx72 (UInt8.toNat_inj.1 (by rw [show (72 : UInt8).toNat = 72 from rfl]; omega))
          clear hold hx0 hc hx72
          go_wp2_with fail
          go_returns
          exact ⟨so, scap, rfl, HW.out, HO.out.2⟩
      · have hd1 : decide ((p : Int) < 14) = false := decide_eq_false (by omega)
        obtain rfl : p = 14 := by omega
        go_wp2_with fail
        go_returns
        exact ⟨so, scap, rfl, HW.out, HO.out.2⟩
end Go.Proofs.YtnonhmjfhcmpgaaDoor
