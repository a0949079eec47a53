/- Logs, in plain Lean: what a disk's sectors say, what appending and truncating leave, whenever the power goes. No program in sight. -/
import Derived.Test.YtpeehagaiofobaaDoorDisk4
import Derived.Test.YtpeehagaiofobaaDoorCrcP
import Derived.Test.YtpeehagaiofobaaDoorRead
namespace Go.Proofs.YtpeehagaiofobaaDoor
open Go.RowKit

/-- Noughts up to a sector's end. -/
def padZ (l : List UInt8) : List UInt8 := l ++ List.replicate (512 - l.length) 0
def closedL (l : List UInt8) : List UInt8 := l ++ four (crc l)
def headL (a : Nat) : List UInt8 := closedL ([76, 71] ++ enc a)
def firstC (a n : Nat) (b : List UInt8) : List UInt8 := enc a ++ enc n ++ enc b.length ++ enc (crc b)
def firstL (a n : Nat) (b : List UInt8) : List UInt8 := 72 :: closedL (firstC a n b)
def chunk (b : List UInt8) (k : Nat) : List UInt8 := (b.drop (511 * k)).take 511
def nparts (n : Nat) : Nat := (n + 510) / 511
def needN (n : Nat) : Nat := 1 + nparts n
/-- The sectors: of a head, of a record's first, of its bytes. -/
def secH (a : Nat) : List UInt8 := padZ (headL a)
def secF (a n : Nat) (b : List UInt8) : List UInt8 := padZ (firstL a n b)
def secP (b : List UInt8) (k : Nat) : List UInt8 := padZ (68 :: chunk b k)

theorem padZ_length (l : List UInt8) (h : l.length ≤ 512) : (padZ l).length = 512 := by simp [padZ]; omega
theorem four_length (n : Nat) : (four n).length = 4 := rfl
theorem closedL_length (l : List UInt8) : (closedL l).length = l.length + 4 := by simp [closedL, four_length]
theorem headL_length (a : Nat) (h : a ≤ 9223372036854775807) : (headL a).length ≤ 16 := by
  have := enc_len (a : Int) (by omega) (by omega)
  rw [headL, closedL_length, List.length_append]
  simp only [List.length_cons, List.length_nil]
  omega
theorem firstC_length (a n : Nat) (b : List UInt8) (ha : a ≤ 9223372036854775807) (hn : n ≤ 9223372036854775807) (hb : b.length ≤ 9223372036854775807) : (firstC a n b).length ≤ 40 := by
  have h1 := enc_len (a : Int) (by omega) (by omega)
  have h2 := enc_len (n : Int) (by omega) (by omega)
  have h3 := enc_len (b.length : Int) (by omega) (by omega)
  have h4 := enc_len (crc b : Int) (by omega) (by have := crc_lt b; omega)
  rw [firstC]
  simp only [List.length_append]
  omega
theorem firstL_length (a n : Nat) (b : List UInt8) (ha : a ≤ 9223372036854775807) (hn : n ≤ 9223372036854775807) (hb : b.length ≤ 9223372036854775807) : (firstL a n b).length ≤ 45 := by
  have := firstC_length a n b ha hn hb
  rw [firstL, List.length_cons, closedL_length]
  omega
theorem chunk_length (b : List UInt8) (k : Nat) : (chunk b k).length = min 511 (b.length - 511 * k) := by simp [chunk]
theorem secP_length (b : List UInt8) (k : Nat) : (secP b k).length = 512 := by
  apply padZ_length
  have := chunk_length b k
  simp only [List.length_cons]
  omega
theorem secH_length (a : Nat) (h : a ≤ 9223372036854775807) : (secH a).length = 512 := padZ_length _ (by have := headL_length a h; omega)
theorem secF_length (a n : Nat) (b : List UInt8) (ha : a ≤ 9223372036854775807) (hn : n ≤ 9223372036854775807) (hb : b.length ≤ 9223372036854775807) : (secF a n b).length = 512 := padZ_length _ (by have := firstL_length a n b ha hn hb; omega)
theorem needN_pos (n : Nat) : 1 ≤ needN n := by unfold needN; omega

/-- A sector of those from 'f' on, as it lasts. -/
def secOf (L : List (Option (List UInt8))) (f k : Nat) : List UInt8 := (L.getD (f + k) none).getD zeros
def RecAt (sec : Nat → List UInt8) (age p n : Nat) (b : List UInt8) : Prop := sec p = secF age n b ∧ ∀ k, k < nparts b.length → sec (p + 1 + k) = secP b k
/-- Records from sector p on, the first with number n, up to sector e. -/
def Recs (sec : Nat → List UInt8) (age : Nat) : Nat → Nat → List (List UInt8) → Nat → Prop
  | p, _, [], e => e = p
  | p, n, b :: bs, e => RecAt sec age p n b ∧ b.length ≤ 1000000 ∧ Recs sec age (p + needN b.length) (n + 1) bs e
/-- No record of this age begins here. -/
def OldS (age : Nat) (c : List UInt8) : Prop := c.head? ≠ some 72 ∨ ∃ a n b, 1 ≤ a ∧ a < age ∧ n ≤ 1000000 ∧ b.length ≤ 1000000 ∧ c = secF a n b
def HeadIs (c : List UInt8) (a : Nat) : Prop := (a = 0 ∧ c = zeros) ∨ (1 ≤ a ∧ c = secH a)
/-- A LOG's SECTORS: the age, the records, the sector behind them. -/
structure LogInv (sec : Nat → List UInt8) (cnt age : Nat) (recs : List (List UInt8)) (e : Nat) : Prop where
  heads : ∃ a0 a1, HeadIs (sec 0) a0 ∧ HeadIs (sec 1) a1 ∧ max a0 a1 = age
  pos : 1 ≤ age
  recs : Recs sec age 2 0 recs e
  le : e ≤ cnt
  small : cnt ≤ 1000000
  old : ∀ k, e ≤ k → k < cnt → OldS age (sec k)

theorem Recs.ge {sec : Nat → List UInt8} {age : Nat} : ∀ {bs : List (List UInt8)} {p n e : Nat}, Recs sec age p n bs e → p + bs.length ≤ e
  | [], p, n, e, h => by rw [Recs] at h; simp [h]
  | b :: bs, p, n, e, h => by
    have := Recs.ge h.2.2
    have := needN_pos b.length
    simp only [List.length_cons]
    omega
theorem Recs.congr {sec sec' : Nat → List UInt8} {age : Nat} : ∀ {bs : List (List UInt8)} {p n e : Nat}, Recs sec age p n bs e → (∀ k, p ≤ k → k < e → sec' k = sec k) → Recs sec' age p n bs e
  | [], _, _, _, h, _ => h
  | b :: bs, p, n, e, h, hk => by
    have hge := Recs.ge h.2.2
    have hn : needN b.length = 1 + nparts b.length := rfl
    refine ⟨⟨?_, fun k hkl => ?_⟩, h.2.1, Recs.congr h.2.2 fun k h1 h2 => hk k (by omega) h2⟩
    · rw [hk p (by omega) (by omega)]; exact h.1.1
    · rw [hk (p + 1 + k) (by omega) (by omega)]; exact h.1.2 k hkl
theorem Recs.snoc {sec : Nat → List UInt8} {age : Nat} : ∀ {bs : List (List UInt8)} {p n e : Nat} {b : List UInt8}, Recs sec age p n bs e → RecAt sec age e (n + bs.length) b → b.length ≤ 1000000 → Recs sec age p n (bs ++ [b]) (e + needN b.length)
  | [], p, n, e, b, h, hr, hb => by
    obtain rfl : e = p := h
    exact ⟨hr, hb, rfl⟩
  | c :: bs, p, n, e, b, h, hr, hb => by
    refine ⟨h.1, h.2.1, Recs.snoc h.2.2 ?_ hb⟩
    rw [List.length_cons] at hr
    rw [show n + 1 + bs.length = n + (bs.length + 1) by omega]
    exact hr
theorem secP_head (b : List UInt8) (k : Nat) : (secP b k).head? = some 68 := rfl
theorem oldP (age : Nat) (b : List UInt8) (k : Nat) : OldS age (secP b k) := .inl (by rw [secP_head]; decide)
theorem oldZ (age : Nat) : OldS age zeros := .inl (by decide)
theorem OldS.mono {age age' : Nat} {c : List UInt8} (h : OldS age c) (hle : age ≤ age') : OldS age' c := by
  rcases h with h | ⟨a, n, b, h1, h2, h3, h4, h5⟩
  · exact .inl h
  · exact .inr ⟨a, n, b, h1, by omega, h3, h4, h5⟩
/-- What records leave is of an elder age in the next one. -/
theorem Recs.old {sec : Nat → List UInt8} {age : Nat} (h1 : 1 ≤ age) : ∀ {bs : List (List UInt8)} {p n e : Nat}, Recs sec age p n bs e → n + bs.length ≤ 1000000 → ∀ k, p ≤ k → k < e → OldS (age + 1) (sec k)
  | [], p, n, e, h, _, k, hp, hk => by
    have : e = p := h
    omega
  | b :: bs, p, n, e, h, hl, k, hp, hk => by
    rw [List.length_cons] at hl
    by_cases hq : k < p + needN b.length
    · by_cases hp' : k = p
      · rw [hp', h.1.1]
        exact .inr ⟨age, n, b, h1, by omega, by omega, h.2.1, rfl⟩
      · have hn : needN b.length = 1 + nparts b.length := rfl
        have := h.1.2 (k - p - 1) (by omega)
        rw [show p + 1 + (k - p - 1) = k by omega] at this
        rw [this]
        exact oldP _ _ _
    · exact Recs.old h1 h.2.2 (by omega) k (by omega) hk

def upd (sec : Nat → List UInt8) (k : Nat) (c : List UInt8) : Nat → List UInt8 := fun j => if j = k then c else sec j
theorem LogInv.two {sec : Nat → List UInt8} {cnt age e : Nat} {recs : List (List UInt8)} (h : LogInv sec cnt age recs e) : 2 + recs.length ≤ e := h.recs.ge
theorem LogInv.congr {sec sec' : Nat → List UInt8} {cnt age e : Nat} {recs : List (List UInt8)} (h : LogInv sec cnt age recs e) (hs : ∀ k, k < cnt → sec' k = sec k) : LogInv sec' cnt age recs e where
  heads := by
    have := h.two
    have := h.le
    rw [hs 0 (by omega), hs 1 (by omega)]
    exact h.heads
  pos := h.pos
  recs := h.recs.congr fun k _ hk => hs k (by have := h.le; omega)
  le := h.le
  small := h.small
  old := fun k h1 h2 => by rw [hs k h2]; exact h.old k h1 h2
/-- Behind the records something else is laid that is none. -/
theorem LogInv.setOld {sec : Nat → List UInt8} {cnt age e : Nat} {recs : List (List UInt8)} (h : LogInv sec cnt age recs e) {k : Nat} {c : List UInt8} (hk : e ≤ k) (hc : OldS age c) : LogInv (upd sec k c) cnt age recs e where
  heads := by
    have := h.two
    unfold upd
    rw [if_neg (by omega), if_neg (by omega)]
    exact h.heads
  pos := h.pos
  recs := h.recs.congr fun j _ hj => by unfold upd; rw [if_neg (by omega)]
  le := h.le
  small := h.small
  old := fun j h1 h2 => by
    unfold upd
    split
    · exact hc
    · exact h.old j h1 h2
/-- A record more. -/
theorem LogInv.add {sec : Nat → List UInt8} {cnt age e : Nat} {recs : List (List UInt8)} (h : LogInv sec cnt age recs e) (b : List UInt8) (hb : b.length ≤ 1000000) (hn : needN b.length ≤ cnt - e)
    (hp : ∀ k, k < nparts b.length → sec (e + 1 + k) = secP b k) : LogInv (upd sec e (secF age recs.length b)) cnt age (recs ++ [b]) (e + needN b.length) where
  heads := by
    have := h.two
    unfold upd
    rw [if_neg (by omega), if_neg (by omega)]
    exact h.heads
  pos := h.pos
  recs := by
    refine Recs.snoc (h.recs.congr fun j _ hj => by unfold upd; rw [if_neg (by omega)]) ⟨?_, fun k hk => ?_⟩ hb
    · unfold upd; rw [if_pos rfl, Nat.zero_add]
    · unfold upd; rw [if_neg (by omega)]; exact hp k hk
  le := by have := h.le; have := needN_pos b.length; omega
  small := h.small
  old := fun j h1 h2 => by
    have := needN_pos b.length
    unfold upd
    rw [if_neg (by omega)]
    exact h.old j (by omega) h2
/-- The next age. -/
theorem LogInv.trunc {sec : Nat → List UInt8} {cnt age e : Nat} {recs : List (List UInt8)} (h : LogInv sec cnt age recs e) (k : Nat) (hk : k < 2) : LogInv (upd sec k (secH (age + 1))) cnt (age + 1) [] 2 where
  heads := by
    obtain ⟨a0, a1, h0, h1, hm⟩ := h.heads
    have hp := h.pos
    have : k = 0 ∨ k = 1 := by omega
    rcases this with rfl | rfl
    · exact ⟨age + 1, a1, .inr ⟨by omega, by simp [upd]⟩, by simpa [upd] using h1, by omega⟩
    · exact ⟨a0, age + 1, by simpa [upd] using h0, .inr ⟨by omega, by simp [upd]⟩, by omega⟩
  pos := by omega
  recs := rfl
  le := by have := h.two; have := h.le; omega
  small := h.small
  old := fun j h1 h2 => by
    unfold upd
    rw [if_neg (by omega)]
    by_cases hj : j < e
    · refine h.recs.old h.pos ?_ j h1 hj
      have := h.two; have := h.le; have := h.small; omega
    · exact (h.old j (by omega) h2).mono (by omega)
/-- A new log. -/
theorem logInv_new {sec : Nat → List UInt8} {cnt : Nat} (hc : 3 ≤ cnt) (hs : cnt ≤ 1000000) (h0 : sec 0 = secH 1) (hz : ∀ k, 1 ≤ k → k < cnt → sec k = zeros) : LogInv sec cnt 1 [] 2 where
  heads := ⟨1, 0, .inr ⟨Nat.le_refl _, h0⟩, .inl ⟨rfl, hz 1 (by omega) (by omega)⟩, rfl⟩
  pos := Nat.le_refl _
  recs := rfl
  le := by omega
  small := hs
  old := fun k h1 h2 => by rw [hz k (by omega) h2]; exact oldZ _

/-! ### Writes, one behind the other. -/
theorem secOf_set (L : List (Option (List UInt8))) (f k : Nat) (c : List UInt8) (h : f + k < L.length) : secOf (L.set (f + k) (some c)) f = upd (secOf L f) k c := by
  funext j
  show ((L.set (f + k) (some c)).getD (f + j) none).getD zeros = if j = k then c else (L.getD (f + j) none).getD zeros
  rw [List.getD_eq_getElem?_getD, List.getD_eq_getElem?_getD]
  by_cases hj : j = k
  · subst hj
    rw [List.getElem?_set_self h, if_pos rfl]
    rfl
  · rw [List.getElem?_set_ne (by omega), if_neg hj]
theorem settle_inv {f cnt age e : Nat} {recs : List (List UInt8)} : ∀ (W : List (Nat × List UInt8)) (ks : List Bool) (L : List (Option (List UInt8))), LogInv (secOf L f) cnt age recs e → f + cnt ≤ L.length →
    (∀ p ∈ W, ∃ k, p.1 = f + k ∧ e ≤ k ∧ k < cnt ∧ OldS age p.2) → LogInv (secOf (settleL L W ks) f) cnt age recs e
  | [], _, _, h, _, _ => by simpa [settleL] using h
  | _ :: _, [], _, h, _, _ => by simpa [settleL] using h
  | p :: W, k :: ks, L, h, hL, hW => by
    rw [settleL]
    obtain ⟨j, h1, h2, h3, h4⟩ := hW p (by simp)
    refine settle_inv W ks _ ?_ (by split <;> simp [hL]) fun q hq => hW q (by simp [hq])
    split
    · rw [h1, secOf_set _ _ _ _ (by omega)]
      exact h.setOld h2 h4
    · exact h
theorem settle_all_get : ∀ (W : List (Nat × List UInt8)) (L : List (Option (List UInt8))), (∀ p ∈ W, p.1 < L.length) → ∀ n : Nat, (settleL L W (W.map fun _ => true)).getD n none = (lastW W n).or (L.getD n none)
  | [], L, _, n => by simp [settleL, lastW]
  | p :: W, L, h, n => by
    rw [List.map_cons, settleL, if_pos rfl, settle_all_get W _ (fun q hq => by rw [List.length_set]; exact h q (by simp [hq])) n, lastW]
    cases lastW W (n : Int) with
    | some b => rfl
    | none =>
      rw [Option.none_or, Option.none_or, List.getD_eq_getElem?_getD, List.getD_eq_getElem?_getD]
      by_cases hn : p.1 = n
      · subst hn
        rw [List.getElem?_set_self (h p (by simp)), if_pos rfl]
        rfl
      · rw [List.getElem?_set_ne hn, if_neg (by omega), Option.none_or]

def DS.writes : DS → List (Nat × List UInt8) → Nat × DS
  | s, [] => (0, s)
  | s, p :: ps => if (s.write p.1 p.2).1 = 0 then DS.writes (s.write p.1 p.2).2 ps else s.write p.1 p.2
/-- A record's bytes, as writes. -/
def partsW (f at_ : Nat) (b : List UInt8) (m : Nat) : List (Nat × List UInt8) := (List.range m).map fun k => (f + at_ + 1 + k, secP b k)
def appendP (f : Nat) (s : DS) (at_ age n : Nat) (b : List UInt8) : Nat × DS :=
  let r := s.writes (partsW f at_ b (nparts b.length))
  if r.1 ≠ 0 then r else
  let q := r.2.barrier
  if q.1 ≠ 0 then q else
  let t := q.2.write ((f + at_ : Nat) : Int) (secF age n b)
  if t.1 ≠ 0 then t else t.2.barrier
def truncP (f : Nat) (s : DS) (age : Nat) : Nat × DS :=
  let t := s.write ((f + (1 - (age + 1) % 2) : Nat) : Int) (secH (age + 1))
  if t.1 ≠ 0 then t else t.2.barrier

theorem writes_snoc : ∀ (l : List (Nat × List UInt8)) (s : DS) (p : Nat × List UInt8), s.writes (l ++ [p]) = if (s.writes l).1 = 0 then (s.writes l).2.write p.1 p.2 else s.writes l
  | [], s, p => by
    simp only [List.nil_append, DS.writes, if_true]
    split
    · rename_i h
      exact Prod.ext h.symm rfl
    · rfl
  | q :: l, s, p => by
    rw [List.cons_append, DS.writes, DS.writes]
    by_cases h : (s.write q.1 q.2).1 = 0
    · simp only [if_pos h]
      exact writes_snoc l _ p
    · simp only [if_neg h]

/-- The power that is left behind a change. -/
def dec (n : Int) : Int := if 0 < n then n - 1 else n
theorem write_on (s : DS) (n : Nat) (b : List UInt8) (hoff : s.off = false) (hn : n < s.L.length) : s.write (n : Int) b = if s.left = 0 then (8, { s with off := true }) else (0, { s with W := s.W ++ [(n, b)], left := dec s.left, steps := s.steps + 1 }) := by
  obtain ⟨L, W, left, off, steps⟩ := s
  obtain rfl : off = false := hoff
  have hin : inR (n : Int) L.length = true := decide_eq_true ⟨by omega, by simp only at hn; omega⟩
  by_cases h : left = 0
  · simp [DS.write, hin, DS.spend, h]
  · simp [DS.write, hin, DS.spend, h, dec]
theorem barrier_on (s : DS) (hoff : s.off = false) : s.barrier = if s.left = 0 then (8, { s with off := true }) else (0, { s with L := settleL s.L s.W (s.W.map fun _ => true), W := [], left := dec s.left, steps := s.steps + 1 }) := by
  obtain ⟨L, W, left, off, steps⟩ := s
  obtain rfl : off = false := hoff
  by_cases h : left = 0
  · simp [DS.barrier, DS.spend, h]
  · simp [DS.barrier, DS.spend, h, dec, DS.settled]
theorem dec_m1 : dec (-1) = -1 := rfl

/-- So many of the writes were made. -/
theorem writes_on : ∀ (ps : List (Nat × List UInt8)) (s : DS), s.off = false → (∀ p ∈ ps, p.1 < s.L.length) → ∃ j left', j ≤ ps.length ∧
    s.writes ps = (if j < ps.length then 8 else 0, { L := s.L, W := s.W ++ ps.take j, left := left', off := decide (j < ps.length), steps := s.steps + j }) ∧ (s.left = -1 → j = ps.length ∧ left' = -1)
  | [], s, hoff, _ => ⟨0, s.left, Nat.le_refl _, by obtain ⟨L, W, l, o, st⟩ := s; obtain rfl : o = false := hoff; simp [DS.writes], fun h => ⟨rfl, h⟩⟩
  | p :: ps, s, hoff, hp => by
    have hw := write_on s p.1 p.2 hoff (hp p (by simp))
    by_cases hl : s.left = 0
    · rw [if_pos hl] at hw
      refine ⟨0, s.left, Nat.zero_le _, ?_, fun h => by rw [hl] at h; cases h⟩
      rw [DS.writes, hw, if_neg (by simp)]
      simp
    · rw [if_neg hl] at hw
      obtain ⟨j, left', h1, h2, h3⟩ := writes_on ps { s with W := s.W ++ [(p.1, p.2)], left := dec s.left, steps := s.steps + 1 } hoff fun q hq => hp q (by simp [hq])
      refine ⟨j + 1, left', by simpa using h1, ?_, fun h => ?_⟩
      · rw [DS.writes, hw, if_pos rfl, h2]
        simp [Nat.add_right_comm, Nat.add_assoc]
      · obtain ⟨h4, h5⟩ := h3 (by simp only [h, dec_m1])
        exact ⟨by simp [h4], h5⟩

theorem partsW_length (f at_ : Nat) (b : List UInt8) (m : Nat) : (partsW f at_ b m).length = m := by simp [partsW]
theorem partsW_mem {f at_ : Nat} {b : List UInt8} {m : Nat} {p : Nat × List UInt8} (h : p ∈ partsW f at_ b m) : ∃ k, k < m ∧ p = (f + at_ + 1 + k, secP b k) := by
  obtain ⟨k, hk, rfl⟩ := List.mem_map.1 h
  exact ⟨k, List.mem_range.1 hk, rfl⟩
theorem partsW_succ (f at_ : Nat) (b : List UInt8) (m : Nat) : partsW f at_ b (m + 1) = partsW f at_ b m ++ [(f + at_ + 1 + m, secP b m)] := by simp [partsW, List.range_succ]
theorem partsW_last (f at_ : Nat) (b : List UInt8) : ∀ (m k : Nat), k < m → lastW (partsW f at_ b m) ((f + at_ + 1 + k : Nat) : Int) = some (secP b k)
  | 0, _, h => by omega
  | m + 1, k, h => by
    rw [partsW_succ, lastW_snoc]
    by_cases hk : m = k
    · subst hk
      rw [if_pos rfl]
    · rw [if_neg (by simp only; omega)]
      exact partsW_last f at_ b m k (by omega)

structure AppendRes (f cnt at_ age : Nat) (recs : List (List UInt8)) (s : DS) (b : List UInt8) (r : Nat × DS) : Prop where
  res : (r.1 = 0 ∧ r.2.off = false ∧ r.2.W = [] ∧ LogInv (secOf r.2.L f) cnt age (recs ++ [b]) (at_ + needN b.length) ∧ (s.left = -1 → r.2.left = -1)) ∨
    (r.1 = 8 ∧ s.left ≠ -1 ∧ ∀ ks, LogInv (secOf (settleL r.2.L r.2.W ks) f) cnt age recs at_ ∨ LogInv (secOf (settleL r.2.L r.2.W ks) f) cnt age (recs ++ [b]) (at_ + needN b.length))
  len : r.2.L.length = s.L.length
  steps : r.2.steps ≤ s.steps + needN b.length + 2
  wl : r.2.W.length ≤ needN b.length
  out : ∀ n, n < f ∨ f + cnt ≤ n → r.2.L.getD n none = s.L.getD n none

theorem getD_set_ne {L : List (Option (List UInt8))} {j n : Nat} {v : Option (List UInt8)} (h : j ≠ n) : (L.set j v).getD n none = L.getD n none := by
  rw [List.getD_eq_getElem?_getD, List.getD_eq_getElem?_getD, List.getElem?_set_ne h]

theorem append_res {f cnt at_ age : Nat} {recs : List (List UInt8)} {s : DS} (b : List UInt8) (hoff : s.off = false) (hW : s.W = []) (hI : LogInv (secOf s.L f) cnt age recs at_) (hf : f + cnt ≤ s.L.length)
    (hn : needN b.length ≤ cnt - at_) (hb : b.length ≤ 1000000) : AppendRes f cnt at_ age recs s b (appendP f s at_ age recs.length b) := by
  have hnp : needN b.length = 1 + nparts b.length := rfl
  have hle := hI.le
  have htwo := hI.two
  generalize hP : partsW f at_ b (nparts b.length) = P
  have hPl : P.length = nparts b.length := by rw [← hP, partsW_length]
  have hPm : ∀ p ∈ P, ∃ k, k < nparts b.length ∧ p = (f + at_ + 1 + k, secP b k) := fun p hp => by rw [← hP] at hp; exact partsW_mem hp
  have hPold : ∀ p ∈ P, ∃ k, p.1 = f + k ∧ at_ ≤ k ∧ k < cnt ∧ OldS age p.2 := fun p hp => by
    obtain ⟨k, hk, rfl⟩ := hPm p hp
    exact ⟨at_ + 1 + k, by simp only; omega, by omega, by omega, oldP _ _ _⟩
  have hPlt : ∀ p ∈ P, p.1 < s.L.length := fun p hp => by
    obtain ⟨k, h1, _, h3, _⟩ := hPold p hp
    omega
  obtain ⟨j, left', h1, h2, h3⟩ := writes_on P s hoff hPlt
  rw [hW, List.nil_append] at h2
  unfold appendP
  simp only [hP]
  by_cases hj : j < P.length
  · rw [if_pos hj] at h2
    rw [h2, if_pos (by simp)]
    refine ⟨.inr ⟨rfl, fun h => by have := (h3 h).1; omega, fun ks => .inl ?_⟩, rfl, by simp only; omega, by simp only [List.length_take]; omega, fun _ _ => rfl⟩
    exact settle_inv _ _ _ hI hf fun p hp => hPold p (List.mem_of_mem_take hp)
  · have hj' : j = P.length := by omega
    subst hj'
    rw [if_neg (by omega), List.take_length, decide_eq_false (Nat.lt_irrefl _)] at h2
    rw [h2, if_neg (by simp)]
    simp only
    rw [barrier_on _ rfl]
    by_cases hl1 : left' = 0
    · rw [if_pos hl1, if_pos (by simp)]
      refine ⟨.inr ⟨rfl, fun h => by have := (h3 h).2; omega, fun ks => .inl ?_⟩, rfl, by simp only; omega, by simp only; omega, fun _ _ => rfl⟩
      exact settle_inv _ _ _ hI hf hPold
    · rw [if_neg hl1, if_neg (by simp)]
      simp only
      generalize hL1 : settleL s.L P (P.map fun _ => true) = L1
      have hI1 : LogInv (secOf L1 f) cnt age recs at_ := by rw [← hL1]; exact settle_inv _ _ _ hI hf hPold
      have hlen1 : L1.length = s.L.length := by rw [← hL1, settleL_length]
      have hget : ∀ n : Nat, L1.getD n none = (lastW P n).or (s.L.getD n none) := by rw [← hL1]; exact settle_all_get P s.L hPlt
      have hp1 : ∀ k, k < nparts b.length → secOf L1 f (at_ + 1 + k) = secP b k := fun k hk => by
        have := partsW_last f at_ b (nparts b.length) k hk
        rw [hP] at this
        unfold secOf
        rw [show f + (at_ + 1 + k) = f + at_ + 1 + k by omega, hget, this]
        rfl
      have hout1 : ∀ n, n < f ∨ f + cnt ≤ n → L1.getD n none = s.L.getD n none := fun n hn => by
        rw [hget]
        cases hl : lastW P (n : Int) with
        | none => rfl
        | some c =>
          obtain ⟨p, hp, hpn, _⟩ := lastW_mem P n c hl
          obtain ⟨k, hk1, hk2, hk3, _⟩ := hPold p hp
          omega
      have hadd := hI1.add b hb hn hp1
      have hset : secOf (L1.set (f + at_) (some (secF age recs.length b))) f = upd (secOf L1 f) at_ (secF age recs.length b) := secOf_set _ _ _ _ (by omega)
      rw [← hset] at hadd
      rw [write_on _ _ _ rfl (by simp only; omega)]
      by_cases hl2 : dec left' = 0
      · simp only [if_pos hl2]
        rw [if_pos (by simp)]
        refine ⟨.inr ⟨rfl, fun h => (by rw [(h3 h).2] at hl2; cases hl2), fun ks => .inl ?_⟩, hlen1, by simp only; omega, by simp, hout1⟩
        simpa [settleL] using hI1
      · simp only [if_neg hl2]
        rw [if_neg (by simp), barrier_on _ rfl]
        by_cases hl3 : dec (dec left') = 0
        · simp only [if_pos hl3]
          refine ⟨.inr ⟨rfl, fun h => (by rw [(h3 h).2] at hl3; cases hl3), fun ks => ?_⟩, hlen1, by simp only; omega, by simp; omega, hout1⟩
          cases ks with
          | nil => exact .inl (by simpa [settleL] using hI1)
          | cons k ks =>
            cases k with
            | false => exact .inl (by simpa [settleL] using hI1)
            | true => exact .inr (by simpa [settleL] using hadd)
        · simp only [if_neg hl3]
          refine ⟨.inl ⟨rfl, rfl, rfl, ?_, fun h => by rw [(h3 h).2]; rfl⟩, ?_, by simp only; omega, by simp, fun n hn => ?_⟩
          · simpa [settleL] using hadd
          · simpa [settleL] using hlen1
          · have := hout1 n hn
            simp only [List.nil_append, List.map_cons, List.map_nil, settleL, if_true]
            rw [getD_set_ne (by omega)]
            exact this

structure TruncRes (f cnt at_ age : Nat) (recs : List (List UInt8)) (s : DS) (r : Nat × DS) : Prop where
  res : (r.1 = 0 ∧ r.2.off = false ∧ r.2.W = [] ∧ LogInv (secOf r.2.L f) cnt (age + 1) [] 2 ∧ (s.left = -1 → r.2.left = -1)) ∨
    (r.1 = 8 ∧ s.left ≠ -1 ∧ ∀ ks, LogInv (secOf (settleL r.2.L r.2.W ks) f) cnt age recs at_ ∨ LogInv (secOf (settleL r.2.L r.2.W ks) f) cnt (age + 1) [] 2)
  len : r.2.L.length = s.L.length
  steps : r.2.steps ≤ s.steps + 2
  wl : r.2.W.length ≤ 1
  out : ∀ n, n < f ∨ f + cnt ≤ n → r.2.L.getD n none = s.L.getD n none

theorem trunc_res {f cnt at_ age : Nat} {recs : List (List UInt8)} {s : DS} (hoff : s.off = false) (hW : s.W = []) (hI : LogInv (secOf s.L f) cnt age recs at_) (hf : f + cnt ≤ s.L.length) : TruncRes f cnt at_ age recs s (truncP f s age) := by
  have hle := hI.le
  have htwo := hI.two
  unfold truncP
  generalize hk : 1 - (age + 1) % 2 = k
  have hk2 : k < 2 := by omega
  have htr := hI.trunc k hk2
  rw [← secOf_set _ _ _ _ (show f + k < s.L.length by omega)] at htr
  simp only
  rw [write_on _ _ _ hoff (by omega)]
  by_cases hl1 : s.left = 0
  · rw [if_pos hl1, if_pos (by simp)]
    refine ⟨.inr ⟨rfl, by omega, fun ks => .inl ?_⟩, rfl, by simp only; omega, by simp [hW], fun _ _ => rfl⟩
    simpa [settleL, hW] using hI
  · rw [if_neg hl1, if_neg (by simp)]
    simp only
    rw [barrier_on { L := s.L, W := s.W ++ [(f + k, secH (age + 1))], left := dec s.left, off := s.off, steps := s.steps + 1 } hoff]
    by_cases hl2 : dec s.left = 0
    · simp only [if_pos hl2]
      refine ⟨.inr ⟨rfl, fun h => (by rw [h] at hl2; cases hl2), fun ks => ?_⟩, rfl, by simp only; omega, by simp [hW], fun _ _ => rfl⟩
      rw [hW]
      cases ks with
      | nil => exact .inl (by simpa [settleL] using hI)
      | cons j ks =>
        cases j with
        | false => exact .inl (by simpa [settleL] using hI)
        | true => exact .inr (by simpa [settleL] using htr)
    · simp only [if_neg hl2]
      refine ⟨.inl ⟨rfl, hoff, rfl, ?_, fun h => by rw [h]; rfl⟩, ?_, by simp only; omega, by simp, fun n hn => ?_⟩
      · simpa [settleL, hW] using htr
      · simp [settleL, hW]
      · rw [hW]
        simp only [List.nil_append, List.map_cons, List.map_nil, settleL, if_true]
        exact getD_set_ne (by omega)

/-- What a log's Format leaves. -/
def formatP (f cnt : Nat) (s : DS) : Nat × DS :=
  let r := s.writes ((List.range (cnt - 1)).map fun k => (f + 1 + k, zeros))
  if r.1 ≠ 0 then r else
  let q := r.2.barrier
  if q.1 ≠ 0 then q else
  let t := q.2.write (f : Int) (secH 1)
  if t.1 ≠ 0 then t else t.2.barrier
theorem rangeW_last (g : Nat → List UInt8) (p : Nat) : ∀ (m k : Nat), k < m → lastW ((List.range m).map fun k => (p + k, g k)) ((p + k : Nat) : Int) = some (g k)
  | 0, _, h => by omega
  | m + 1, k, h => by
    rw [List.range_succ, List.map_append, List.map_cons, List.map_nil, lastW_snoc]
    by_cases hk : m = k
    · subst hk
      rw [if_pos rfl]
    · rw [if_neg (by simp only; omega)]
      exact rangeW_last g p m k (by omega)

structure FormatRes (f cnt : Nat) (s : DS) (r : Nat × DS) : Prop where
  ok : r.1 = 0 ∧ r.2.off = false ∧ r.2.W = [] ∧ r.2.left = -1
  inv : LogInv (secOf r.2.L f) cnt 1 [] 2
  len : r.2.L.length = s.L.length
  steps : r.2.steps ≤ s.steps + cnt + 2
  out : ∀ n, n < f ∨ f + cnt ≤ n → r.2.L.getD n none = ((lastW s.W n).or (s.L.getD n none))

theorem format_res {f cnt : Nat} {s : DS} (hoff : s.off = false) (hleft : s.left = -1) (hWl : ∀ p ∈ s.W, p.1 < s.L.length) (hc : 3 ≤ cnt) (hs : cnt ≤ 1000000) (hf : f + cnt ≤ s.L.length) : FormatRes f cnt s (formatP f cnt s) := by
  generalize hP : ((List.range (cnt - 1)).map fun k => (f + 1 + k, zeros)) = P
  have hPl : P.length = cnt - 1 := by rw [← hP]; simp
  have hPm : ∀ p ∈ P, ∃ k, k < cnt - 1 ∧ p = (f + 1 + k, zeros) := fun p hp => by
    rw [← hP] at hp
    obtain ⟨k, hk, rfl⟩ := List.mem_map.1 hp
    exact ⟨k, List.mem_range.1 hk, rfl⟩
  have hPlt : ∀ p ∈ P, p.1 < s.L.length := fun p hp => by
    obtain ⟨k, hk, rfl⟩ := hPm p hp
    simp only; omega
  obtain ⟨j, left', h1, h2, h3⟩ := writes_on P s hoff hPlt
  obtain ⟨rfl, rfl⟩ := h3 hleft
  rw [if_neg (by omega), List.take_length, decide_eq_false (Nat.lt_irrefl _)] at h2
  unfold formatP
  simp only [hP]
  rw [h2, if_neg (by simp)]
  simp only
  rw [barrier_on _ rfl, if_neg (show ¬ ((-1 : Int) = 0) by decide)]
  rw [if_neg (show ¬ ((0 : Nat) ≠ 0) by decide)]
  simp only
  generalize hL1 : settleL s.L (s.W ++ P) ((s.W ++ P).map fun _ => true) = L1
  have hlen1 : L1.length = s.L.length := by rw [← hL1, settleL_length]
  have hlastapp : ∀ (A B : List (Nat × List UInt8)) (z : Int), lastW (A ++ B) z = (lastW B z).or (lastW A z) := by
    intro A B z
    induction A with
    | nil => simp [lastW]
    | cons a A ih => rw [List.cons_append, lastW, ih, lastW, Option.or_assoc]
  have hget : ∀ n : Nat, L1.getD n none = (lastW P n).or ((lastW s.W n).or (s.L.getD n none)) := fun n => by
    rw [← hL1, settle_all_get _ s.L (fun p hp => by rcases List.mem_append.1 hp with h | h; exact hWl p h; exact hPlt p h), hlastapp, Option.or_assoc]
  rw [write_on _ _ _ rfl (by simp only; omega), if_neg (show ¬ (dec (-1) = 0) by decide)]
  rw [if_neg (show ¬ ((0 : Nat) ≠ 0) by decide), barrier_on _ rfl, if_neg (show ¬ (dec (dec (-1)) = 0) by decide)]
  have hsec : secOf (L1.set (f + 0) (some (secH 1))) f = upd (secOf L1 f) 0 (secH 1) := secOf_set _ _ _ _ (by omega)
  rw [Nat.add_zero] at hsec
  refine ⟨⟨rfl, rfl, rfl, rfl⟩, ?_, ?_, by simp only; omega, fun n hn => ?_⟩
  · simp only [List.nil_append, List.map_cons, List.map_nil, settleL, if_true]
    rw [hsec]
    refine logInv_new hc hs (by simp [upd]) fun k h1 h2 => ?_
    unfold upd
    rw [if_neg (by omega)]
    unfold secOf
    rw [hget, show f + k = f + 1 + (k - 1) by omega]
    have := rangeW_last (fun _ => zeros) (f + 1) (cnt - 1) (k - 1) (by omega)
    rw [hP] at this
    rw [this]
    rfl
  · simp [settleL, hlen1]
  · simp only [List.nil_append, List.map_cons, List.map_nil, settleL, if_true]
    rw [getD_set_ne (by omega), hget]
    cases hl : lastW P (n : Int) with
    | none => rfl
    | some c =>
      obtain ⟨p, hp, hpn, _⟩ := lastW_mem P n c hl
      obtain ⟨k, hk, rfl⟩ := hPm p hp
      simp only at hpn
      omega

end Go.Proofs.YtpeehagaiofobaaDoor
