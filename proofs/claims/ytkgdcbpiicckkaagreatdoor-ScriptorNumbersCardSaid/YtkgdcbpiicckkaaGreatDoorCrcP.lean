/- The sum, in plain Lean: one bit at a time, four bits at a time, and what its linearity tells. No program in sight. -/
import Derived.Test.YtkgdcbpiicckkaaGreatDoorBase
namespace Go.Proofs.YtkgdcbpiicckkaaGreatDoor
set_option linter.unusedSimpArgs false
set_option linter.unusedVariables false

def poly : Nat := 2197175160
/-- One bit. -/
def fb (r : Nat) : Nat := r / 2 ^^^ (if r % 2 = 1 then poly else 0)
/-- So many bits. -/
def fn : Nat → Nat → Nat
  | 0, r => r
  | k + 1, r => fn k (fb r)
/-- What four bits do. -/
def halfN (i : Nat) : Nat := [0, 274646895, 549293790, 820201905, 1098587580, 1361435347, 1640403810, 1905808397, 2197175160, 2460548119, 2722870694, 2987750089, 3280807620, 3553878443, 3811616794, 4084100981].getD i 0
def nib (r : Nat) : Nat := r / 16 ^^^ halfN (r % 16)
def byteStep (r x : Nat) : Nat := nib (nib (r ^^^ x))
def more (r : Nat) (l : List UInt8) : Nat := l.foldl (fun r c => byteStep r c.toNat) r
/-- A row of bytes as a number, the lowest first. -/
def le : List UInt8 → Nat
  | [] => 0
  | c :: l => c.toNat + 256 * le l
def ones : Nat := 4294967295
def crc (l : List UInt8) : Nat := ones ^^^ more ones l
def four (n : Nat) : List UInt8 := [UInt8.ofNat (n % 256), UInt8.ofNat (n / 256 % 256), UInt8.ofNat (n / 65536 % 256), UInt8.ofNat (n / 16777216 % 256)]

theorem xor_div2 (a b : Nat) : (a ^^^ b) / 2 = a / 2 ^^^ b / 2 := by
  have := @Nat.shiftRight_xor_distrib 1 a b
  simpa [Nat.shiftRight_eq_div_pow] using this
theorem xor_mod2 (a b : Nat) : (a ^^^ b) % 2 = (a % 2 + b % 2) % 2 := by
  have h1 : a % 2 = 0 ∨ a % 2 = 1 := by omega
  have h2 : b % 2 = 0 ∨ b % 2 = 1 := by omega
  have h : (a ^^^ b) % 2 = a % 2 ^^^ b % 2 := by
    have := @Nat.xor_mod_two_pow a b 1
    simpa using this
  rw [h]
  rcases h1 with h1 | h1 <;> rcases h2 with h2 | h2 <;> rw [h1, h2] <;> rfl

theorem fb_xor (a b : Nat) : fb (a ^^^ b) = fb a ^^^ fb b := by
  unfold fb
  rw [xor_div2, xor_mod2]
  have h1 : a % 2 = 0 ∨ a % 2 = 1 := by omega
  have h2 : b % 2 = 0 ∨ b % 2 = 1 := by omega
  rcases h1 with h1 | h1 <;> rcases h2 with h2 | h2 <;> rw [h1, h2]
  · simp
  · simp [Nat.xor_assoc]
  · simp only [Nat.reduceAdd, Nat.reduceMod, if_true, if_neg (show ¬ (0 : Nat) = 1 by decide), Nat.xor_zero]
    rw [Nat.xor_assoc, Nat.xor_comm (b / 2), ← Nat.xor_assoc]
  · simp only [Nat.reduceAdd, Nat.reduceMod, if_true, if_neg (show ¬ (0 : Nat) = 1 by decide), Nat.xor_zero]
    have : a / 2 ^^^ poly ^^^ (b / 2 ^^^ poly) = a / 2 ^^^ b / 2 ^^^ (poly ^^^ poly) := by
      rw [Nat.xor_assoc, Nat.xor_assoc, ← Nat.xor_assoc poly, Nat.xor_comm poly (b / 2), Nat.xor_assoc (b / 2)]
    rw [this, Nat.xor_self, Nat.xor_zero]
theorem fn_xor : ∀ (k a b : Nat), fn k (a ^^^ b) = fn k a ^^^ fn k b
  | 0, _, _ => rfl
  | k + 1, a, b => by show fn k (fb (a ^^^ b)) = _; rw [fb_xor, fn_xor k]; rfl
theorem fn_add : ∀ (j k r : Nat), fn (j + k) r = fn k (fn j r)
  | 0, k, r => by rw [Nat.zero_add]; rfl
  | j + 1, k, r => by rw [show j + 1 + k = (j + k) + 1 by omega]; show fn (j + k) (fb r) = fn k (fn j (fb r)); rw [fn_add j k]
theorem fb_zero : fb 0 = 0 := by decide
theorem fn_zero : ∀ k, fn k 0 = 0
  | 0 => rfl
  | k + 1 => by show fn k (fb 0) = 0; rw [fb_zero]; exact fn_zero k
theorem fb_double (m : Nat) : fb (2 * m) = m := by
  unfold fb
  rw [show 2 * m / 2 = m by omega, show 2 * m % 2 = 0 by omega]
  simp
theorem fn_double : ∀ (k m : Nat), fn k (2 ^ k * m) = m
  | 0, m => by simp [fn]
  | k + 1, m => by
    show fn k (fb (2 ^ (k + 1) * m)) = m
    rw [show 2 ^ (k + 1) * m = 2 * (2 ^ k * m) by rw [Nat.pow_succ]; rw [Nat.mul_comm (2 ^ k) 2, Nat.mul_assoc], fb_double, fn_double k]

/-- Parts that share no bit. -/
theorem xor_add_mul (k q l : Nat) (h : l < 2 ^ k) : l + 2 ^ k * q = (2 ^ k * q) ^^^ l := by
  rw [Nat.add_comm, Nat.two_pow_add_eq_or_of_lt h]
  apply Nat.eq_of_testBit_eq
  intro i
  rw [Nat.testBit_or, Nat.testBit_xor, Nat.testBit_two_pow_mul]
  by_cases hi : k ≤ i
  · have : l.testBit i = false := Nat.testBit_lt_two_pow (Nat.lt_of_lt_of_le h (Nat.pow_le_pow_right (by decide) hi))
    simp [this]
  · simp [hi]

theorem nib_eq (r : Nat) : nib r = fn 4 r := by
  have h : fn 4 r = fn 4 (2 ^ 4 * (r / 16)) ^^^ fn 4 (r % 16) := by
    rw [← fn_xor, ← xor_add_mul 4 (r / 16) (r % 16) (Nat.mod_lt _ (by decide))]
    congr 1; omega
  rw [h, fn_double]
  unfold nib
  congr 1
  have : ∀ i, i < 16 → halfN i = fn 4 i := by decide +kernel
  exact this _ (Nat.mod_lt _ (by decide))
theorem byteStep_eq (r x : Nat) : byteStep r x = fn 8 (r ^^^ x) := by
  unfold byteStep
  rw [nib_eq, nib_eq, ← fn_add]

/-- A ROW OF BYTES AT ONCE. -/
theorem more_eq : ∀ (l : List UInt8) (r : Nat), more r l = fn (8 * l.length) (r ^^^ le l)
  | [], r => by simp [more, le, fn]
  | c :: l, r => by
    have hc : c.toNat < 2 ^ 8 := c.toNat_lt
    have h1 : more r (c :: l) = more (byteStep r c.toNat) l := rfl
    rw [h1, more_eq l, byteStep_eq, List.length_cons, show 8 * (l.length + 1) = 8 + 8 * l.length by omega, fn_add]
    congr 1
    rw [le, show 256 = 2 ^ 8 from rfl, xor_add_mul 8 (le l) c.toNat hc, Nat.xor_comm (2 ^ 8 * le l), ← Nat.xor_assoc, fn_xor 8 (r ^^^ c.toNat), fn_double]

theorem more_append (l m : List UInt8) (r : Nat) : more r (l ++ m) = more (more r l) m := by simp [more]

theorem fb_lt (r : Nat) (h : r < 4294967296) : fb r < 4294967296 := by
  unfold fb
  refine Nat.xor_lt_two_pow (n := 32) (by omega) ?_
  split <;> decide
theorem fn_lt : ∀ (k r : Nat), r < 4294967296 → fn k r < 4294967296
  | 0, _, h => h
  | k + 1, r, h => fn_lt k (fb r) (fb_lt r h)
theorem halfN_lt : ∀ i, i < 16 → halfN i < 4294967296 := by decide
theorem nib_lt (r : Nat) (h : r < 4294967296) : nib r < 4294967296 := by rw [nib_eq]; exact fn_lt 4 r h
theorem byteStep_lt (r x : Nat) (h : r < 4294967296) (hx : x < 256) : byteStep r x < 4294967296 := by
  rw [byteStep_eq]
  exact fn_lt 8 _ (Nat.xor_lt_two_pow (n := 32) h (by omega))
theorem more_lt : ∀ (l : List UInt8) (r : Nat), r < 4294967296 → more r l < 4294967296
  | [], _, h => h
  | c :: l, r, h => more_lt l _ (byteStep_lt r c.toNat h c.toNat_lt)
theorem crc_lt (l : List UInt8) : crc l < 4294967296 := Nat.xor_lt_two_pow (n := 32) (by decide) (more_lt l _ (by decide))

/-- No bit is lost. -/
theorem fb_ne (r : Nat) (h : r < 4294967296) (hr : r ≠ 0) : fb r ≠ 0 := by
  unfold fb
  intro e
  split at e
  · have h1 : r / 2 = poly := by
      have := congrArg (· ^^^ poly) e
      simpa [Nat.xor_assoc] using this
    unfold poly at h1
    omega
  · simp at e
    omega
theorem fn_ne : ∀ (k r : Nat), r < 4294967296 → r ≠ 0 → fn k r ≠ 0
  | 0, _, _, hr => hr
  | k + 1, r, h, hr => fn_ne k (fb r) (fb_lt r h) (fb_ne r h hr)

/-- The document's way: behind 'k' bits of a byte. -/
def rb (k r x : Nat) : Nat := fn k (r ^^^ x % 2 ^ k)
theorem rb_zero (r x : Nat) : rb 0 r x = r := by simp [rb, fn, Nat.mod_one]
theorem xor_bit (r b : Nat) (hb : b < 2) : fb (r ^^^ b) = r / 2 ^^^ (if (r % 2 + b) % 2 = 1 then poly else 0) := by
  unfold fb
  rw [xor_div2, xor_mod2, show b / 2 = 0 by omega, Nat.xor_zero, Nat.mod_eq_of_lt hb]
theorem rb_succ (k r x : Nat) : rb (k + 1) r x = rb k r x / 2 ^^^ (if (rb k r x % 2 + x / 2 ^ k % 2) % 2 = 1 then poly else 0) := by
  rw [← xor_bit _ _ (Nat.mod_lt _ (by decide))]
  unfold rb
  have h : x % 2 ^ (k + 1) = x % 2 ^ k + 2 ^ k * (x / 2 ^ k % 2) := by rw [Nat.pow_succ, Nat.mod_mul]
  rw [h, xor_add_mul k _ _ (Nat.mod_lt _ (Nat.two_pow_pos k)), Nat.xor_comm (2 ^ k * _), ← Nat.xor_assoc, fn_add k 1, fn_xor k (r ^^^ x % 2 ^ k), fn_double]
  rfl
theorem rb_eight (r x : Nat) (hx : x < 256) : rb 8 r x = byteStep r x := by rw [byteStep_eq, rb, Nat.mod_eq_of_lt (by omega)]
theorem rb_lt (k r x : Nat) (hr : r < 4294967296) (hx : x < 256) : rb k r x < 4294967296 :=
  fn_lt k _ (Nat.xor_lt_two_pow (n := 32) hr (Nat.lt_of_le_of_lt (Nat.mod_le _ _) (by omega)))
theorem rb_succ1 (k r x : Nat) (h : rb k r x % 2 ≠ x / 2 ^ k % 2) : rb (k + 1) r x = rb k r x / 2 ^^^ poly := by rw [rb_succ, if_pos (by omega)]
theorem rb_succ0 (k r x : Nat) (h : rb k r x % 2 = x / 2 ^ k % 2) : rb (k + 1) r x = rb k r x / 2 := by rw [rb_succ, if_neg (by omega), Nat.xor_zero]

theorem bits_xor_u32 (a b : Nat) (ha : a < 4294967296) (hb : b < 4294967296) : bits .xor .u32 (a : Int) (b : Int) = ((a ^^^ b : Nat) : Int) := by
  have hx : a ^^^ b < 2 ^ 32 := Nat.xor_lt_two_pow (by omega) (by omega)
  have h1 : (BitVec.ofInt 32 (a : Int)).toNat = a := by
    rw [BitVec.ofInt_natCast, BitVec.toNat_ofNat]; exact Nat.mod_eq_of_lt (by omega)
  have h2 : (BitVec.ofInt 32 (b : Int)).toNat = b := by
    rw [BitVec.ofInt_natCast, BitVec.toNat_ofNat]; exact Nat.mod_eq_of_lt (by omega)
  show IntKind.u32.wrap ((BitVec.ofInt 32 (a : Int) ^^^ BitVec.ofInt 32 (b : Int)).toNat : Int) = _
  rw [BitVec.toNat_xor, h1, h2, IntKind.wrap_u32]
  omega
theorem tmod2 (x m : Nat) : (((x : Int) / 2 ^ m).tmod 2 % 4294967296) = ((x / 2 ^ m % 2 : Nat) : Int) := by
  have e : ((x : Int) / 2 ^ m) = ((x / 2 ^ m : Nat) : Int) := by simp
  rw [e]
  generalize x / 2 ^ m = z
  rw [Int.tmod_eq_emod_of_nonneg (by omega)]
  omega
theorem refbit0 (y x m : Nat) (h : y % 2 = x / 2 ^ m % 2) : bits .xor .u32 ((y : Int) % 2) (((x : Int) / 2 ^ m).tmod 2 % 4294967296) = 0 := by
  rw [tmod2, show ((y : Int) % 2) = ((y % 2 : Nat) : Int) by omega, bits_xor_u32 _ _ (by omega) (by omega), h, Nat.xor_self]
  rfl
theorem refbit1 (y x m : Nat) (h : y % 2 ≠ x / 2 ^ m % 2) : bits .xor .u32 ((y : Int) % 2) (((x : Int) / 2 ^ m).tmod 2 % 4294967296) = 1 := by
  rw [tmod2, show ((y : Int) % 2) = ((y % 2 : Nat) : Int) by omega, bits_xor_u32 _ _ (by omega) (by omega)]
  have h1 : y % 2 = 0 ∨ y % 2 = 1 := by omega
  have h2 : x / 2 ^ m % 2 = 0 ∨ x / 2 ^ m % 2 = 1 := by omega
  rcases h1 with h1 | h1 <;> rcases h2 with h2 | h2 <;> rw [h1, h2] at h ⊢ <;> first | exact absurd rfl h | rfl
theorem refxor (y : Nat) (hy : y < 4294967296) : bits .xor .u32 ((y : Int) / 2 % 4294967296) 2197175160 = ((y / 2 ^^^ poly : Nat) : Int) := by
  rw [show ((y : Int) / 2 % 4294967296) = ((y / 2 : Nat) : Int) by omega, show (2197175160 : Int) = ((poly : Nat) : Int) from rfl, bits_xor_u32 _ _ (by omega) (by decide)]
theorem refhalf (y : Nat) (hy : y < 4294967296) : ((y : Int) / 2 % 4294967296) = ((y / 2 : Nat) : Int) := by omega
theorem notxor (y : Nat) (hy : y < 4294967296) : bits .xor .u32 IntKind.u32.max (y : Int) = ((ones ^^^ y : Nat) : Int) := by
  rw [show IntKind.u32.max = ((ones : Nat) : Int) from rfl, bits_xor_u32 _ _ (by decide) hy]

theorem and15 (y : Nat) (hy : y < 4294967296) : bits .and .u32 (y : Int) 15 = ((y % 16 : Nat) : Int) := by
  have h1 : (BitVec.ofInt 32 (y : Int)).toNat = y := by
    rw [BitVec.ofInt_natCast, BitVec.toNat_ofNat]; exact Nat.mod_eq_of_lt (by omega)
  show IntKind.u32.wrap ((BitVec.ofInt 32 (y : Int) &&& BitVec.ofInt 32 15).toNat : Int) = _
  rw [BitVec.toNat_and, h1, show (BitVec.ofInt 32 15).toNat = 2 ^ 4 - 1 from rfl, Nat.and_two_pow_sub_one_eq_mod, IntKind.wrap_u32]
  omega
theorem nibxor (y : Nat) (hy : y < 4294967296) : bits .xor .u32 ((y : Int) / 16) ((halfN (y % 16) : Nat) : Int) = ((nib y : Nat) : Int) := by
  rw [show ((y : Int) / 16) = ((y / 16 : Nat) : Int) by omega, bits_xor_u32 _ _ (by omega) (halfN_lt _ (Nat.mod_lt _ (by decide)))]
  rfl

theorem crc_nil : crc [] = 0 := by decide
theorem crc_append (a b : List UInt8) : ones ^^^ more (ones ^^^ crc a) b = crc (a ++ b) := by
  have : ones ^^^ crc a = more ones a := by unfold crc; rw [← Nat.xor_assoc, Nat.xor_self, Nat.zero_xor]
  rw [this]
  unfold crc
  rw [more_append]

/-- Two rows put together. -/
def xorL : List UInt8 → List UInt8 → List UInt8
  | a :: l, b :: m => (a ^^^ b) :: xorL l m
  | _, _ => []
theorem xorL_length : ∀ (a b : List UInt8), a.length = b.length → (xorL a b).length = a.length
  | [], [], _ => rfl
  | _ :: l, _ :: m, h => by simp only [xorL, List.length_cons]; rw [xorL_length l m (by simpa using h)]
  | [], _ :: _, h => by simp at h
  | _ :: _, [], h => by simp at h
theorem le_xorL : ∀ (a b : List UInt8), a.length = b.length → le (xorL a b) = le a ^^^ le b
  | [], [], _ => rfl
  | x :: l, y :: m, h => by
    have ih := le_xorL l m (by simpa using h)
    have hx : x.toNat < 2 ^ 8 := x.toNat_lt
    have hy : y.toNat < 2 ^ 8 := y.toNat_lt
    have hxy : (x ^^^ y).toNat = x.toNat ^^^ y.toNat := UInt8.toNat_xor x y
    simp only [xorL, le, ih, hxy]
    rw [show 256 = 2 ^ 8 from rfl, xor_add_mul 8 _ _ (Nat.xor_lt_two_pow hx hy), xor_add_mul 8 _ _ hx, xor_add_mul 8 _ _ hy]
    have e : 2 ^ 8 * (le l ^^^ le m) = (2 ^ 8 * le l) ^^^ (2 ^ 8 * le m) := by
      apply Nat.eq_of_testBit_eq
      intro i
      simp only [Nat.testBit_xor, Nat.testBit_two_pow_mul]
      cases decide (8 ≤ i) <;> simp
    rw [e, Nat.xor_assoc, Nat.xor_assoc, ← Nat.xor_assoc (2 ^ 8 * le m), Nat.xor_comm (2 ^ 8 * le m) x.toNat, Nat.xor_assoc]
  | [], _ :: _, h => by simp at h
  | _ :: _, [], h => by simp at h
theorem le_zeros : ∀ n, le (List.replicate n 0) = 0
  | 0 => rfl
  | n + 1 => by rw [List.replicate_succ, le, le_zeros n]; rfl
theorem crc_eq (l : List UInt8) : crc l = ones ^^^ fn (8 * l.length) (ones ^^^ le l) := by unfold crc; rw [more_eq]
theorem crc_diff (a b : List UInt8) (h : a.length = b.length) : crc a ^^^ crc b = fn (8 * a.length) (le a ^^^ le b) := by
  rw [crc_eq, crc_eq, ← h, fn_xor, fn_xor (8 * a.length) ones (le b), fn_xor (8 * a.length) (le a)]
  generalize fn (8 * a.length) ones = x
  generalize fn (8 * a.length) (le a) = y
  generalize fn (8 * a.length) (le b) = z
  apply Nat.eq_of_testBit_eq
  intro i
  simp only [Nat.testBit_xor]
  cases ones.testBit i <;> cases x.testBit i <;> cases y.testBit i <;> cases z.testBit i <;> rfl
theorem crc_adds (a b : List UInt8) (h : a.length = b.length) : crc a ^^^ crc b ^^^ crc (List.replicate a.length 0) = crc (xorL a b) := by
  rw [crc_diff a b h, crc_eq, crc_eq (xorL a b), List.length_replicate, le_zeros, xorL_length a b h, le_xorL a b h, Nat.xor_zero, fn_xor (8 * a.length) ones]
  generalize fn (8 * a.length) ones = x
  generalize fn (8 * a.length) (le a ^^^ le b) = y
  apply Nat.eq_of_testBit_eq
  intro i
  simp only [Nat.testBit_xor]
  cases ones.testBit i <;> cases x.testBit i <;> cases y.testBit i <;> rfl

theorem bits_xor_u8 (a b : Nat) (ha : a < 256) (hb : b < 256) : bits .xor .u8 (a : Int) (b : Int) = ((a ^^^ b : Nat) : Int) := by
  have hx : a ^^^ b < 2 ^ 8 := Nat.xor_lt_two_pow (by omega) (by omega)
  have h1 : (BitVec.ofInt 8 (a : Int)).toNat = a := by
    rw [BitVec.ofInt_natCast, BitVec.toNat_ofNat]; exact Nat.mod_eq_of_lt (by omega)
  have h2 : (BitVec.ofInt 8 (b : Int)).toNat = b := by
    rw [BitVec.ofInt_natCast, BitVec.toNat_ofNat]; exact Nat.mod_eq_of_lt (by omega)
  show IntKind.u8.wrap ((BitVec.ofInt 8 (a : Int) ^^^ BitVec.ofInt 8 (b : Int)).toNat : Int) = _
  rw [BitVec.toNat_xor, h1, h2, IntKind.wrap_u8]
  omega
theorem xorL_take_succ : ∀ (a b : List UInt8) (k : Nat), (ha : k < a.length) → (hb : k < b.length) → xorL (a.take (k + 1)) (b.take (k + 1)) = xorL (a.take k) (b.take k) ++ [a[k] ^^^ b[k]]
  | [], _, _, h, _ => absurd h (Nat.not_lt_zero _)
  | _ :: _, [], _, _, h => absurd h (Nat.not_lt_zero _)
  | x :: a, y :: b, 0, _, _ => rfl
  | x :: a, y :: b, k + 1, ha, hb => by
    have := xorL_take_succ a b k (by simpa using ha) (by simpa using hb)
    simp only [List.take_succ_cons, xorL, this, List.cons_append, List.getElem_cons_succ]

/-- Bytes from place k on, i of them, changed by those of a number. -/
def patchAt : List UInt8 → Nat → Nat → Nat → List UInt8
  | [], _, _, _ => []
  | c :: l, k + 1, i, y => c :: patchAt l k i y
  | c :: l, 0, 0, _ => c :: l
  | c :: l, 0, i + 1, y => (c ^^^ UInt8.ofNat (y % 256)) :: patchAt l 0 i (y / 256)
theorem patch_len : ∀ (L : List UInt8) (k i y : Nat), (patchAt L k i y).length = L.length
  | [], _, _, _ => rfl
  | c :: l, k + 1, i, y => by simp only [patchAt, List.length_cons, patch_len l k i y]
  | c :: l, 0, 0, _ => rfl
  | c :: l, 0, i + 1, y => by simp only [patchAt, List.length_cons, patch_len l 0 i (y / 256)]
theorem patch_zero : ∀ (L : List UInt8) (k y : Nat), patchAt L k 0 y = L
  | [], _, _ => rfl
  | c :: l, k + 1, y => by simp only [patchAt, patch_zero l k y]
  | c :: l, 0, _ => rfl
theorem patch_get : ∀ (L : List UInt8) (k i y : Nat), (patchAt L k i y)[k + i]? = L[k + i]?
  | [], _, _, _ => rfl
  | c :: l, k + 1, i, y => by
    have := patch_get l k i y
    rw [show k + 1 + i = (k + i) + 1 by omega]
    simpa [patchAt] using this
  | c :: l, 0, 0, _ => rfl
  | c :: l, 0, i + 1, y => by
    have := patch_get l 0 i (y / 256)
    simp only [Nat.zero_add] at this
    rw [Nat.zero_add]
    simpa [patchAt] using this
theorem patch_succ : ∀ (L : List UInt8) (k i y : Nat), (h : k + i < L.length) → patchAt L k (i + 1) y = (patchAt L k i y).set (k + i) (L[k + i] ^^^ UInt8.ofNat (y / 256 ^ i % 256))
  | [], _, _, _, h => absurd h (Nat.not_lt_zero _)
  | c :: l, k + 1, i, y, h => by
    have := patch_succ l k i y (by simp at h; omega)
    simp only [patchAt, this, show k + 1 + i = (k + i) + 1 by omega, List.set_cons_succ, List.getElem_cons_succ]
  | c :: l, 0, 0, y, h => by
    simp only [patchAt, Nat.zero_add, List.set_cons_zero, List.getElem_cons_zero, Nat.pow_zero, Nat.div_one, patch_zero]
  | c :: l, 0, i + 1, y, h => by
    have := patch_succ l 0 i (y / 256) (by simp at h ⊢; omega)
    simp only [Nat.zero_add] at this
    simp only [patchAt, Nat.zero_add, List.set_cons_succ, List.getElem_cons_succ]
    rw [this, Nat.div_div_eq_div_mul, Nat.pow_succ, Nat.mul_comm (256 ^ i) 256]
theorem patch_le : ∀ (L : List UInt8) (k i y : Nat), k + i ≤ L.length → le (patchAt L k i y) = le L ^^^ 2 ^ (8 * k) * (y % 256 ^ i)
  | [], k, i, y, h => by
    obtain ⟨rfl, rfl⟩ : k = 0 ∧ i = 0 := by simp at h; omega
    simp [patchAt, le, Nat.mod_one]
  | c :: l, k + 1, i, y, h => by
    have ih := patch_le l k i y (by simp at h; omega)
    have hc : c.toNat < 2 ^ 8 := c.toNat_lt
    have hx : ∀ a b : Nat, 2 ^ 8 * (a ^^^ b) = (2 ^ 8 * a) ^^^ (2 ^ 8 * b) := by
      intro a b
      apply Nat.eq_of_testBit_eq
      intro i
      simp only [Nat.testBit_xor, Nat.testBit_two_pow_mul]
      cases decide (8 ≤ i) <;> simp
    simp only [patchAt, le, ih]
    rw [show 256 * (le l ^^^ 2 ^ (8 * k) * (y % 256 ^ i)) = 2 ^ 8 * (le l ^^^ 2 ^ (8 * k) * (y % 256 ^ i)) from rfl, show 256 * le l = 2 ^ 8 * le l from rfl, xor_add_mul 8 _ _ hc, xor_add_mul 8 _ _ hc, hx, show 8 * (k + 1) = 8 + 8 * k by omega, Nat.pow_add, Nat.mul_assoc, Nat.xor_assoc, Nat.xor_assoc, Nat.xor_comm c.toNat]
  | c :: l, 0, 0, y, _ => by simp [patchAt, Nat.mod_one]
  | c :: l, 0, i + 1, y, h => by
    have ih := patch_le l 0 i (y / 256) (by simp at h ⊢; omega)
    have hc : c.toNat < 2 ^ 8 := c.toNat_lt
    have hy : y % 256 < 2 ^ 8 := Nat.mod_lt _ (by decide)
    have hcy : (c ^^^ UInt8.ofNat (y % 256)).toNat = c.toNat ^^^ (y % 256) := by
      rw [UInt8.toNat_xor, UInt8.toNat_ofNat', Nat.mod_eq_of_lt hy]
    have hx : ∀ a b : Nat, 2 ^ 8 * (a ^^^ b) = (2 ^ 8 * a) ^^^ (2 ^ 8 * b) := by
      intro a b
      apply Nat.eq_of_testBit_eq
      intro i
      simp only [Nat.testBit_xor, Nat.testBit_two_pow_mul]
      cases decide (8 ≤ i) <;> simp
    have hm : y % 256 ^ (i + 1) = y % 256 + 2 ^ 8 * (y / 256 % 256 ^ i) := by rw [Nat.pow_succ, Nat.mul_comm, Nat.mod_mul]
    simp only [patchAt, le, hcy]
    simp only [Nat.mul_zero, Nat.pow_zero, Nat.one_mul] at ih ⊢
    rw [ih, hm, show 256 * (le l ^^^ y / 256 % 256 ^ i) = 2 ^ 8 * (le l ^^^ y / 256 % 256 ^ i) from rfl, show 256 * le l = 2 ^ 8 * le l from rfl, xor_add_mul 8 _ _ (Nat.xor_lt_two_pow hc hy), xor_add_mul 8 _ _ hc, xor_add_mul 8 _ _ hy, hx]
    generalize 2 ^ 8 * le l = p
    generalize 2 ^ 8 * (y / 256 % 256 ^ i) = q
    generalize y % 256 = r
    generalize c.toNat = t
    apply Nat.eq_of_testBit_eq
    intro j
    simp only [Nat.testBit_xor]
    cases p.testBit j <;> cases q.testBit j <;> cases r.testBit j <;> cases t.testBit j <;> rfl
theorem crc_patch (L : List UInt8) (k i y : Nat) (h : k + i ≤ L.length) (hi : i ≤ 4) : (crc (patchAt L k i y) != crc L) = decide (y % 256 ^ i ≠ 0) := by
  have hd := crc_diff (patchAt L k i y) L (patch_len L k i y)
  rw [patch_le L k i y h, patch_len, Nat.xor_comm (le L), Nat.xor_assoc, Nat.xor_self, Nat.xor_zero, show 8 * L.length = 8 * k + (8 * L.length - 8 * k) by omega, fn_add, fn_double] at hd
  have hlt : y % 256 ^ i < 4294967296 := Nat.lt_of_lt_of_le (Nat.mod_lt _ (Nat.pow_pos (by decide))) (Nat.le_trans (Nat.pow_le_pow_right (by decide) hi) (by decide))
  by_cases hz : y % 256 ^ i = 0
  · rw [hz, fn_zero] at hd
    have : crc (patchAt L k i y) = crc L := by
      have := congrArg (· ^^^ crc L) hd
      simpa [Nat.xor_assoc] using this
    simp [hz, this]
  · have hn := fn_ne (8 * L.length - 8 * k) _ hlt hz
    have : crc (patchAt L k i y) ≠ crc L := by
      intro e
      rw [e, Nat.xor_self] at hd
      exact hn hd.symm
    simp [hz, this]
theorem mod_pow_succ_ne (y i : Nat) : decide (y % 256 ^ (i + 1) ≠ 0) = (decide (y % 256 ^ i ≠ 0) || decide (y / 256 ^ i % 256 ≠ 0)) := by
  rw [Nat.pow_succ, Nat.mod_mul]
  have hp : 0 < 256 ^ i := Nat.pow_pos (by decide)
  by_cases h1 : y % 256 ^ i = 0 <;> by_cases h2 : y / 256 ^ i % 256 = 0
  · simp [h1, h2]
  · have : 256 ^ i * (y / 256 ^ i % 256) ≠ 0 := Nat.mul_ne_zero (by omega) h2
    simp [h1, h2]
    exact this
  · simp [h1, h2]
  · simp [h1, h2]

end Go.Proofs.YtkgdcbpiicckkaaGreatDoor
