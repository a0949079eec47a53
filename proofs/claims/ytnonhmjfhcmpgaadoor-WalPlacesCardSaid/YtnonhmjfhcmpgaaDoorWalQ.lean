/- A disk of 20 sectors, each of them written, and a log anywhere on it: for the law of places. -/
import Derived.Test.YtnonhmjfhcmpgaaDoorWalG
import Derived.Test.YtnonhmjfhcmpgaaDoorWalImg
namespace Go.Proofs.YtnonhmjfhcmpgaaDoor
open Go.RowKit

def x99 : List UInt8 := List.replicate 512 153
theorem x99_length : x99.length = 512 := List.length_replicate
def fillS (k : Nat) : DS := ⟨List.replicate 20 none, (List.range k).map fun j => (0 + j, x99), -1, false, k⟩
theorem fillS_write (k : Nat) (hk : k < 20) : (fillS k).write (k : Int) x99 = (0, fillS (k + 1)) := by
  have h := write_on (fillS k) k x99 rfl (by simp [fillS]; omega)
  rw [h, if_neg (by simp [fillS])]
  simp [fillS, List.range_succ, dec]
/-- A log somewhere on the disk, in order, the power on; what lies beside it is as it was. -/
structure PG (s : DS) (l : LS) (recs : List (List UInt8)) : Prop where
  off : s.off = false
  W : s.W = []
  inv : LogInv (secOf s.L l.f) l.cnt l.age recs l.at_
  next : l.next = recs.length
  len : s.L.length = 20
  room : l.f + l.cnt ≤ 20
  left : s.left = -1
  out : ∀ n, n < 20 → n < l.f ∨ l.f + l.cnt ≤ n → s.L.getD n none = some x99
theorem pg_format (f cnt : Nat) (hc : 3 ≤ cnt) (hf : f + cnt ≤ 20) : PG (formatP f cnt (fillS 20)).2 ⟨f, cnt, 1, 0, 2⟩ [] ∧ (formatP f cnt (fillS 20)).2.steps ≤ 60 := by
  have h := format_res (f := f) (cnt := cnt) (s := fillS 20) rfl rfl (by
    intro p hp
    obtain ⟨k, hk, rfl⟩ := List.mem_map.1 hp
    have := List.mem_range.1 hk
    simp [fillS]; omega) hc (by omega) (by simp [fillS]; omega)
  refine ⟨⟨h.ok.2.1, h.ok.2.2.1, h.inv, rfl, by rw [h.len]; simp [fillS], hf, h.ok.2.2.2, fun n hn ho => ?_⟩, ?_⟩
  · rw [h.out n ho]
    have := rangeW_last (fun _ => x99) 0 20 n hn
    rw [Nat.zero_add] at this
    rw [show (fillS 20).W = (List.range 20).map fun k => (0 + k, x99) from rfl, this]
    rfl
  · have := h.steps
    simp [fillS] at this ⊢
    omega
theorem pg_append {s : DS} {l : LS} {recs : List (List UInt8)} (h : PG s l recs) (b : List UInt8) (hb : b.length ≤ 1000000) (hn : needN b.length ≤ l.cnt - l.at_) :
    (appendP l.f s l.at_ l.age l.next b).1 = 0 ∧ PG (appendP l.f s l.at_ l.age l.next b).2 (appendL l 0 b) (recs ++ [b]) ∧ (appendP l.f s l.at_ l.age l.next b).2.steps ≤ s.steps + 22 := by
  have hroom := h.room
  have hr := append_res (f := l.f) (cnt := l.cnt) (at_ := l.at_) (age := l.age) (recs := recs) (s := s) b h.off h.W h.inv (by rw [h.len]; exact hroom) hn hb
  rw [← h.next] at hr
  generalize appendP l.f s l.at_ l.age l.next b = R at *
  rcases hr.res with ⟨h1, h2, h3, h4, h5⟩ | ⟨_, h2, _⟩
  · refine ⟨h1, ⟨h2, h3, h4, ?_, by rw [hr.len, h.len], h.room, h5 h.left, fun n hn ho => by rw [hr.out n ho]; exact h.out n hn ho⟩, by have := hr.steps; omega⟩
    show l.next + 1 = _
    rw [h.next]
    simp
  · exact absurd h.left h2
theorem pg_trunc {s : DS} {l : LS} {recs : List (List UInt8)} (h : PG s l recs) :
    (truncP l.f s l.age).1 = 0 ∧ PG (truncP l.f s l.age).2 (truncL l 0) [] ∧ (truncP l.f s l.age).2.steps ≤ s.steps + 20 := by
  have hroom := h.room
  have hr := trunc_res (f := l.f) (cnt := l.cnt) (at_ := l.at_) (age := l.age) (recs := recs) (s := s) h.off h.W h.inv (by rw [h.len]; exact hroom)
  generalize truncP l.f s l.age = R at *
  rcases hr.res with ⟨h1, h2, h3, h4, h5⟩ | ⟨_, h2, _⟩
  · exact ⟨h1, ⟨h2, h3, h4, rfl, by rw [hr.len, h.len], h.room, h5 h.left, fun n hn ho => by rw [hr.out n ho]; exact h.out n hn ho⟩, by have := hr.steps; omega⟩
  · exact absurd h.left h2
theorem PG.read {s : DS} {l : LS} {recs : List (List UInt8)} (h : PG s l recs) (n : Nat) (hn : n < 20) : ∃ b, s.readE (n : Int) = (0, b) ∧ (n < l.f ∨ l.f + l.cnt ≤ n → b = x99) := by
  have hr := readE_on s h.off h.W 0 n (by rw [h.len]; omega)
  rw [Nat.zero_add] at hr
  refine ⟨_, hr, fun ho => ?_⟩
  unfold secOf
  rw [Nat.zero_add, h.out n hn ho]
  rfl

/-- An Append, whether there is room or not. -/
theorem append_pg {W w : World} {d g : Nat} {s : DS} {l : LS} {X : Nat → Prop} {recs : List (List UInt8)} (h : SysX W w d g s l X) (hp : PG s l recs) (hB0 : 0 < W.heap.size) (ht0 : Tab W) (hst : s.steps ≤ 100000) (hage : l.age ≤ 100000)
    (bo : Option Addr) (k cap : Nat) (b : List UInt8) (hk : k = b.length) (hbl : b.length ≤ 5000) (hbc : b.length ≤ cap) (hat : At w bo (bytesV b)) (hbo : ∀ i, blk bo = some i → b ≠ [] → i < W.heap.size ∨ w.heap.size ≤ i ∨ X i) :
    Calls Tryd.prog 14 #[.pointer (some ⟨g, 0, none⟩), .slice bo k cap] w (fun e w' => ∃ (z : Int) (s' : DS) (l' : LS) (recs' : List (List UInt8)), e = .returned (.int .i64 z) ∧ (z = 0 ∨ z = 7) ∧ SysX W w' d g s' l' X ∧ Stays X w w' ∧ PG s' l' recs' ∧ s'.steps ≤ s.steps + 22 ∧ l'.age = l.age ∧ l'.f = l.f ∧ l'.cnt = l.cnt) := by
  have hle := hp.inv.le
  have htwo := hp.inv.two
  have hroom := hp.room
  have hnx := hp.next
  by_cases hfit : needN b.length ≤ l.cnt - l.at_
  · obtain ⟨e1, p1, t1⟩ := pg_append hp b (by omega) hfit
    refine (append_sysX h (Below.refl _ _) hB0 ht0 (by omega) (by rw [hp.W]; decide) (by omega) (by omega) (by omega) (by omega) bo k cap b hk hbc (by omega) hat hbo hfit).mono ?_
    rintro e w' ⟨rfl, h', hst'⟩
    rw [e1] at h' ⊢
    exact ⟨_, _, _, _, rfl, .inl rfl, h', hst', p1, t1, rfl, rfl, rfl⟩
  · subst hk
    refine (appendFull_any bo b.length cap w h.log (by omega) (by omega) (by omega) (by omega)).mono ?_
    rintro e w' ⟨rfl, hb⟩
    exact ⟨_, s, l, recs, rfl, .inr rfl, h.below hb, Stays.of_below hb, hp, by omega, rfl, rfl, rfl⟩
end Go.Proofs.YtnonhmjfhcmpgaaDoor
