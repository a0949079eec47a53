/- A log in the sectors 3 to 102 of a disk of 120: in order; an Append, a crash, an opening. -/
import Derived.Test.YtpeehagaiofobaaDoorWalG
namespace Go.Proofs.YtpeehagaiofobaaDoor
open Go.RowKit

/-- A log in order, with the power on. -/
structure PR (s : DS) (l : LS) (recs : List (List UInt8)) : Prop where
  off : s.off = false
  W : s.W = []
  inv : LogInv (secOf s.L l.f) l.cnt l.age recs l.at_
  next : l.next = recs.length
  f : l.f = 3
  cnt : l.cnt = 100
  len : s.L.length = 120
def OpenR (w0 w : World) (d : Nat) (s : DS) (l : LS) (recs : List (List UInt8)) (X : Nat → Prop) (x : Ending) (w' : World) : Prop :=
  ∃ g ro rcap, x = .returned (.tuple #[.pointer (some ⟨g, 0, none⟩), .slice ro recs.length rcap, .int .i64 0]) ∧ SysX w0 w' d g s l X ∧ RecsAt w' w.heap.size ro recs ∧ Below w.heap.size w w'
theorem open_sysR {w0 w : World} {d : Nat} {s : DS} {l : LS} {recs : List (List UInt8)} {X : Nat → Prop} (h : OwnX w0 w d s X) (ht0 : Tab w0) (hp : PR s l recs) (hage : l.age ≤ 1000000000) :
    Calls Tryd.prog 7 #[.pointer (some ⟨d, 0, none⟩), .int .i64 3, .int .i64 100] w (OpenR w0 w d s l recs X) := by
  obtain ⟨M, I, h1, h6, h7⟩ := h
  have hinv := hp.inv
  rw [hp.f, hp.cnt] at hinv
  refine (open_log w h1 hp.off hp.W (by rw [hp.len]; decide) 3 100 l.age l.at_ recs hinv (by decide) (by rw [hp.len]; decide) hage (ht0.below h6)).mono ?_
  rintro x w' ⟨g, ro, rcap, rfl, hlog, hg, hr, hb⟩
  have hl : (⟨3, 100, l.age, recs.length, l.at_⟩ : LS) = l := by
    obtain ⟨f, cnt, age, next, at_⟩ := l
    have e1 := hp.f
    have e2 := hp.cnt
    have e3 := hp.next
    simp only at e1 e2 e3
    rw [e1, e2, e3]
  rw [hl] at hlog
  have hs := h6.size
  have hsb := hb.size
  exact ⟨g, ro, rcap, rfl, ⟨M, I, h1.below hb, hlog, fun hm => by have := (h1.lt g hm).2; omega, fun hm => by have := (h1.ltI g hm).2; omega, by omega, h6.trans (hb.mono hs), fun j hj => by obtain ⟨a, b, e⟩ := h7 j hj; exact ⟨a, b, by omega, by omega⟩⟩, hr, hb⟩
/-- In plain Lean: an Append, a Truncate, a crash when the power may go. -/
theorem append_downR {s : DS} {l : LS} {recs : List (List UInt8)} (h : PR s l recs) (b : List UInt8) (hb : b.length ≤ 1000000) (hn : needN b.length ≤ l.cnt - l.at_) :
    ((appendP l.f s l.at_ l.age l.next b).1 = 0 ∧ PR (appendP l.f s l.at_ l.age l.next b).2 (appendL l 0 b) (recs ++ [b]) ∨
     (appendP l.f s l.at_ l.age l.next b).1 = 8 ∧ s.left ≠ -1 ∧ ∀ P, PR ((appendP l.f s l.at_ l.age l.next b).2.crash P) l recs ∨ PR ((appendP l.f s l.at_ l.age l.next b).2.crash P) (appendL l 0 b) (recs ++ [b])) ∧
    (appendP l.f s l.at_ l.age l.next b).2.steps ≤ s.steps + needN b.length + 2 ∧ (appendP l.f s l.at_ l.age l.next b).2.W.length ≤ needN b.length := by
  have hr := append_res (f := l.f) (cnt := l.cnt) (at_ := l.at_) (age := l.age) (recs := recs) (s := s) b h.off h.W h.inv (by rw [h.f, h.cnt, h.len]; decide) hn hb
  rw [← h.next] at hr
  have hlen := hr.len
  generalize appendP l.f s l.at_ l.age l.next b = R at *
  have hnx : (appendL l 0 b).next = (recs ++ [b]).length := by
    show l.next + 1 = _
    rw [h.next]
    simp
  refine ⟨?_, hr.steps, hr.wl⟩
  rcases hr.res with ⟨h1, h2, h3, h4, h5⟩ | ⟨h1, h2, h3⟩
  · exact .inl ⟨h1, h2, h3, h4, hnx, h.f, h.cnt, by rw [hlen, h.len]⟩
  · refine .inr ⟨h1, h2, fun P => ?_⟩
    rcases h3 ((List.range R.2.W.length).map (kpick P)) with h4 | h4
    · exact .inl ⟨rfl, rfl, h4, h.next, h.f, h.cnt, by simp only [DS.crash]; rw [settleL_length, hlen, h.len]⟩
    · exact .inr ⟨rfl, rfl, h4, hnx, h.f, h.cnt, by simp only [DS.crash]; rw [settleL_length, hlen, h.len]⟩
/-- A crash of a disk on which all is written. -/
theorem PR.crash {s : DS} {l : LS} {recs : List (List UInt8)} (h : PR s l recs) (P : List Int) : PR (s.crash P) l recs := by
  have hL : (s.crash P).L = s.L := by simp [DS.crash, h.W, settleL]
  exact ⟨rfl, rfl, by rw [hL]; exact h.inv, h.next, h.f, h.cnt, by rw [hL, h.len]⟩
theorem PR.armed {s : DS} {l : LS} {recs : List (List UInt8)} (h : PR s l recs) (n : Int) : PR { s with left := n } l recs := ⟨h.off, h.W, h.inv, h.next, h.f, h.cnt, h.len⟩


def ds120 : DS := ⟨List.replicate 120 none, [], -1, false, 0⟩
def freshR : DS := (formatP 3 100 ds120).2
def freshLR : LS := ⟨3, 100, 1, 0, 2⟩
theorem freshPR : PR freshR freshLR [] ∧ freshR.left = -1 ∧ freshR.steps ≤ 200 := by
  have h := format_res (f := 3) (cnt := 100) (s := ds120) rfl rfl (by intro p hp; cases hp) (by decide) (by decide) (by simp [ds120])
  have h2 : ds120.L.length = 120 := by simp [ds120]
  have h3 := h.len
  have h4 := h.steps
  rw [h2] at h3
  rw [show ds120.steps = 0 from rfl] at h4
  have h5 := h.ok
  have h6 := h.inv
  unfold freshR
  generalize formatP 3 100 ds120 = R at *
  exact ⟨⟨h5.2.1, h5.2.2.1, h6, rfl, rfl, rfl, h3⟩, h5.2.2.2, by omega⟩
end Go.Proofs.YtpeehagaiofobaaDoor
