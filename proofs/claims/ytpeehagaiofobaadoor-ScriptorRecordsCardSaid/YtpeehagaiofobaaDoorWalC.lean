/- The laws' helper logs; a log in order, with the power on, in plain Lean. -/
import Derived.Test.YtpeehagaiofobaaDoorWalB
namespace Go.Proofs.YtpeehagaiofobaaDoor
open Go.RowKit

theorem append_on {s : DS} {l : LS} {recs : List (List UInt8)} (h : PL s l recs) (hleft : s.left = -1) (b : List UInt8) (hb : b.length ≤ 1000000) (hn : needN b.length ≤ l.cnt - l.at_) :
    (appendP l.f s l.at_ l.age l.next b).1 = 0 ∧ PL (appendP l.f s l.at_ l.age l.next b).2 (appendL l 0 b) (recs ++ [b]) ∧ (appendP l.f s l.at_ l.age l.next b).2.left = -1 ∧ (appendP l.f s l.at_ l.age l.next b).2.steps ≤ s.steps + 20 := by
  have hr := append_res (f := l.f) (cnt := l.cnt) (at_ := l.at_) (age := l.age) (recs := recs) (s := s) b h.off h.W h.inv (by rw [h.f, h.cnt, h.len]; decide) hn hb
  rw [← h.next] at hr
  generalize appendP l.f s l.at_ l.age l.next b = R at *
  have hc := h.cnt
  rcases hr.res with ⟨h1, h2, h3, h4, h5⟩ | ⟨_, h2, _⟩
  · refine ⟨h1, ⟨h2, h3, h4, ?_, h.f, h.cnt, by rw [hr.len, h.len]⟩, h5 hleft, by have := hr.steps; omega⟩
    show l.next + 1 = _
    rw [h.next]
    simp
  · exact absurd hleft h2
theorem trunc_on {s : DS} {l : LS} {recs : List (List UInt8)} (h : PL s l recs) (hleft : s.left = -1) :
    (truncP l.f s l.age).1 = 0 ∧ PL (truncP l.f s l.age).2 (truncL l 0) [] ∧ (truncP l.f s l.age).2.left = -1 ∧ (truncP l.f s l.age).2.steps ≤ s.steps + 20 := by
  have hr := trunc_res (f := l.f) (cnt := l.cnt) (at_ := l.at_) (age := l.age) (recs := recs) (s := s) h.off h.W h.inv (by rw [h.f, h.cnt, h.len]; decide)
  generalize truncP l.f s l.age = R at *
  rcases hr.res with ⟨h1, h2, h3, h4, h5⟩ | ⟨_, h2, _⟩
  · exact ⟨h1, ⟨h2, h3, h4, rfl, h.f, h.cnt, by rw [hr.len, h.len]⟩, h5 hleft, by have := hr.steps; omega⟩
  · exact absurd hleft h2

theorem PL.at_le {s : DS} {l : LS} {recs : List (List UInt8)} (h : PL s l recs) : l.at_ ≤ 14 := by have := h.inv.le; have := h.cnt; omega

end Go.Proofs.YtpeehagaiofobaaDoor
