/- The laws' helper logs; a log in order, with the power on, in plain Lean. -/
import Derived.Test.YtnonhmjfhcmpgaaDoorWalB
namespace Go.Proofs.YtnonhmjfhcmpgaaDoor
open Go.RowKit

theorem append_on {s : DS} {l : LS} {recs : List (List UInt8)} (h : PL s l recs) (hleft : s.left = -1) (b : List UInt8) (hb : b.length ≤ 1000000) (hn : needN b.length ≤ l.cnt - l.at_) :
    (appendP l.f s l.at_ l.age l.next b).1 = 0 ∧ PL (appendP l.f s l.at_ l.age l.next b).2 (appendL l 0 b) (recs ++ [b]) ∧ (appendP l.f s l.at_ l.age l.next b).2.left = -1 ∧ (appendP l.f s l.at_ l.age l.next b).2.steps ≤ s.steps + 20 := by
  have hr := append_res (f := l.f) (cnt := l.cnt) (at_ := l.at_) (age := l.age) (recs := recs) (s := s) b h.off h.W h.inv (by rw [h.f, h.cnt, h.len]; decide) hn hb
  rw [← h.next] at hr
  generalize appendP l.f s l.at_ l.age l.next b = R at *
  have hc := h.cnt
  rcases hr.res with ⟨h1, h2, h3, h4, h5⟩ | ⟨_, h2, _⟩
  · refine ⟨h1, ⟨h2, h3, h4, ?_, h.f, h.cnt, by rw [hr.len, h.len]⟩, h5 hleft, by have := hr.steps; omega⟩
    show l.next + 1 = _
    rw [h.next]
    simp
  · exact absurd hleft h2
theorem trunc_on {s : DS} {l : LS} {recs : List (List UInt8)} (h : PL s l recs) (hleft : s.left = -1) :
    (truncP l.f s l.age).1 = 0 ∧ PL (truncP l.f s l.age).2 (truncL l 0) [] ∧ (truncP l.f s l.age).2.left = -1 ∧ (truncP l.f s l.age).2.steps ≤ s.steps + 20 := by
  have hr := trunc_res (f := l.f) (cnt := l.cnt) (at_ := l.at_) (age := l.age) (recs := recs) (s := s) h.off h.W h.inv (by rw [h.f, h.cnt, h.len]; decide)
  generalize truncP l.f s l.age = R at *
  rcases hr.res with ⟨h1, h2, h3, h4, h5⟩ | ⟨_, h2, _⟩
  · exact ⟨h1, ⟨h2, h3, h4, rfl, h.f, h.cnt, by rw [hr.len, h.len]⟩, h5 hleft, by have := hr.steps; omega⟩
  · exact absurd hleft h2

theorem PL.at_le {s : DS} {l : LS} {recs : List (List UInt8)} (h : PL s l recs) : l.at_ ≤ 14 := by have := h.inv.le; have := h.cnt; omega

set_option maxRecDepth 100000 in
set_option maxHeartbeats 1000000 in
theorem logs_any (w : World) (hB0 : 0 < w.heap.size) (ht : Tab w) :
    Calls Tryd.prog 10 #[] w (Says w (.bool true)) := by
  have HT := Lib.hid ht
  clear ht
  have kc := conv_const
  obtain ⟨p0, l0, t0⟩ := freshP
  obtain ⟨e1, p1, l1, t1⟩ := append_on p0 l0 [97] (by decide) (by decide)
  obtain ⟨e2, p2, l2, t2⟩ := append_on p1 l1 [] (by decide) (by decide)
  have HP1 := Lib.hid (And.intro e1 p1)
  have HP2 := Lib.hid (And.intro e2 p2)
  have hw1 := p1.W
  have hst0 : freshS.steps ≤ 900000000 := by omega
  have hst1 : (appendP freshL.f freshS freshL.at_ freshL.age freshL.next [97]).2.steps ≤ 900000000 := by omega
  have HW := Lib.hid (And.intro hst0 (And.intro hst1 (And.intro (show freshS.W.length ≤ 900000000 by rw [p0.W]; decide) (show (appendP freshL.f freshS freshL.at_ freshL.age freshL.next [97]).2.W.length ≤ 900000000 by rw [hw1]; decide))))
  have HK := Lib.hid kc
  clear kc e1 p1 l1 e2 p2 l2 t0 t1 t2 p0 l0 hw1 hst0 hst1
  go_enter Tryd.func10, Tryd.ntmps10
  go_wp2_with fail
  refine (fresh_any w hB0 HT.out).mono ?_
  rintro e w1 ⟨d, g, rfl, h1⟩
  have H1 := Lib.hid h1
  have hs1 := h1.bel.size
  clear h1
  have kc := HK.out
  go_wp2_with fail
  clear kc
  refine (append_sys (w0 := w) (wp := w1) H1.out ((Below.refl _ w1).alloc (Nat.le_refl _) _) hB0 HT.out HW.out.1 HW.out.2.2.1 (by decide) (by decide) (by decide) (by decide) (some ⟨w1.heap.size, 0, none⟩) 1 1 [97] rfl (by decide) (by decide) (At.new w1 _ _ (1, 2)) (fun i hi _ => by cases hi; exact .inr (Nat.le_refl _)) (by decide)).mono ?_
  rintro e w2 ⟨rfl, h2⟩
  rw [HP1.out.1] at h2 ⊢
  have H2 := Lib.hid h2
  clear h2
  go_wp2_with fail
  refine (append_sys (w0 := w) (wp := w2) H2.out (Below.refl _ _) hB0 HT.out HW.out.2.1 HW.out.2.2.2 (by decide) (by decide) (by decide) (by decide) none 0 0 [] rfl (by decide) (by decide) (At.nil _ _) (fun i hi _ => by cases hi) (by decide)).mono ?_
  rintro e w3 ⟨rfl, h3⟩
  rw [HP2.out.1] at h3 ⊢
  have H3 := Lib.hid h3
  clear h3
  go_wp2_with fail
  refine (open_sys H3.out.own HT.out HP2.out.2 (by decide)).mono ?_
  rintro e w4 ⟨g2, ro, rcap, rfl, hsys, hrec, _⟩
  have H4 := Lib.hid hsys
  obtain ⟨vs, hat, hall, _⟩ := hrec
  have hl2 : vs.length = 2 := hall.1
  match vs, hl2 with
  | [v1, v2], _ =>
    obtain ⟨ao1, c1, rfl, a1, _⟩ := hall.2 0 v1 [97] rfl rfl
    obtain ⟨ao2, c2, rfl, a2, _⟩ := hall.2 1 v2 [] rfl rfl
    obtain ⟨rb, rof, rfl, hc0⟩ := hat.exv 0 (by simp)
    have hc1 := At.cell hat 1 _ rfl
    have HA := Lib.hid a1
    simp only [List.getElem_cons_zero, Nat.add_zero, List.length_cons, List.length_nil, Nat.zero_add] at hc0 hc1
    clear hsys hall hat a1 a2
    go_wp2_with (refine conv_str rfl _ rfl ao1 1 c1 rfl [97] HA.out rfl ?_)
    go_returns
    exact ⟨rfl, H4.out.bel⟩

end Go.Proofs.YtnonhmjfhcmpgaaDoor
