/- A log of the law's own: calls on it; the laws' helpers fresh and logs. -/
import Derived.Test.YtpeehagaiofobaaDoorWalA
import Derived.Test.YtpeehagaiofobaaDoorWalF
namespace Go.Proofs.YtpeehagaiofobaaDoor
open Go.RowKit

/-- A disk and a log of the call's own, behind some calls. -/
def Sysd (w0 w : World) (d g : Nat) (s : DS) (l : LS) : Prop := ∃ M I, DiskAt w0.heap.size w M I d s ∧ LogAt w g d l ∧ ¬ M g ∧ ¬ I g ∧ w0.heap.size ≤ g ∧ Below w0.heap.size w0 w
theorem Sysd.below {w0 w w' : World} {d g : Nat} {s : DS} {l : LS} (h : Sysd w0 w d g s l) (hb : Below w.heap.size w w') : Sysd w0 w' d g s l := by
  obtain ⟨M, I, h1, h2, h3, h4, h5, h6⟩ := h
  exact ⟨M, I, h1.below hb, h2.below hb, h3, h4, h5, h6.trans (hb.mono h6.size)⟩
theorem Sysd.own {w0 w : World} {d g : Nat} {s : DS} {l : LS} (h : Sysd w0 w d g s l) : Own w0 w d s := by
  obtain ⟨M, I, h1, h2, h3, h4, h5, h6⟩ := h
  exact ⟨M, I, h1, h6⟩
theorem Sysd.bel {w0 w : World} {d g : Nat} {s : DS} {l : LS} (h : Sysd w0 w d g s l) : Below w0.heap.size w0 w := by
  obtain ⟨M, I, h1, h2, h3, h4, h5, h6⟩ := h
  exact h6
theorem Sysd.log {w0 w : World} {d g : Nat} {s : DS} {l : LS} (h : Sysd w0 w d g s l) : LogAt w g d l := by
  obtain ⟨M, I, h1, h2, h3, h4, h5, h6⟩ := h
  exact h2
/-- What a call on a log leaves alone: all blocks that are not the log's or the disk's: a mark, and a set of blocks kept. -/
theorem Sysd.step {w0 w w' : World} {M I : Nat → Prop} {d g : Nat} {s s' : DS} {l' : LS} (h1 : DiskAt w0.heap.size w M I d s) (h5 : w0.heap.size ≤ g) (h6 : Below w0.heap.size w0 w) (u : SysUpd w0.heap.size w M I d g s' l' w') : Sysd w0 w' d g s' l' := by
  obtain ⟨M', I', d', l', nM, nI, K, m, i⟩ := u
  refine ⟨M', I', d', l', nM, nI, h5, h6.trans (K.below (fun j hj h => ?_) h6.size)⟩
  rcases h with h | h
  · have := (h1.lt j h).1; omega
  · omega
/-- The blocks that a call on a log may write. -/
def Apart (w0 w : World) (d g : Nat) (s : DS) (l : LS) (X : Nat → Prop) : Prop := ∃ M I, DiskAt w0.heap.size w M I d s ∧ LogAt w g d l ∧ ¬ M g ∧ ¬ I g ∧ w0.heap.size ≤ g ∧ Below w0.heap.size w0 w ∧ ∀ j, X j → ¬ M j ∧ ¬ I j ∧ j ≠ g ∧ j < w.heap.size

/-- An Append, with a row of bytes laid before or since. -/
theorem append_sys {w0 wp w : World} {d g : Nat} {s : DS} {l : LS} (h : Sysd w0 wp d g s l) (hbp : Below wp.heap.size wp w) (hB0 : 0 < w0.heap.size) (ht0 : Tab w0) (hst : s.steps ≤ 900000000) (hWl : s.W.length ≤ 900000000) (hf : l.f ≤ 1000000) (hcnt : l.cnt ≤ 1000000) (hnext : l.next ≤ 1000000) (hage : l.age ≤ 900000000)
    (bo : Option Addr) (k cap : Nat) (b : List UInt8) (hk : k = b.length) (hbc : b.length ≤ cap) (hb : b.length ≤ 1000000) (hat : At w bo (bytesV b)) (hbo : ∀ i, blk bo = some i → b ≠ [] → i < w0.heap.size ∨ wp.heap.size ≤ i) (hn : needN b.length ≤ l.cnt - l.at_) :
    Calls Tryd.prog 11 #[.pointer (some ⟨g, 0, none⟩), .slice bo k cap] w (fun e w' => e = .returned (.int .i64 ((appendP l.f s l.at_ l.age l.next b).1 : Int)) ∧ Sysd w0 w' d g (appendP l.f s l.at_ l.age l.next b).2 (appendL l (appendP l.f s l.at_ l.age l.next b).1 b)) := by
  subst hk
  obtain ⟨M, I, h1, h2, h3, h4, h5, h6⟩ := h
  have h60 : Below w0.heap.size w0 w := h6.trans (hbp.mono h6.size)
  have hs := h60.size
  refine (append_any w (h1.below hbp) (h2.below hbp) h3 h4 hst hWl hf hcnt hnext hage bo cap b hbc hb hat (fun i hi hne => ?_) hn (ht0.below h60) hB0 hs).mono ?_
  · have hlt := h2.lt
    rcases hbo i hi (by rintro rfl; exact hne rfl) with h | h
    · exact ⟨fun hm => by have := (h1.lt i hm).1; omega, by omega⟩
    · exact ⟨fun hm => by have := (h1.lt i hm).2; omega, by omega⟩
  · rintro e w' ⟨rfl, hu⟩
    exact ⟨rfl, Sysd.step (h1.below hbp) h5 h60 hu⟩
/-- A log in order, with the power on. -/
structure PL (s : DS) (l : LS) (recs : List (List UInt8)) : Prop where
  off : s.off = false
  W : s.W = []
  inv : LogInv (secOf s.L l.f) l.cnt l.age recs l.at_
  next : l.next = recs.length
  f : l.f = 2
  cnt : l.cnt = 14
  len : s.L.length = 18
def OpenSys (w0 w : World) (d : Nat) (s : DS) (l : LS) (recs : List (List UInt8)) (x : Ending) (w' : World) : Prop :=
  ∃ g ro rcap, x = .returned (.tuple #[.pointer (some ⟨g, 0, none⟩), .slice ro recs.length rcap, .int .i64 0]) ∧ Sysd w0 w' d g s l ∧ RecsAt w' w.heap.size ro recs ∧ Below w.heap.size w w'
theorem open_sys {w0 w : World} {d : Nat} {s : DS} {l : LS} {recs : List (List UInt8)} (h : Own w0 w d s) (ht0 : Tab w0) (hp : PL s l recs) (hage : l.age ≤ 1000000000) :
    Calls Tryd.prog 7 #[.pointer (some ⟨d, 0, none⟩), .int .i64 2, .int .i64 14] w (OpenSys w0 w d s l recs) := by
  obtain ⟨M, I, h1, h6⟩ := h
  have hinv := hp.inv
  rw [hp.f, hp.cnt] at hinv
  refine (open_log w h1 hp.off hp.W (by rw [hp.len]; decide) 2 14 l.age l.at_ recs hinv (by decide) (by rw [hp.len]; decide) hage (ht0.below h6)).mono ?_
  rintro x w' ⟨g, ro, rcap, rfl, hlog, hg, hr, hb⟩
  have hl : (⟨2, 14, l.age, recs.length, l.at_⟩ : LS) = l := by
    obtain ⟨f, cnt, age, next, at_⟩ := l
    have e1 := hp.f
    have e2 := hp.cnt
    have e3 := hp.next
    simp only at e1 e2 e3
    rw [e1, e2, e3]
  rw [hl] at hlog
  have hs := h6.size
  exact ⟨g, ro, rcap, rfl, ⟨M, I, h1.below hb, hlog, fun hm => by have := (h1.lt g hm).2; omega, fun hm => by have := (h1.ltI g hm).2; omega, by omega, h6.trans (hb.mono hs)⟩, hr, hb⟩
theorem crash_sys {w0 wp w : World} {d g : Nat} {s : DS} {l : LS} (h : Sysd w0 wp d g s l) (hWl : s.W.length ≤ 1000000000) (hbp : Below wp.heap.size wp w) (po : Option Addr) (pcap : Nat) (P : List Int) (hP : P.length ≤ 9223372036854775807) (hpat : At w po (P.map (Value.int .i64))) (hpo : ∀ b, blk po = some b → P ≠ [] → b < w0.heap.size ∨ wp.heap.size ≤ b) :
    Calls Tryd.prog 12 #[.pointer (some ⟨d, 0, none⟩), .slice po P.length pcap] w (fun e w' => (∃ v, e = .returned v) ∧ Own w0 w' d (s.crash P)) := crash_own h.own hWl hbp po pcap P hP hpat hpo

/-- A new log. -/
def ds18 : DS := ⟨List.replicate 18 none, [], -1, false, 0⟩
def freshS : DS := (formatP 2 14 ds18).2
def freshL : LS := ⟨2, 14, 1, 0, 2⟩
theorem freshP : PL freshS freshL [] ∧ freshS.left = -1 ∧ freshS.steps ≤ 100 := by
  have h := format_res (f := 2) (cnt := 14) (s := ds18) rfl rfl (by intro p hp; cases hp) (by decide) (by decide) (by decide)
  exact ⟨⟨h.ok.2.1, h.ok.2.2.1, h.inv, rfl, rfl, rfl, by rw [show freshS = (formatP 2 14 ds18).2 from rfl, h.len]; rfl⟩, h.ok.2.2.2, Nat.le_trans h.steps (by decide)⟩

end Go.Proofs.YtpeehagaiofobaaDoor
