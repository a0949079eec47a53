/- A log beside rows of the law's own, which stay; and the log in plain Lean when the power may go. -/
import Derived.Test.YtpeehagaiofobaaDoorWalC
namespace Go.Proofs.YtpeehagaiofobaaDoor
open Go.RowKit

/-- A disk and a log of the call's own; the blocks X are neither the disk's nor the log's. -/
def SysX (w0 w : World) (d g : Nat) (s : DS) (l : LS) (X : Nat → Prop) : Prop :=
  ∃ M I, DiskAt w0.heap.size w M I d s ∧ LogAt w g d l ∧ ¬ M g ∧ ¬ I g ∧ w0.heap.size ≤ g ∧ Below w0.heap.size w0 w ∧ ∀ j, X j → ¬ M j ∧ ¬ I j ∧ j ≠ g ∧ j < w.heap.size
theorem SysX.sys {w0 w : World} {d g : Nat} {s : DS} {l : LS} {X : Nat → Prop} (h : SysX w0 w d g s l X) : Sysd w0 w d g s l := by
  obtain ⟨M, I, h1, h2, h3, h4, h5, h6, _⟩ := h
  exact ⟨M, I, h1, h2, h3, h4, h5, h6⟩
theorem Sysd.bare {w0 w : World} {d g : Nat} {s : DS} {l : LS} (h : Sysd w0 w d g s l) : SysX w0 w d g s l fun _ => False := by
  obtain ⟨M, I, h1, h2, h3, h4, h5, h6⟩ := h
  exact ⟨M, I, h1, h2, h3, h4, h5, h6, fun _ h => h.elim⟩
theorem SysX.bel {w0 w : World} {d g : Nat} {s : DS} {l : LS} {X : Nat → Prop} (h : SysX w0 w d g s l X) : Below w0.heap.size w0 w := h.sys.bel
theorem SysX.log {w0 w : World} {d g : Nat} {s : DS} {l : LS} {X : Nat → Prop} (h : SysX w0 w d g s l X) : LogAt w g d l := h.sys.log
/-- The world grows; rows laid since, or long before, may be kept from now on. -/
theorem SysX.grow {w0 w w' : World} {d g : Nat} {s : DS} {l : LS} {X : Nat → Prop} (Y : Nat → Prop) (h : SysX w0 w d g s l X) (hb : Below w.heap.size w w') (hY : ∀ j, Y j → X j ∨ (w.heap.size ≤ j ∧ j < w'.heap.size) ∨ j < w0.heap.size) : SysX w0 w' d g s l Y := by
  obtain ⟨M, I, h1, h2, h3, h4, h5, h6, h7⟩ := h
  have hs := hb.size
  have hs6 := h6.size
  refine ⟨M, I, h1.below hb, h2.below hb, h3, h4, h5, h6.trans (hb.mono hs6), fun j hj => ?_⟩
  have hlt := h2.lt
  rcases hY j hj with hx | hx | hx
  · obtain ⟨a, b, c, e⟩ := h7 j hx
    exact ⟨a, b, c, by omega⟩
  · exact ⟨fun hm => by have := (h1.lt j hm).2; omega, fun hm => by have := (h1.ltI j hm).2; omega, by omega, by omega⟩
  · exact ⟨fun hm => by have := (h1.lt j hm).1; omega, fun hm => by have := (h1.ltI j hm).1; omega, by omega, by omega⟩
theorem SysX.below {w0 w w' : World} {d g : Nat} {s : DS} {l : LS} {X : Nat → Prop} (h : SysX w0 w d g s l X) (hb : Below w.heap.size w w') : SysX w0 w' d g s l X := h.grow X hb fun _ h => .inl h
/-- All but the blocks X may have changed. -/
def Stays (X : Nat → Prop) (w w' : World) : Prop := Keeps (fun j => ¬ X j) w w'
theorem SysX.step {w0 w w' : World} {M I X : Nat → Prop} {d g : Nat} {s s' : DS} {l' : LS} (h1 : DiskAt w0.heap.size w M I d s) (h5 : w0.heap.size ≤ g) (h6 : Below w0.heap.size w0 w) (h7 : ∀ j, X j → ¬ M j ∧ ¬ I j ∧ j ≠ g ∧ j < w.heap.size) (u : SysUpd w0.heap.size w M I d g s' l' w') : SysX w0 w' d g s' l' X ∧ Stays X w w' := by
  obtain ⟨M', I', d', l', nM, nI, K, m, i⟩ := u
  have hs := K.size
  refine ⟨⟨M', I', d', l', nM, nI, h5, h6.trans (K.below (fun j hj h => ?_) h6.size), fun j hj => ?_⟩, K.mono fun j _ hj hx => ?_⟩
  · rcases h with h | h
    · have := (h1.lt j h).1; omega
    · omega
  · obtain ⟨a, b, c, e⟩ := h7 j hj
    exact ⟨fun hm => by rcases m j hm with h | h; exact a h; omega, fun hm => by rcases i j hm with h | h; exact b h; omega, c, by omega⟩
  · obtain ⟨a, b, c, e⟩ := h7 j hx
    rcases hj with h | h
    · exact a h
    · exact c h

theorem append_sysX {w0 wp w : World} {d g : Nat} {s : DS} {l : LS} {X : Nat → Prop} (h : SysX w0 wp d g s l X) (hbp : Below wp.heap.size wp w) (hB0 : 0 < w0.heap.size) (ht0 : Tab w0) (hst : s.steps ≤ 900000000) (hWl : s.W.length ≤ 900000000) (hf : l.f ≤ 1000000) (hcnt : l.cnt ≤ 1000000) (hnext : l.next ≤ 1000000) (hage : l.age ≤ 900000000)
    (bo : Option Addr) (k cap : Nat) (b : List UInt8) (hk : k = b.length) (hbc : b.length ≤ cap) (hb : b.length ≤ 1000000) (hat : At w bo (bytesV b)) (hbo : ∀ i, blk bo = some i → b ≠ [] → i < w0.heap.size ∨ wp.heap.size ≤ i ∨ X i) (hn : needN b.length ≤ l.cnt - l.at_) :
    Calls Tryd.prog 11 #[.pointer (some ⟨g, 0, none⟩), .slice bo k cap] w (fun e w' => e = .returned (.int .i64 ((appendP l.f s l.at_ l.age l.next b).1 : Int)) ∧ SysX w0 w' d g (appendP l.f s l.at_ l.age l.next b).2 (appendL l (appendP l.f s l.at_ l.age l.next b).1 b) X ∧ Stays X w w') := by
  subst hk
  obtain ⟨M, I, h1, h2, h3, h4, h5, h6, h7⟩ := h
  have h60 : Below w0.heap.size w0 w := h6.trans (hbp.mono h6.size)
  have hs := h60.size
  have hsp := hbp.size
  refine (append_any w (h1.below hbp) (h2.below hbp) h3 h4 hst hWl hf hcnt hnext hage bo cap b hbc hb hat (fun i hi hne => ?_) hn (ht0.below h60) hB0 hs).mono ?_
  · have hlt := h2.lt
    rcases hbo i hi (by rintro rfl; exact hne rfl) with h | h | h
    · exact ⟨fun hm => by have := (h1.lt i hm).1; omega, by omega⟩
    · exact ⟨fun hm => by have := (h1.lt i hm).2; omega, by omega⟩
    · exact ⟨(h7 i h).1, (h7 i h).2.2.1⟩
  · rintro e w' ⟨rfl, hu⟩
    exact ⟨rfl, SysX.step (h1.below hbp) h5 h60 (fun j hj => by obtain ⟨a, b, c, e⟩ := h7 j hj; exact ⟨a, b, c, by omega⟩) hu⟩
/-- A disk of the call's own, beside blocks that stay. -/
def OwnX (w0 w : World) (d : Nat) (s : DS) (X : Nat → Prop) : Prop := ∃ M I, DiskAt w0.heap.size w M I d s ∧ Below w0.heap.size w0 w ∧ ∀ j, X j → ¬ M j ∧ ¬ I j ∧ j < w.heap.size
theorem SysX.own {w0 w : World} {d g : Nat} {s : DS} {l : LS} {X : Nat → Prop} (h : SysX w0 w d g s l X) : OwnX w0 w d s X := by
  obtain ⟨M, I, h1, h2, h3, h4, h5, h6, h7⟩ := h
  exact ⟨M, I, h1, h6, fun j hj => ⟨(h7 j hj).1, (h7 j hj).2.1, (h7 j hj).2.2.2⟩⟩
theorem OwnX.grow {w0 w w' : World} {d : Nat} {s : DS} {X : Nat → Prop} (Y : Nat → Prop) (h : OwnX w0 w d s X) (hb : Below w.heap.size w w') (hY : ∀ j, Y j → X j ∨ (w.heap.size ≤ j ∧ j < w'.heap.size) ∨ j < w0.heap.size) : OwnX w0 w' d s Y := by
  obtain ⟨M, I, h1, h6, h7⟩ := h
  have hs := hb.size
  have hs6 := h6.size
  refine ⟨M, I, h1.below hb, h6.trans (hb.mono hs6), fun j hj => ?_⟩
  rcases hY j hj with hx | hx | hx
  · obtain ⟨a, b, c⟩ := h7 j hx
    exact ⟨a, b, by omega⟩
  · exact ⟨fun hm => by have := (h1.lt j hm).2; omega, fun hm => by have := (h1.ltI j hm).2; omega, by omega⟩
  · exact ⟨fun hm => by have := (h1.lt j hm).1; omega, fun hm => by have := (h1.ltI j hm).1; omega, by omega⟩
theorem OwnX.bel {w0 w : World} {d : Nat} {s : DS} {X : Nat → Prop} (h : OwnX w0 w d s X) : Below w0.heap.size w0 w := by
  obtain ⟨M, I, h1, h6, h7⟩ := h
  exact h6
theorem OwnX.step {w0 w w' : World} {M I X : Nat → Prop} {d : Nat} {s s' : DS} (h1 : DiskAt w0.heap.size w M I d s) (h6 : Below w0.heap.size w0 w) (h7 : ∀ j, X j → ¬ M j ∧ ¬ I j ∧ j < w.heap.size) (u : Upd w0.heap.size w M I d s' w') : OwnX w0 w' d s' X ∧ Stays X w w' := by
  have hbu := Upd.below h1 u h6.size
  obtain ⟨M', I', d', K, m, i⟩ := u
  have hs := K.size
  refine ⟨⟨M', I', d', h6.trans hbu, fun j hj => ?_⟩, K.mono fun j _ hj hx => (h7 j hx).1 hj⟩
  obtain ⟨a, b, e⟩ := h7 j hj
  exact ⟨fun hm => by rcases m j hm with h | h; exact a h; omega, fun hm => by rcases i j hm with h | h; exact b h; omega, by omega⟩
theorem crash_sysX {w0 w : World} {d : Nat} {s : DS} {X : Nat → Prop} (h : OwnX w0 w d s X) (hWl : s.W.length ≤ 1000000000) (po : Option Addr) (pcap : Nat) (P : List Int) (hP : P.length ≤ 9223372036854775807) (hpat : At w po (P.map (Value.int .i64))) (hpo : ∀ b, blk po = some b → P ≠ [] → b < w0.heap.size ∨ X b) :
    Calls Tryd.prog 12 #[.pointer (some ⟨d, 0, none⟩), .slice po P.length pcap] w (fun e w' => (∃ v, e = .returned v) ∧ OwnX w0 w' d (s.crash P) X ∧ Stays X w w') := by
  obtain ⟨M, I, hd, hb, h7⟩ := h
  refine (crash_any w hd hWl hb.size po pcap P hP hpat (fun b hb hn hm => by rcases hpo b hb hn with h | h; have := (hd.lt _ hm).1; omega; exact (h7 b h).1 hm)).mono ?_
  rintro e w' ⟨hv, hu⟩
  exact ⟨hv, OwnX.step hd hb h7 hu⟩
theorem arm_sysX {w0 w : World} {d : Nat} {g : Nat} {s : DS} {l : LS} {X : Nat → Prop} (h : SysX w0 w d g s l X) (n : Nat) (hn : n ≤ 1000000000) :
    Calls Tryd.prog 8 #[.pointer (some ⟨d, 0, none⟩), .int .i64 (n : Int)] w (fun e w' => (∃ v, e = .returned v) ∧ SysX w0 w' d g { s with left := (n : Int) } l X ∧ Stays X w w') := by
  obtain ⟨M, I, h1, h2, h3, h4, h5, h6, h7⟩ := h
  refine (arm_any w h1 n hn).mono ?_
  rintro e w' ⟨hv, hd, hg⟩
  have hMd : M d := by
    obtain ⟨_, _, _, _, _, _, _, _, _, _, _, _, _, _, _, _, hM⟩ := h1
    exact (hM d).2 (.inl rfl)
  have K : Keeps M w w' := ⟨hg.1, hg.2, hg.3, hg.4, fun k hk hx => hg.5 k hk fun h => hx (by cases h; exact hMd)⟩
  exact ⟨hv, SysX.step h1 h5 h6 h7 ⟨M, I, hd, h2.keeps K h3, h3, h4, K.mono fun _ _ h => .inl h, fun _ h => .inl h, fun _ h => .inl h⟩⟩
def OpenX (w0 w : World) (d : Nat) (s : DS) (l : LS) (recs : List (List UInt8)) (X : Nat → Prop) (x : Ending) (w' : World) : Prop :=
  ∃ g ro rcap, x = .returned (.tuple #[.pointer (some ⟨g, 0, none⟩), .slice ro recs.length rcap, .int .i64 0]) ∧ SysX w0 w' d g s l X ∧ RecsAt w' w.heap.size ro recs ∧ Below w.heap.size w w'
theorem open_sysX {w0 w : World} {d : Nat} {s : DS} {l : LS} {recs : List (List UInt8)} {X : Nat → Prop} (h : OwnX w0 w d s X) (ht0 : Tab w0) (hp : PL s l recs) (hage : l.age ≤ 1000000000) :
    Calls Tryd.prog 7 #[.pointer (some ⟨d, 0, none⟩), .int .i64 2, .int .i64 14] w (OpenX w0 w d s l recs X) := by
  obtain ⟨M, I, h1, h6, h7⟩ := h
  have hinv := hp.inv
  rw [hp.f, hp.cnt] at hinv
  refine (open_log w h1 hp.off hp.W (by rw [hp.len]; decide) 2 14 l.age l.at_ recs hinv (by decide) (by rw [hp.len]; decide) hage (ht0.below h6)).mono ?_
  rintro x w' ⟨g, ro, rcap, rfl, hlog, hg, hr, hb⟩
  have hl : (⟨2, 14, l.age, recs.length, l.at_⟩ : LS) = l := by
    obtain ⟨f, cnt, age, next, at_⟩ := l
    have e1 := hp.f
    have e2 := hp.cnt
    have e3 := hp.next
    simp only at e1 e2 e3
    rw [e1, e2, e3]
  rw [hl] at hlog
  have hs := h6.size
  have hsb := hb.size
  exact ⟨g, ro, rcap, rfl, ⟨M, I, h1.below hb, hlog, fun hm => by have := (h1.lt g hm).2; omega, fun hm => by have := (h1.ltI g hm).2; omega, by omega, h6.trans (hb.mono hs), fun j hj => by obtain ⟨a, b, e⟩ := h7 j hj; exact ⟨a, b, by omega, by omega⟩⟩, hr, hb⟩
theorem Stays.trans {X : Nat → Prop} {w w' w'' : World} (h : Stays X w w') (h' : Stays X w' w'') : Stays X w w'' := Keeps.trans' h h'
theorem Stays.of_below {X : Nat → Prop} {w w' : World} (h : Below w.heap.size w w') : Stays X w w' := Keeps.of_below h
theorem Stays.at {X : Nat → Prop} {w w' : World} (h : Stays X w w') {ao : Option Addr} {xs : List Value} (ha : At w ao xs) (hX : ∀ b, blk ao = some b → xs ≠ [] → X b) : At w' ao xs := ha.keeps h fun b hb hn hc => hc (hX b hb hn)

/-- In plain Lean: an Append, a Truncate, a crash when the power may go. -/
theorem append_down {s : DS} {l : LS} {recs : List (List UInt8)} (h : PL s l recs) (b : List UInt8) (hb : b.length ≤ 1000000) (hn : needN b.length ≤ l.cnt - l.at_) :
    ((appendP l.f s l.at_ l.age l.next b).1 = 0 ∧ PL (appendP l.f s l.at_ l.age l.next b).2 (appendL l 0 b) (recs ++ [b]) ∨
     (appendP l.f s l.at_ l.age l.next b).1 = 8 ∧ s.left ≠ -1 ∧ ∀ P, PL ((appendP l.f s l.at_ l.age l.next b).2.crash P) l recs ∨ PL ((appendP l.f s l.at_ l.age l.next b).2.crash P) (appendL l 0 b) (recs ++ [b])) ∧
    (appendP l.f s l.at_ l.age l.next b).2.steps ≤ s.steps + needN b.length + 2 ∧ (appendP l.f s l.at_ l.age l.next b).2.W.length ≤ needN b.length := by
  have hr := append_res (f := l.f) (cnt := l.cnt) (at_ := l.at_) (age := l.age) (recs := recs) (s := s) b h.off h.W h.inv (by rw [h.f, h.cnt, h.len]; decide) hn hb
  rw [← h.next] at hr
  have hlen := hr.len
  generalize appendP l.f s l.at_ l.age l.next b = R at *
  have hnx : (appendL l 0 b).next = (recs ++ [b]).length := by
    show l.next + 1 = _
    rw [h.next]
    simp
  refine ⟨?_, hr.steps, hr.wl⟩
  rcases hr.res with ⟨h1, h2, h3, h4, h5⟩ | ⟨h1, h2, h3⟩
  · exact .inl ⟨h1, h2, h3, h4, hnx, h.f, h.cnt, by rw [hlen, h.len]⟩
  · refine .inr ⟨h1, h2, fun P => ?_⟩
    rcases h3 ((List.range R.2.W.length).map (kpick P)) with h4 | h4
    · exact .inl ⟨rfl, rfl, h4, h.next, h.f, h.cnt, by simp only [DS.crash]; rw [settleL_length, hlen, h.len]⟩
    · exact .inr ⟨rfl, rfl, h4, hnx, h.f, h.cnt, by simp only [DS.crash]; rw [settleL_length, hlen, h.len]⟩
theorem trunc_down {s : DS} {l : LS} {recs : List (List UInt8)} (h : PL s l recs) :
    ((truncP l.f s l.age).1 = 0 ∧ PL (truncP l.f s l.age).2 (truncL l 0) [] ∨
     (truncP l.f s l.age).1 = 8 ∧ s.left ≠ -1 ∧ ∀ P, PL ((truncP l.f s l.age).2.crash P) l recs ∨ PL ((truncP l.f s l.age).2.crash P) (truncL l 0) []) ∧
    (truncP l.f s l.age).2.steps ≤ s.steps + 2 ∧ (truncP l.f s l.age).2.W.length ≤ 1 := by
  have hr := trunc_res (f := l.f) (cnt := l.cnt) (at_ := l.at_) (age := l.age) (recs := recs) (s := s) h.off h.W h.inv (by rw [h.f, h.cnt, h.len]; decide)
  have hlen := hr.len
  generalize truncP l.f s l.age = R at *
  refine ⟨?_, hr.steps, hr.wl⟩
  rcases hr.res with ⟨h1, h2, h3, h4, h5⟩ | ⟨h1, h2, h3⟩
  · exact .inl ⟨h1, h2, h3, h4, rfl, h.f, h.cnt, by rw [hlen, h.len]⟩
  · refine .inr ⟨h1, h2, fun P => ?_⟩
    rcases h3 ((List.range R.2.W.length).map (kpick P)) with h4 | h4
    · exact .inl ⟨rfl, rfl, h4, h.next, h.f, h.cnt, by simp only [DS.crash]; rw [settleL_length, hlen, h.len]⟩
    · exact .inr ⟨rfl, rfl, h4, rfl, h.f, h.cnt, by simp only [DS.crash]; rw [settleL_length, hlen, h.len]⟩
/-- A crash of a disk on which all is written. -/
theorem PL.crash {s : DS} {l : LS} {recs : List (List UInt8)} (h : PL s l recs) (P : List Int) : PL (s.crash P) l recs := by
  have hL : (s.crash P).L = s.L := by simp [DS.crash, h.W, settleL]
  exact ⟨rfl, rfl, by rw [hL]; exact h.inv, h.next, h.f, h.cnt, by rw [hL, h.len]⟩
theorem PL.armed {s : DS} {l : LS} {recs : List (List UInt8)} (h : PL s l recs) (n : Int) : PL { s with left := n } l recs := ⟨h.off, h.W, h.inv, h.next, h.f, h.cnt, h.len⟩

end Go.Proofs.YtpeehagaiofobaaDoor
