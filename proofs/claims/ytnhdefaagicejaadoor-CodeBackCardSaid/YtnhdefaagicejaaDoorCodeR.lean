/- Steps that are come to one behind the other, and what is seen: in plain Lean. -/
import Derived.Test.YtnhdefaagicejaaDoorCodeS
namespace Go.Proofs.YtnhdefaagicejaaDoor
set_option linter.unusedSimpArgs false
set_option linter.unusedVariables false

theorem run_work {fl : List UInt8 → Bool} {c : CodeP} {L : List Int} {k n : Nat} {p : Option Int} (hfr : Frees c L) : ∀ (ws : List (Int × FrP)) (S : Int → Option FrP) (W : List Int), Work fl c L k n S W p →
    (∀ w ∈ ws, (∀ F, ClosedF fl c L F → 0 ≤ w.1 ∧ w.1 < c.ins.length ∧ w.2.h ≤ 10000 ∧ F w.1 = some w.2) ∧ (0 ≤ w.1 → w.1 < c.ins.length → w.2.h ≤ 10000 → InFr c n w.1 w.2)) →
    (∀ S' W', runWays c ws S W = some (S', W') → Work fl c L k n S' W' p ∧ (∀ z g, S z = some g → S' z = some g) ∧ ∀ w ∈ ws, S' w.1 = some w.2) ∧ (runWays c ws S W = none → ¬ Ord fl c)
  | [], S, W, h, _ => ⟨fun S' W' hr => by
      simp only [runWays, Option.some.injEq, Prod.mk.injEq] at hr
      obtain ⟨rfl, rfl⟩ := hr
      exact ⟨h, fun _ _ h => h, fun _ h => by cases h⟩, fun hr => by simp [runWays] at hr⟩
  | (d, g) :: ws, S, W, h, hw => by
    obtain ⟨h1, h2⟩ := hw (d, g) (by simp)
    cases hok : comeOk c S d g with
    | false =>
      refine ⟨fun S' W' hr => ?_, fun _ => h.come_no hok h1 hfr⟩
      simp [runWays, hok] at hr
    | true =>
      have hin := of_decide_eq_true hok
      have hc := h.come hok (h2 hin.1 hin.2.1 hin.2.2.1) (fun F hF => (h1 F hF).2.2.2)
      have ih := run_work hfr ws _ _ hc (fun w hm => hw w (by simp [hm]))
      have e : runWays c ((d, g) :: ws) S W = runWays c ws (comeS S d g) (comeW S W d) := by simp [runWays, hok]
      rw [e]
      refine ⟨fun S' W' hr => ?_, ih.2⟩
      obtain ⟨i1, i2, i3⟩ := ih.1 S' W' hr
      refine ⟨i1, fun z f hz => i2 z f (comeS_sub S d g z f hz), fun w hm => ?_⟩
      rcases List.mem_cons.1 hm with rfl | hm
      · exact i2 d g (comeS_at hok)
      · exact i3 w hm
/-- A step that is under way: it goes on, or the code is in no order. -/
theorem work_step {fl : List UInt8 → Bool} {c : CodeP} {L : List Int} {k n : Nat} {S : Int → Option FrP} {W : List Int} {z : Nat} {f : FrP} {x : InsP} (hfr : Frees c L) (hp : Pre c) (h : Work fl c L k n S W (some (z : Int))) (hz : S z = some f) (hx : c.ins[z]? = some x) (hf : InFr c (n + 1) z f) :
    (∀ S' W', (fitsP fl c L x f).1 = true → runWays c (waysP z x f (fitsP fl c L x f).2) S W = some (S', W') → Work fl c L k n S' W' none) ∧
    ((fitsP fl c L x f).1 = false ∨ (fitsP fl c L x f).1 = true ∧ runWays c (waysP z x f (fitsP fl c L x f).2) S W = none → ¬ Ord fl c) := by
  have hxo := hp.op x (List.mem_of_getElem? hx)
  cases hok : (fitsP fl c L x f).1 with
  | false => exact ⟨fun S' W' h => by (cases h), fun _ => h.fits_no hz hx hok hfr⟩
  | true =>
    have hway := fun w hw => h.way (fl := fl) (L := L) hz hx (w := w) hw
    have key : (∀ S' W', runWays c (waysP z x f (fitsP fl c L x f).2) S W = some (S', W') → Work fl c L k n S' W' (some (z : Int)) ∧ (∀ y g, S y = some g → S' y = some g) ∧ ∀ w ∈ waysP z x f (fitsP fl c L x f).2, S' w.1 = some w.2) ∧ (runWays c (waysP z x f (fitsP fl c L x f).2) S W = none → ¬ Ord fl c) := by
      by_cases h24 : x.op = 24
      · by_cases ha : 0 ≤ x.a
        · exact run_work hfr _ S W h (fun w hw => ⟨hway w hw, fun h1 h2 h3 => ways_in hf hxo.1 hxo.2.1 hok hw h1 h2 h3 (fun _ => ha)⟩)
        · have hws : waysP z x f (fitsP fl c L x f).2 = [(x.a, { f with h := f.h + 1 }), ((z : Int) + 1, { f with h := f.h + (fitsP fl c L x f).2, op := f.op ++ [x.a] })] := by
            unfold waysP
            rw [h24]
            rfl
          have hno : comeOk c S x.a { f with h := f.h + 1 } = false := decide_eq_false (fun hh => ha hh.1)
          rw [hws] at hway ⊢
          refine ⟨fun S' W' hr => ?_, fun _ => h.come_no hno (hway (x.a, { f with h := f.h + 1 }) (by simp)) hfr⟩
          simp [runWays, hno] at hr
      · exact run_work hfr _ S W h (fun w hw => ⟨hway w hw, fun h1 h2 h3 => ways_in hf hxo.1 hxo.2.1 hok hw h1 h2 h3 (fun h => absurd h h24)⟩)
    refine ⟨fun S' W' _ hr => ?_, fun hh => ?_⟩
    · obtain ⟨k1, k2, k3⟩ := key.1 S' W' hr
      refine k1.finish (fun f' hf' => ?_)
      rw [k2 z f hz] at hf'
      cases hf'
      intro x' hx'
      rw [Int.toNat_natCast, hx] at hx'
      cases hx'
      exact ⟨hok, k3⟩
    · rcases hh with hh | ⟨_, hh⟩
      · cases hh
      · exact key.2 hh
end Go.Proofs.YtnhdefaagicejaaDoor
