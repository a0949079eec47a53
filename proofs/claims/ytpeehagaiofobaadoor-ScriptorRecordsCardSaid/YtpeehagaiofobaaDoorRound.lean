/- Regions within a round of a loop over a function: what is walked as everywhere holds there, too, where nothing defers. No program in sight. -/
import Derived.Test.YtpeehagaiofobaaDoorKeeps
import Derived.RangeFuncNested
import Derived.RangeFuncBound
import Derived.RangeFuncCalls
import Derived.RangeFuncLeaves
import Derived.OrdersIn
import Derived.TacticsIn
namespace Go.Proofs.YtpeehagaiofobaaDoor
open Go.RowKit

section
variable {P : Program} {ops : Array Oper} {Q : Exit → Act → World → Prop} {l n : Nat}
def noDefer (ops : List Oper) : Bool := ops.all fun o => match o.op with | .defer _ => false | _ => true
theorem noDefer_of {o : Oper} {ops : List Oper} (h : noDefer ops = true) (ho : o ∈ ops) : ∀ c, o.op ≠ .defer c := by
  intro c hc
  unfold noDefer at h
  rw [List.all_eq_true] at h
  have := h o ho
  rw [hc] at this
  cases this
theorem operIn_of {o : Oper} {a : Act} {w : World} {K : Act → World → Prop} (hd : ∀ c, o.op ≠ .defer c) (h : o.wp P a w K Q) : o.wpIn (Fence.wide.inRound l) n P a w K Q := by
  refine ⟨fun _ _ => trivial, ?_⟩
  rw [Oper.semAt_eq _ _ _ hd]
  unfold Oper.wp at h
  generalize (execOp a.eval o).run P w = r at *
  cases r with
  | ok x w' =>
    cases x with
    | enter f args => exact ⟨fun hh => (by cases hh), CallsIn.inRound l (callsIn_wide.2 h)⟩
    | row r args => exact ⟨fun hh => (by cases hh), fun c cs _ => let ⟨v, w', q, s⟩ := h c cs; ⟨v, w', q, stepsIn_wide.2 s⟩⟩
    | _ => first | exact h | exact h.elim
  | halt x w' => cases x <;> first | exact h | exact h.elim
theorem wpListIn_of (hQ : ¬ LetsOut Q) : ∀ (L : List Oper) (a : Act) (w : World), noDefer L = true → wpList P ops Q L a w → wpListIn (Fence.wide.inRound l) n P ops Q L a w
  | [], _, _, _, h => h
  | o :: L, a, w, hd, h => by
    have hd' : noDefer L = true := by
      unfold noDefer at *
      rw [List.all_cons, Bool.and_eq_true] at hd
      exact hd.2
    unfold wpListIn
    unfold wpList at h
    split
    · rename_i hw
      rw [if_pos hw] at h
      exact Oper.wpIn_mono (fun a' w' h' => wpListIn_of hQ L a' w' hd' h') (operIn_of (noDefer_of hd (by simp)) (h.resolve_right fun h => hQ h.2))
    · rename_i hw
      rw [if_neg hw] at h
      exact ⟨fun _ _ => trivial, wpListIn_of hQ L _ w hd' h⟩
/-- A region that draws nothing. -/
theorem regIn (hQ : ¬ LetsOut Q) {id : Nat} {a : Act} {w : World} (hd : noDefer ops.toList = true) (h : wpList P ops Q ops.toList a w) : (Code.region id ops false).wpIn (Fence.wide.inRound l) n P Q a w :=
  wpIn_region_list (wpListIn_of hQ _ _ _ hd h)
theorem wpAnyIn_of (hQ : ¬ LetsOut Q) (hd : noDefer ops.toList = true) : ∀ (fuel : Nat) (listed : Array Bool) (a : Act) (w : World), wpAny P .any ops Q fuel listed a w → wpAnyIn (Fence.wide.inRound l) n P .any ops Q fuel listed a w
  | 0, _, _, _, h => h
  | fuel + 1, listed, a, w, h => by
    refine ⟨h.1, fun i hi => ?_⟩
    have h2 := h.2 i hi
    unfold wpOp at h2
    unfold wpOpIn
    cases ho : ops[i]? with
    | none =>
      simp only [ho] at h2
      exact wpAnyIn_of hQ hd fuel _ _ _ h2
    | some o =>
      simp only [ho] at h2
      simp only
      have hmem : o ∈ ops.toList := by
        rw [Array.getElem?_eq_some_iff] at ho
        obtain ⟨hlt, rfl⟩ := ho
        simp
      split
      · rename_i hw
        rw [if_pos hw] at h2
        exact Oper.wpIn_mono (fun a' w' h' => wpAnyIn_of hQ hd fuel _ a' w' h') (operIn_of (noDefer_of hd hmem) (h2.resolve_right fun h => hQ h.2))
      · rename_i hw
        rw [if_neg hw] at h2
        exact ⟨fun _ _ => trivial, wpAnyIn_of hQ hd fuel _ _ _ h2⟩
theorem wpAny_of_heldX {S : World → Prop} : ∀ (fuel : Nat) (listed : Array Bool) (a : Act) (w : World), wpAnyH P .any ops Q S fuel listed a w → wpAny P .any ops Q fuel listed a w
  | 0, _, _, _, h => h
  | fuel + 1, _, _, _, h => ⟨h.1, fun i hi => wpOp_mono (fun a' w' h' => wpAny_of_heldX fuel _ a' w' h'.2) (h.2 i hi)⟩
/-- A region that draws: its beginning. -/
theorem seqxIn_start (X : Nat → Prop) {id : Nat} {a : Act} {w : World} (hQ : ¬ LetsOut Q) (hm : P.follows .mixedOrders = true) (hd : noDefer ops.toList = true) (h : SeqX P ops Q X ops.size (Array.replicate ops.size false) a w.drew) : (Code.region id ops true).wpIn (Fence.wide.inRound l) n P Q a w :=
  wpIn_region_any hm (wpAnyIn_of hQ hd _ _ _ _ (wpAny_of_heldX _ _ _ _ h))
end
end Go.Proofs.YtpeehagaiofobaaDoor
