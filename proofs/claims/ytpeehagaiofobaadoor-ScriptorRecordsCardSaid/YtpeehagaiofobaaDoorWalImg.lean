/- The walks of a disk's Image, and of bytes.Equal. -/
import Derived.Test.YtpeehagaiofobaaDoorDisk5
namespace Go.Proofs.YtpeehagaiofobaaDoor
open Go.RowKit
/-- What lasts, as bytes. -/
def imgL (L : List (Option (List UInt8))) : List UInt8 := (L.map fun o => o.getD zeros).flatten
theorem imgL_succ (L : List (Option (List UInt8))) (i : Nat) (hi : i < L.length) : imgL (L.take (i + 1)) = imgL (L.take i) ++ L[i].getD zeros := by
  unfold imgL
  rw [List.take_succ_eq_append_getElem hi, List.map_append, List.flatten_append]
  simp
theorem imgL_length : ∀ (L : List (Option (List UInt8))), (∀ b, some b ∈ L → b.length = 512) → (imgL L).length = L.length * 512
  | [], _ => rfl
  | o :: L, h => by
    have ih := imgL_length L fun b hb => h b (by simp [hb])
    have ho : (o.getD zeros).length = 512 := by
      cases o with
      | none => exact List.length_replicate
      | some b => exact h b (by simp)
    unfold imgL at ih ⊢
    rw [List.map_cons, List.flatten_cons, List.length_append, ih, ho, List.length_cons]
    omega

set_option maxRecDepth 100000 in
set_option maxHeartbeats 1000000 in
theorem bytesEq_any (ao bo : Option Addr) (l m : List UInt8) (cap bcap n k : Nat) (w : World) (hn : n = l.length) (hk : k = m.length) (hat : At w ao (bytesV l)) (hbt : At w bo (bytesV m)) :
    Calls Tryd.prog 60 #[.slice ao n cap, .slice bo k bcap] w (fun e w' => e = .returned (.bool (decide (l = m))) ∧ w = w') := by
  subst hn hk
  have h1 := run_conv_str (P := Tryd.prog) w 40 5 Tryd.underlying40 Tryd.underlying5 ao l _ cap rfl hat 9 Tryd.underlying9
  have h2 := run_conv_str (P := Tryd.prog) w 40 5 Tryd.underlying40 Tryd.underlying5 bo m _ bcap rfl hbt 9 Tryd.underlying9
  clear hat hbt
  go_enter Tryd.func60, Tryd.ntmps60
  go_wp2_with fail
  go_ret
  exact ⟨by congr 1; cases h : (l == m) <;> simp_all, rfl⟩

end Go.Proofs.YtpeehagaiofobaaDoor
