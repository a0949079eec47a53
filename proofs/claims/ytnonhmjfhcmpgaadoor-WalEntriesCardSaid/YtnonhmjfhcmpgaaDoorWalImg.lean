/- The walks of a disk's Image, and of bytes.Equal. -/
import Derived.Test.YtnonhmjfhcmpgaaDoorDisk5
namespace Go.Proofs.YtnonhmjfhcmpgaaDoor
open Go.RowKit
/-- What lasts, as bytes. -/
def imgL (L : List (Option (List UInt8))) : List UInt8 := (L.map fun o => o.getD zeros).flatten
theorem imgL_succ (L : List (Option (List UInt8))) (i : Nat) (hi : i < L.length) : imgL (L.take (i + 1)) = imgL (L.take i) ++ L[i].getD zeros := by
  unfold imgL
  rw [List.take_succ_eq_append_getElem hi, List.map_append, List.flatten_append]
  simp
theorem imgL_length : ∀ (L : List (Option (List UInt8))), (∀ b, some b ∈ L → b.length = 512) → (imgL L).length = L.length * 512
  | [], _ => rfl
  | o :: L, h => by
    have ih := imgL_length L fun b hb => h b (by simp [hb])
    have ho : (o.getD zeros).length = 512 := by
      cases o with
      | none => exact List.length_replicate
      | some b => exact h b (by simp)
    unfold imgL at ih ⊢
    rw [List.map_cons, List.flatten_cons, List.length_append, ih, ho, List.length_cons]
    omega

set_option maxRecDepth 100000 in
set_option maxHeartbeats 1000000 in
theorem image_any {B : Nat} {M I : Nat → Prop} {d : Nat} {s : DS} (w : World) (h : DiskAt B w M I d s) (hL : s.L.length ≤ 65536) :
    Calls Tryd.prog 54 #[.pointer (some ⟨d, 0, none⟩)] w (fun e w' => ∃ ao cap, e = .returned (.slice ao (imgL s.L).length cap) ∧ w'.ownsRow w.heap.size 5 1 (.slice ao (imgL s.L).length cap) (imgL s.L).length (bytesV (imgL s.L)) ∧ Below w.heap.size w w') := by
  have hlen : ∀ i, i ≤ s.L.length → (imgL (s.L.take i)).length = i * 512 := by
    intro i hi
    rw [imgL_length _ fun b hb => h.sok.2.1 b (List.mem_of_mem_take hb), List.length_take, Nat.min_eq_left hi]
  have HL := Lib.hid hlen
  obtain ⟨lb, lcap, mb, wo, wcap, lc, f, xs, hcells, hbody, _⟩ := id h
  have hlc : lc.length = s.L.length := hbody.lasts2.1
  have hd0 : w.cell? ⟨d, 0, none⟩ = some (.slice (some ⟨lb, 0, none⟩) s.L.length lcap) := cell_of_row _ d 0 _ _ (0, 0) hcells
  have HB := Lib.hid hbody
  clear hcells hbody h hlen
  go_enter Tryd.func54, Tryd.ntmps54
  go_wp2_with fail
  clear hd0
  go_loopw [3, 13] (fun v j wr => ∃ (i : Nat) (ao : Option Addr) (cap : Nat), i ≤ s.L.length ∧ j = .int .i64 (i : Int) ∧ v = .slice ao (imgL (s.L.take i)).length cap ∧ wr.ownsRow w.heap.size 5 1 (.slice ao (imgL (s.L.take i)).length cap) (imgL (s.L.take i)).length (bytesV (imgL (s.L.take i))) ∧ Below w.heap.size w wr) (fun _ j _ => s.L.length - (intOf j).toNat)
  case atStart => exact ⟨0, none, 0, by omega, rfl, rfl, by simpa [imgL] using World.ownsRow_nil _ _ _ 1, Below.refl _ _⟩
  case round =>
    obtain ⟨i, ao, cap, hi, rfl, rfl, hown, hbel⟩ := hrel
    have hsz := hbel.size
    have HO := Lib.hid (And.intro hown hbel)
    clear hown hbel
    by_cases hlt : i < s.L.length
    · have hlv : LastV wr I (lc[i]'(by omega)) s.L[i] := by
        have hb := HB.out.keeps (X := fun _ => False) ⟨HO.out.2.os, HO.out.2.tape, HO.out.2.output, HO.out.2.size, fun k hk _ => HO.out.2.block k hk⟩ (fun _ _ h => h) (fun h => h) (fun h => h) (fun _ _ h => h)
        exact hb.lasts2.2 i _ _ (List.getElem?_eq_getElem (by omega)) (List.getElem?_eq_getElem hlt)
      have hcell : wr.cell? ⟨lb, i, none⟩ = some (lc[i]'(by omega)) := by
        have hb := (At.own HB.out.lasts).below HO.out.2
        have := hb.cell i _ (List.getElem?_eq_getElem (by omega))
        simpa using this
      have hstep := imgL_succ s.L i hlt
      have hbl : (s.L[i].getD zeros).length = 512 := by
        have h1 := HL.out i hi
        have h2 := HL.out (i + 1) hlt
        rw [hstep, List.length_append, h1] at h2
        omega
      generalize lc[i]'(by omega) = v at *
      have HS := Lib.hid (And.intro hlv (And.intro hstep hbl))
      clear hlv hstep hbl
      go_wp2_with fail
      clear hcell
      refine (bare_any v s.L[i] wr HS.out.1).mono ?_
      rintro e w4 ⟨bo, bcap, rfl, hown4, hb4⟩
      have H4 := Lib.hid (And.intro (At.own hown4) (And.intro hb4 (owns_below HO.out.1 (hb4.mono (Nat.le_refl _)))))
      clear hown4 hb4
      have hsz4 := H4.out.2.1.size
      go_wp2_with (at_builtin; refine app_bytes rfl _ _ rfl w.heap.size ao cap (imgL (s.L.take i)) _ rfl H4.out.2.2 bo _ bcap (s.L[i].getD zeros) rfl H4.out.1 rfl (by have := HL.out i hi; rw [HS.out.2.2]; omega) (by omega) ?_; rintro co capc w5 ⟨q1, q2, q3⟩)
      go_roundw
      case rel =>
        refine ⟨i + 1, co, capc, by omega, by simp, by rw [HS.out.2.1, List.length_append], ?_, HO.out.2.trans ((H4.out.2.1.mono hsz).trans (below_grown H4.out.2.2 (by omega) q2))⟩
        rw [HS.out.2.1]
        exact q1
      case measure => simp [intOf]; omega
    · obtain rfl : i = s.L.length := by omega
      go_wp2_with fail
      go_ret
      have := HO.out
      rw [List.take_length] at this
      exact ⟨ao, cap, by rw [List.take_length]; rfl, this⟩

set_option maxRecDepth 100000 in
set_option maxHeartbeats 1000000 in
theorem bytesEq_any (ao bo : Option Addr) (l m : List UInt8) (cap bcap n k : Nat) (w : World) (hn : n = l.length) (hk : k = m.length) (hat : At w ao (bytesV l)) (hbt : At w bo (bytesV m)) :
    Calls Tryd.prog 69 #[.slice ao n cap, .slice bo k bcap] w (fun e w' => e = .returned (.bool (decide (l = m))) ∧ w = w') := by
  subst hn hk
  have h1 := run_conv_str (P := Tryd.prog) w 22 5 Tryd.underlying22 Tryd.underlying5 ao l _ cap rfl hat 9 Tryd.underlying9
  have h2 := run_conv_str (P := Tryd.prog) w 22 5 Tryd.underlying22 Tryd.underlying5 bo m _ bcap rfl hbt 9 Tryd.underlying9
  clear hat hbt
  go_enter Tryd.func69, Tryd.ntmps69
  go_wp2_with fail
  go_ret
  exact ⟨by congr 1; cases h : (l == m) <;> simp_all, rfl⟩

end Go.Proofs.YtnonhmjfhcmpgaaDoor
