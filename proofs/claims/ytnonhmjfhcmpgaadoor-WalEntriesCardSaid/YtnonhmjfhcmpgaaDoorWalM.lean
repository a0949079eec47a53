/- Rows of texts of one's own; two operations that may come up. -/
import Derived.Test.YtnonhmjfhcmpgaaDoorWalK
namespace Go.Proofs.YtnonhmjfhcmpgaaDoor
open Go.RowKit

theorem infoS : (Tryd.prog.info? 9).map (fun i => (i.zero, i.size, i.bytes)) = some (some (.string ⟨#[]⟩), 1, 16) := by kernel_rfl
theorem strsV_one (l : List (List UInt8)) : ∀ y ∈ strsV l, y.oneCell' = true := by
  intro y hy
  obtain ⟨b, _, rfl⟩ := List.mem_map.1 hy
  rfl
theorem wp_strs {w : World} {o : Oper} {a : Act} {K : Act → World → Prop} {Q : Exit → Act → World → Prop} (s x : Operand)
    (ho : o.op = .call { callee := .builtin .append, args := #[s, x], argTypes := #[48, 48] })
    (base : Nat) (ao : Option Addr) (cap n : Nat) (l : List (List UInt8)) (hs : a.eval s = .slice ao n cap) (hown : w.ownsRow base 9 1 (.slice ao n cap) n (strsV l))
    (bo : Option Addr) (m c : Nat) (l' : List (List UInt8)) (hx : a.eval x = .slice bo m c) (hat : At w bo (strsV l')) (hm : l'.length = m)
    (hb : n + m ≤ 1000000000) (hbase : base ≤ w.heap.size)
    (h : ∀ ao' cap' w', w'.ownsRow base 9 1 (.slice ao' (n + m) cap') (n + m) (strsV (l ++ l')) → w.grownBy w' (blk ao) → (blk ao' = blk ao ∨ blk ao' = some w.heap.size) → K (a.put o.dst (.slice ao' (n + m) cap')) w') :
    o.wp Tryd.prog a w K Q := by
  obtain ⟨i0, hi, hz0, hz1, hz2⟩ := info_parts infoS
  refine wp_append s x 48 48 ho base 9 i0 (.string ⟨#[]⟩) 1 16 Tryd.underlying48 hi hz0 hz1 hz2 rfl _ n (strsV l) hs hown _ m (strsV l') hx
    (hat.src Tryd.underlying48 (by simp [strsV, hm]) (strsV_one l') (by decide)) (by unfold maxLen; omega) (by omega) (by omega) ?_
  intro ao' cap' w' h1 h2 h3
  rw [own_slice] at h2 h3
  refine h ao' cap' w' ?_ h2 h3
  rw [strsV, List.map_append]
  exact h1

section
variable {P : Program} {ops : Array Oper} {Q : Exit → Act → World → Prop}
/-- Two operations may come up: either may be the next. -/
theorem seqx_two (i j : Nat) {X : Nat → Prop} {o p : Oper} {k : Nat} {listed : Array Bool} {a : Act} {w : World} (hi : ops[i]? = some o) (hj : ops[j]? = some p) (hr : Region.ready .any ops listed = [i, j]) (hwi : Region.wanted o (yielded ops a.tmps) = true) (hwj : Region.wanted p (yielded ops a.tmps) = true)
    (h : ∀ K : Act → World → Prop, (∀ a' w', (Keeps X w w' ∧ SeqX P ops Q X k (listed.setIfInBounds i true) a' w') → K a' w') → o.wp P a w K Q)
    (h' : ∀ K : Act → World → Prop, (∀ a' w', (Keeps X w w' ∧ SeqX P ops Q X k (listed.setIfInBounds j true) a' w') → K a' w') → p.wp P a w K Q) : SeqX P ops Q X (k + 1) listed a w := by
  refine wpAnyH_all hr (by simp) fun n hn => ?_
  have hn' : n = i ∨ n = j := by simpa using hn
  rcases hn' with rfl | rfl
  · unfold wpOp
    simp only [hi, hwi, if_true]
    exact .inl (h _ fun a' w' ⟨hb, hs⟩ => ⟨hb, wpAnyH_stronger (fun w'' h'' => hb.trans' h'') _ _ _ _ hs⟩)
  · unfold wpOp
    simp only [hj, hwj, if_true]
    exact .inl (h' _ fun a' w' ⟨hb, hs⟩ => ⟨hb, wpAnyH_stronger (fun w'' h'' => hb.trans' h'') _ _ _ _ hs⟩)
end

end Go.Proofs.YtnonhmjfhcmpgaaDoor
