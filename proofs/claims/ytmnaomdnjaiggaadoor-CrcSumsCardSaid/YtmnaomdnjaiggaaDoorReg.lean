/- A region that draws its order, gone through in the order of the text: whatever comes up only grows the world, so what is read meanwhile stays. No program in sight. -/
import Derived.Test.YtmnaomdnjaiggaaDoorBase
import Derived.Deep.RegionHeld3
namespace Go.Proofs.YtmnaomdnjaiggaaDoor
open Go.RowKit

section
variable {P : Program} {ops : Array Oper} {Q : Exit → Act → World → Prop}

/-- Behind 'k' operations of the text's order: the rest in whatever order, and each only grows the world. -/
def Seq (P : Program) (ops : Array Oper) (Q : Exit → Act → World → Prop) (k : Nat) (listed : Array Bool) (a : Act) (w : World) : Prop :=
  wpAnyH P .any ops Q (fun w' => Below w.heap.size w w') k listed a w

theorem wpAnyH_stronger {md : Region.Mode} {S S' : World → Prop} (hS : ∀ w, S' w → S w) : ∀ (fuel : Nat) (listed : Array Bool) (a : Act) (w : World), wpAnyH P md ops Q S' fuel listed a w → wpAnyH P md ops Q S fuel listed a w
  | 0, _, _, _, h => h
  | fuel + 1, _, _, _, h => ⟨h.1, fun i hi => wpOp_mono (fun a' w' h' => ⟨hS w' h'.1, wpAnyH_stronger hS fuel _ a' w' h'.2⟩) (h.2 i hi)⟩

theorem seq_start {id : Nat} {a : Act} {w : World} (hm : P.follows .mixedOrders = true) (h : Seq P ops Q ops.size (Array.replicate ops.size false) a w.drew) : (Code.region id ops true).wp P Q a w :=
  wp_region_held hm h

theorem below_drew {w w' : World} (h : Below w.drew.heap.size w.drew w') : Below w.heap.size w w' := (Below.refl w.heap.size w).drew.trans h

/-- What may be taken first: closed facts. -/
def takeOk (ops : Array Oper) (listed : Array Bool) (i : Nat) : Bool := Region.noSelect ops && Region.free .any ops listed i && (Region.ready .any ops listed).contains i

theorem seq_take (i : Nat) {o : Oper} {v : Value} {k : Nat} {listed : Array Bool} {a : Act} {w : World} (hi : ops[i]? = some o) (hok : takeOk ops listed i = true)
    (hQ : ∀ c a w, Q (.panic c) (a.put o.dst v) w → Q (.panic c) a w) (hw : Region.wanted o (yielded ops a.tmps) = true)
    (hy : ∀ w', Below w.heap.size w w' → (execOp a.eval o).run P w' = .ok (.value v) w')
    (h : Seq P ops Q k (listed.setIfInBounds i true) (a.put o.dst v) w) : Seq P ops Q (k + 1) listed a w := by
  simp only [takeOk, Bool.and_eq_true] at hok
  exact wpAnyH_take hi hok.1.1 hok.1.2 hok.2 hQ (.inl ⟨hw, fun w' hw' => hy w' hw'⟩) (Below.refl _ _) h

theorem seq_skip (i : Nat) {o : Oper} {k : Nat} {listed : Array Bool} {a : Act} {w : World} (hi : ops[i]? = some o) (hok : takeOk ops listed i = true)
    (hQ : ∀ c a w, Q (.panic c) (a.put o.dst undef) w → Q (.panic c) a w) (hw : Region.wanted o (yielded ops a.tmps) = false)
    (h : Seq P ops Q k (listed.setIfInBounds i true) (a.put o.dst undef) w) : Seq P ops Q (k + 1) listed a w := by
  simp only [takeOk, Bool.and_eq_true] at hok
  exact wpAnyH_take hi hok.1.1 hok.1.2 hok.2 hQ (.inr ⟨hw, rfl⟩) (Below.refl _ _) h

/-- The one operation that may come up is carried out. -/
theorem seq_run (i : Nat) {o : Oper} {k : Nat} {listed : Array Bool} {a : Act} {w : World} (hi : ops[i]? = some o) (hr : Region.ready .any ops listed = [i]) (hw : Region.wanted o (yielded ops a.tmps) = true)
    (h : ∀ K : Act → World → Prop, (∀ a' w', (Below w.heap.size w w' ∧ Seq P ops Q k (listed.setIfInBounds i true) a' w') → K a' w') → o.wp P a w K Q) : Seq P ops Q (k + 1) listed a w := by
  refine wpAnyH_all hr (by simp) fun j hj => ?_
  obtain rfl : j = i := by simpa using hj
  unfold wpOp
  simp only [hi, hw, if_true]
  refine .inl (h _ fun a' w' ⟨hb, hs⟩ => ⟨hb, wpAnyH_stronger (fun w'' h'' => hb.trans (h''.mono hb.size)) _ _ _ _ hs⟩)

theorem seq_done {listed : Array Bool} {a : Act} {w : World} {k : Nat} (hr : Region.ready .any ops listed = []) (h : Q .normal a w) : Seq P ops Q k listed a w :=
  wpAnyH_done hr h k

theorem yields_slice_lo {t : TypeId} {o : Oper} {x lo : Operand} {a : Act} {w : World} (ho : o.op = .slice t x (some lo) none none) (ht : P.underlying t = some (.slice (P.elem t))) (hs : (P.info? (P.elem t)).map (·.size) = some 1)
    {ao : Option Addr} {n cap k : Nat} (hx : a.eval x = .slice ao n cap) (hl : a.eval lo = .int .i64 (k : Int)) (hk : k ≤ n) :
    ∀ w', Below w.heap.size w w' → (execOp a.eval o).run P w' = .ok (.value (.slice (tailOf ao cap k) (n - k) (cap - k))) w' := by
  intro w' _
  have hr := run_slice_lo (P := P) w' t 1 ht hs ao n cap .i64 k hk
  rw [Nat.mul_one] at hr
  unfold execOp
  simp only [ho, hx, hl, Option.map_some, Option.map_none, hr, Sem.run_bind, Sem.run_pure, Result.andThen_ok]
  rfl

theorem yields_conv {src dst e : TypeId} {o : Oper} {x : Operand} {a : Act} {w : World} (ho : o.op = .convert src dst x) (hs : P.underlying src = some (.slice e)) (he : P.underlying e = some (.int .u8)) (hd : P.underlying dst = some .string)
    {ao : Option Addr} {n cap : Nat} (hx : a.eval x = .slice ao n cap) {l : List UInt8} (h : At w ao (bytesV l)) (hn : n = l.length) :
    ∀ w', Below w.heap.size w w' → (execOp a.eval o).run P w' = .ok (.value (.string ⟨l.toArray⟩)) w' := by
  intro w' hb
  have hr := run_conv_str (P := P) w' src e hs he ao l n cap hn (h.below hb) dst hd
  unfold execOp
  simp only [ho, hx, hr, Sem.run_bind, Sem.run_pure, Result.andThen_ok]
end
end Go.Proofs.YtmnaomdnjaiggaaDoor
