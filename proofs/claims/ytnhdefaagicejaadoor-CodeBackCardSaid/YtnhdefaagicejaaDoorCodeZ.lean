/- The walk of the document's step. -/
import Derived.Test.YtnhdefaagicejaaDoorCodeY0
import Derived.Test.YtnhdefaagicejaaDoorCodeY1
import Derived.Test.YtnhdefaagicejaaDoorCodeY2
import Derived.Test.YtnhdefaagicejaaDoorCodeY3
import Derived.Test.YtnhdefaagicejaaDoorCodeY4
import Derived.Test.YtnhdefaagicejaaDoorCodeY5
namespace Go.Proofs.YtnhdefaagicejaaDoor
set_option linter.unusedSimpArgs false
set_option linter.unusedVariables false
open Go.RowKit
theorem rstep_any {w : World} {c : CodeP} {io so fo : Option Addr} {icap scap fcap : Nat} (hmem : CodeMem w (fun b => b < w.heap.size) c io so fo) (hp : Pre c) {L : List Int} {lo : Option Addr} {lcap : Nat} (hL : L.length = c.funs.length) (hLr : ∀ z ∈ L, R64i z) (hlo : At w lo (intsV L))
    (z : Nat) (hz : z < c.ins.length) (f : FrP) (hh0 : 0 ≤ f.h) (hh1 : f.h ≤ 10000) (hfn : f.fn < c.funs.length) (hol : f.op.length ≤ 1000000) (hop : ∀ u ∈ f.op, -1 ≤ u) (v : Value) (O : Nat → Prop) (hO : ∀ b, O b → b < w.heap.size) (hv : SpV w O v f) :
    Calls Tryd.prog 21 #[.agg #[.slice io c.ins.length icap, .slice so c.strs.length scap, .slice fo c.funs.length fcap, .int .i64 c.glob], .slice lo L.length lcap, v, .int .i64 (z : Int)] w (RSteps w c L O z c.ins[z] f) := by
  have hxo := hp.op _ (List.getElem_mem hz)
  by_cases h5 : (c.ins[z]).op ≤ 5
  · exact rstep_0 hmem hp hL hLr hlo z hz f hh0 hh1 hfn hol hop v O hO hv (by omega) h5
  by_cases h9 : (c.ins[z]).op ≤ 9
  · exact rstep_6 hmem hp hL hLr hlo z hz f hh0 hh1 hfn hol hop v O hO hv (by omega) h9
  by_cases h12 : (c.ins[z]).op ≤ 12
  · exact rstep_10 hmem hp hL hLr hlo z hz f hh0 hh1 hfn hol hop v O hO hv (by omega) h12
  by_cases h18 : (c.ins[z]).op ≤ 18
  · exact rstep_13 hmem hp hL hLr hlo z hz f hh0 hh1 hfn hol hop v O hO hv (by omega) h18
  by_cases h22 : (c.ins[z]).op ≤ 22
  · exact rstep_19 hmem hp hL hLr hlo z hz f hh0 hh1 hfn hol hop v O hO hv (by omega) h22
  exact rstep_23 hmem hp hL hLr hlo z hz f hh0 hh1 hfn hol hop v O hO hv (by omega) hxo.2.1
end Go.Proofs.YtnhdefaagicejaaDoor
