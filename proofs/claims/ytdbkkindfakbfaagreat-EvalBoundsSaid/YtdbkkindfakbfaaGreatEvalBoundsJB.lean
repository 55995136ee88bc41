/-
  Facts of the row of the law EvalBounds that are computed over the whole program: its types, and how it starts. The statement is proved in the last text.
-/
import Derived.Test.YtdbkkindfakbfaaGreatRows
import Derived.JoinedOf
import Derived.KernelRfl
namespace Go.Proofs.YtdbkkindfakbfaaGreat.evalBounds
open Go
set_option linter.unusedVariables false
theorem jB:(fun (P:Program) (f:FuncId) (fn:Func) (s:ChangeSpec) (c:OpenClaim)=>(laidOutB P && mapsRowed P && (c.plainKeys==P.plainKeys) && P.stopsHeard && P.mayEnter && (c.lifted==P.liftsFinal) && (P.make==some c.make):Bool)) Tryz.prog 4 Tryz.f4 Rows.evalBoundsSpec Rows.evalBoundsRow=true:=by kernel_rfl
end Go.Proofs.YtdbkkindfakbfaaGreat.evalBounds
