/-
  Facts of the row of the law EvalLaws that are computed over the whole program: its types, and how it starts. The statement is proved in the last text.
-/
import Derived.Test.YtdbkkindfakbfaaRows
import Derived.JoinedOf
import Derived.KernelRfl
namespace Go.Proofs.Ytdbkkindfakbfaa.evalLaws
open Go
set_option linter.unusedVariables false
theorem jB:(fun (P:Program) (f:FuncId) (fn:Func) (s:ChangeSpec) (c:OpenClaim)=>(laidOutB P && mapsRowed P && (c.plainKeys==P.plainKeys) && P.stopsHeard && P.mayEnter && (c.lifted==P.liftsFinal) && (P.make==some c.make):Bool)) Try.prog 3 Try.f3 Rows.evalLawsSpec Rows.evalLawsRow=true:=by kernel_rfl
end Go.Proofs.Ytdbkkindfakbfaa.evalLaws
