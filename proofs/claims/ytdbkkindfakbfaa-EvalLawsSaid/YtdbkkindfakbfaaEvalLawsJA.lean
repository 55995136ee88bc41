/-
  Facts of the row of the law EvalLaws that are computed over the whole program: what it calls and names. The statement is proved in the last text.
-/
import Derived.Test.YtdbkkindfakbfaaRows
import Derived.JoinedOf
import Derived.KernelRfl
namespace Go.Proofs.Ytdbkkindfakbfaa.evalLaws
open Go
set_option linter.unusedVariables false
theorem jA:(fun (P:Program) (f:FuncId) (fn:Func) (s:ChangeSpec) (c:OpenClaim)=>((c.inPlace==P.inPlace f) && (c.unfollowed==P.unfollowed f) && (c.recurses==P.recurses f) && (c.named==P.varsNamed f):Bool)) Try.prog 3 Try.f3 Rows.evalLawsSpec Rows.evalLawsRow=true:=by kernel_rfl
end Go.Proofs.Ytdbkkindfakbfaa.evalLaws
