/-
  Facts of the row of the law EvalBounds that are computed over the whole program: what it calls and names. The statement is proved in the last text.
-/
import Derived.Test.YtdbkkindfakbfaaGreatRows
import Derived.JoinedOf
import Derived.KernelRfl
namespace Go.Proofs.YtdbkkindfakbfaaGreat.evalBounds
open Go
set_option linter.unusedVariables false
theorem jA:(fun (P:Program) (f:FuncId) (fn:Func) (s:ChangeSpec) (c:OpenClaim)=>((c.inPlace==P.inPlace f) && (c.unfollowed==P.unfollowed f) && (c.recurses==P.recurses f) && (c.named==P.varsNamed f):Bool)) Tryz.prog 4 Tryz.f4 Rows.evalBoundsSpec Rows.evalBoundsRow=true:=by kernel_rfl
end Go.Proofs.YtdbkkindfakbfaaGreat.evalBounds
