/-
  Facts of the row of the law ActiveGrows that are computed over the whole program: what it calls and names. The statement is proved in the last text.
-/
import Derived.Test.YthedompojmncpaaRows
import Derived.JoinedOf
import Derived.KernelRfl
namespace Go.Proofs.Ythedompojmncpaa.activeGrows
open Go
set_option linter.unusedVariables false
theorem jA:(fun (P:Program) (f:FuncId) (fn:Func) (s:ChangeSpec) (c:OpenClaim)=>((c.inPlace==P.inPlace f) && (c.unfollowed==P.unfollowed f) && (c.recurses==P.recurses f) && (c.named==P.varsNamed f):Bool)) Try.prog 3 Try.f3 Rows.activeGrowsSpec Rows.activeGrowsRow=true:=by kernel_rfl
end Go.Proofs.Ythedompojmncpaa.activeGrows
