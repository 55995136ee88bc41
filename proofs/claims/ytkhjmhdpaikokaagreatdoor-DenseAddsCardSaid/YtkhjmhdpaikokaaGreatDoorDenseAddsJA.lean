/-
  Facts of the row of the law DenseAdds that are computed over the whole program: what it calls and names. The statement is proved in the last text.
-/
import Derived.Test.YtkhjmhdpaikokaaGreatDoorRows
import Derived.JoinedOf
import Derived.KernelRfl
set_option linter.unusedVariables false
namespace Go.Proofs.YtkhjmhdpaikokaaGreatDoor.denseAdds
open Go
theorem jA:(fun (P:Program) (f:FuncId) (fn:Func) (s:ChangeSpec) (c:OpenClaim)=>((c.inPlace==P.inPlace f) && (c.unfollowed==P.unfollowed f) && (c.recurses==P.recurses f) && (c.named==P.varsNamed f):Bool)) Tryz.prog 5 Tryz.f5 Rows.denseAddsSpec Rows.denseAddsRow=true:=by kernel_rfl
end Go.Proofs.YtkhjmhdpaikokaaGreatDoor.denseAdds
