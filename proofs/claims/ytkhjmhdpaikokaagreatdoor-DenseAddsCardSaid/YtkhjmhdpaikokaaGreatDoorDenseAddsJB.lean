/-
  Facts of the row of the law DenseAdds that are computed over the whole program: its types, and how it starts. The statement is proved in the last text.
-/
import Derived.Test.YtkhjmhdpaikokaaGreatDoorRows
import Derived.JoinedOf
import Derived.KernelRfl
set_option linter.unusedVariables false
namespace Go.Proofs.YtkhjmhdpaikokaaGreatDoor.denseAdds
open Go
theorem jB:(fun (P:Program) (f:FuncId) (fn:Func) (s:ChangeSpec) (c:OpenClaim)=>(laidOutB P && mapsRowed P && (c.plainKeys==P.plainKeys) && P.stopsHeard && P.mayEnter && (c.lifted==P.liftsFinal) && (P.make==some c.make):Bool)) Tryz.prog 5 Tryz.f5 Rows.denseAddsSpec Rows.denseAddsRow=true:=by kernel_rfl
end Go.Proofs.YtkhjmhdpaikokaaGreatDoor.denseAdds
