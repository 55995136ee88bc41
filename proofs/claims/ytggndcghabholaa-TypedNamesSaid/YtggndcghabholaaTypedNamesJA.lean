/-
  Facts of the row of the law TypedNames that are computed over the whole program: what it calls and names. The statement is proved in the last text.
-/
import Derived.Test.YtggndcghabholaaRows
import Derived.JoinedOf
import Derived.KernelRfl
namespace Go.Proofs.Ytggndcghabholaa.typedNames
open Go
set_option linter.unusedVariables false
theorem jA : (fun (P : Program) (f : FuncId) (fn : Func) (s : ChangeSpec) (c : OpenClaim) => ((c.inPlace == P.inPlace f) && (c.unfollowed == P.unfollowed f) && (c.recurses == P.recurses f) && (c.named == P.varsNamed f) : Bool)) Try.prog 5 Try.f5 Rows.typedNamesSpec Rows.typedNamesRow = true := by kernel_rfl
end Go.Proofs.Ytggndcghabholaa.typedNames
