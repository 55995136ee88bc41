/-
  Single calls that the law TypedFinds makes, computed by the executor of the abstract layer (part 5).
-/
import Derived.Test.YtggndcghabholaaTypedFindsD1
namespace Go.Proofs.Ytggndcghabholaa.typedFinds
open Go
theorem c21 (w : World) : Abs.memOk (Abs.Env.of Try.prog w) (F20.gate F0 gm) 1000 m21 = true := by kernel_rfl
end Go.Proofs.Ytggndcghabholaa.typedFinds
