/-
  Single calls that the law TypedFinds makes, computed by the executor of the abstract layer (part 3).
-/
import Derived.Test.YtggndcghabholaaTypedFindsD1
namespace Go.Proofs.Ytggndcghabholaa.typedFinds
open Go
theorem c15 (w : World) : Abs.memOk (Abs.Env.of Try.prog w) (F14.gate F0 gm) 1000 m15 = true := by kernel_rfl
end Go.Proofs.Ytggndcghabholaa.typedFinds
