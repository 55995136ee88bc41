/-
  Single calls that the law TypedFinds makes, computed by the executor of the abstract layer (part 4).
-/
import Derived.Test.YtggndcghabholaaTypedFindsD1
namespace Go.Proofs.Ytggndcghabholaa.typedFinds
open Go
theorem c16 (w : World) : Abs.memOk (Abs.Env.of Try.prog w) (F15.gate F0 gm) 1000 m16 = true := by kernel_rfl
theorem c17 (w : World) : Abs.memOk (Abs.Env.of Try.prog w) (F16.gate F0 gm) 1000 m17 = true := by kernel_rfl
theorem c18 (w : World) : Abs.memOk (Abs.Env.of Try.prog w) (F17.gate F0 gm) 1000 m18 = true := by kernel_rfl
theorem c19 (w : World) : Abs.memOk (Abs.Env.of Try.prog w) (F18.gate F0 gm) 1000 m19 = true := by kernel_rfl
theorem c20 (w : World) : Abs.memOkT (Abs.Env.of Try.prog w) (F19.gate F0 gm) 1000 m20 = true := by kernel_rfl
end Go.Proofs.Ytggndcghabholaa.typedFinds
