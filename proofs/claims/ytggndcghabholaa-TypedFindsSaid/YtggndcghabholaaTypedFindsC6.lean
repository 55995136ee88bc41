/-
  Single calls that the law TypedFinds makes, computed by the executor of the abstract layer (part 6).
-/
import Derived.Test.YtggndcghabholaaTypedFindsD1
namespace Go.Proofs.Ytggndcghabholaa.typedFinds
open Go
theorem c22 (w : World) : Abs.memOk (Abs.Env.of Try.prog w) (F21.gate F0 gm) 1000 m22 = true := by kernel_rfl
theorem c23 (w : World) : Abs.memOk (Abs.Env.of Try.prog w) (F22.gate F0 gm) 1000 m23 = true := by kernel_rfl
theorem c24 (w : World) : Abs.memOk (Abs.Env.of Try.prog w) (F23.gate F0 gm) 1000 m24 = true := by kernel_rfl
theorem c25 (w : World) : Abs.memOkT (Abs.Env.of Try.prog w) (F24.gate F0 gm) 1000 m25 = true := by kernel_rfl
theorem c26 (w : World) : Abs.memOk (Abs.Env.of Try.prog w) (F25.gate F0 gm) 1000 m26 = true := by kernel_rfl
theorem c27 (w : World) : Abs.memOk (Abs.Env.of Try.prog w) (F26.gate F0 gm) 1000 m27 = true := by kernel_rfl
end Go.Proofs.Ytggndcghabholaa.typedFinds
