/-
  Single calls that the law TypedFinds makes, computed by the executor of the abstract layer (part 7).
-/
import Derived.Test.YtggndcghabholaaTypedFindsD1
namespace Go.Proofs.Ytggndcghabholaa.typedFinds
open Go
theorem c28 (w : World) : Abs.memOk (Abs.Env.of Try.prog w) (F27.gate F0 gm) 1000 m28 = true := by kernel_rfl
theorem c29 (w : World) : Abs.memOk (Abs.Env.of Try.prog w) (F28.gate F0 gm) 1000 m29 = true := by kernel_rfl
theorem c30 (w : World) : Abs.memOk (Abs.Env.of Try.prog w) (F29.gate F0 gm) 1000 m30 = true := by kernel_rfl
theorem c31 (w : World) : Abs.memOk (Abs.Env.of Try.prog w) (F30.gate F0 gm) 1000 m31 = true := by kernel_rfl
theorem c32 (w : World) : Abs.memOkT (Abs.Env.of Try.prog w) (F31.gate F0 gm) 1000 m32 = true := by kernel_rfl
theorem c33 (w : World) : Abs.memOk (Abs.Env.of Try.prog w) (F32.gate F0 gm) 1000 m33 = true := by kernel_rfl
end Go.Proofs.Ytggndcghabholaa.typedFinds
