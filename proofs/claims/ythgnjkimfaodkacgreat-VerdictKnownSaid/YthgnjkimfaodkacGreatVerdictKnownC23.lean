/-
  Single calls that the law VerdictKnown makes, computed by the executor of the abstract layer (part 23).
-/
import Derived.Test.YthgnjkimfaodkacGreatVerdictKnownD1
namespace Go.Proofs.YthgnjkimfaodkacGreat.verdictKnown
open Go
theorem c348 (w : World) : Abs.memOk (Abs.Env.of Tryz.prog w) F347 1000 m348 = true := by kernel_rfl
theorem c349 (w : World) : Abs.memOkT (Abs.Env.of Tryz.prog w) F348 1000 m349 = true := by kernel_rfl
theorem c350 (w : World) : Abs.memOk (Abs.Env.of Tryz.prog w) F349 1000 m350 = true := by kernel_rfl
theorem c351 (w : World) : Abs.memOk (Abs.Env.of Tryz.prog w) F350 1000 m351 = true := by kernel_rfl
theorem c352 (w : World) : Abs.memOkT (Abs.Env.of Tryz.prog w) F351 1000 m352 = true := by kernel_rfl
theorem c353 (w : World) : Abs.memOk (Abs.Env.of Tryz.prog w) F352 1000 m353 = true := by kernel_rfl
theorem c354 (w : World) : Abs.memOk (Abs.Env.of Tryz.prog w) F353 1000 m354 = true := by kernel_rfl
theorem c355 (w : World) : Abs.memOkT (Abs.Env.of Tryz.prog w) F354 1000 m355 = true := by kernel_rfl
theorem c356 (w : World) : Abs.memOk (Abs.Env.of Tryz.prog w) F355 1000 m356 = true := by kernel_rfl
theorem c357 (w : World) : Abs.memOk (Abs.Env.of Tryz.prog w) F356 1000 m357 = true := by kernel_rfl
theorem c358 (w : World) : Abs.memOk (Abs.Env.of Tryz.prog w) F357 1000 m358 = true := by kernel_rfl
end Go.Proofs.YthgnjkimfaodkacGreat.verdictKnown
