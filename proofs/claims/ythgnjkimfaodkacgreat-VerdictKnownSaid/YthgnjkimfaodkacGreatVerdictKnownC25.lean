/-
  Single calls that the law VerdictKnown makes, computed by the executor of the abstract layer (part 25).
-/
import Derived.Test.YthgnjkimfaodkacGreatVerdictKnownD1
namespace Go.Proofs.YthgnjkimfaodkacGreat.verdictKnown
open Go
theorem c363 (w : World) : Abs.memOk (Abs.Env.of Tryz.prog w) F362 1000 m363 = true := by kernel_rfl
theorem c364 (w : World) : Abs.memOk (Abs.Env.of Tryz.prog w) F363 1000 m364 = true := by kernel_rfl
theorem c365 (w : World) : Abs.memOk (Abs.Env.of Tryz.prog w) F364 1000 m365 = true := by kernel_rfl
theorem c366 (w : World) : Abs.memOk (Abs.Env.of Tryz.prog w) F365 1000 m366 = true := by kernel_rfl
theorem c367 (w : World) : Abs.memOk (Abs.Env.of Tryz.prog w) F366 1000 m367 = true := by kernel_rfl
theorem c368 (w : World) : Abs.memOk (Abs.Env.of Tryz.prog w) F367 1000 m368 = true := by kernel_rfl
theorem c369 (w : World) : Abs.memOk (Abs.Env.of Tryz.prog w) F368 1000 m369 = true := by kernel_rfl
theorem c370 (w : World) : Abs.memOk (Abs.Env.of Tryz.prog w) F369 1000 m370 = true := by kernel_rfl
theorem c371 (w : World) : Abs.memOk (Abs.Env.of Tryz.prog w) F370 1000 m371 = true := by kernel_rfl
theorem c372 (w : World) : Abs.memOk (Abs.Env.of Tryz.prog w) F371 1000 m372 = true := by kernel_rfl
theorem c373 (w : World) : Abs.memOk (Abs.Env.of Tryz.prog w) F372 1000 m373 = true := by kernel_rfl
theorem c374 (w : World) : Abs.memOk (Abs.Env.of Tryz.prog w) F373 1000 m374 = true := by kernel_rfl
theorem c375 (w : World) : Abs.memOk (Abs.Env.of Tryz.prog w) F374 1000 m375 = true := by kernel_rfl
theorem c376 (w : World) : Abs.memOk (Abs.Env.of Tryz.prog w) F375 1000 m376 = true := by kernel_rfl
theorem c377 (w : World) : Abs.memOk (Abs.Env.of Tryz.prog w) F376 1000 m377 = true := by kernel_rfl
end Go.Proofs.YthgnjkimfaodkacGreat.verdictKnown
