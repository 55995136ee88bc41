/-
  Single calls that the law VerdictKnown makes, computed by the executor of the abstract layer (part 26).
-/
import Derived.Test.YthgnjkimfaodkacGreatVerdictKnownD1
namespace Go.Proofs.YthgnjkimfaodkacGreat.verdictKnown
open Go
theorem c378 (w : World) : Abs.memOkT (Abs.Env.of Tryz.prog w) F377 1000 m378 = true := by kernel_rfl
theorem c379 (w : World) : Abs.memOk (Abs.Env.of Tryz.prog w) F378 1000 m379 = true := by kernel_rfl
theorem c380 (w : World) : Abs.memOk (Abs.Env.of Tryz.prog w) F379 1000 m380 = true := by kernel_rfl
theorem c381 (w : World) : Abs.memOk (Abs.Env.of Tryz.prog w) F380 1000 m381 = true := by kernel_rfl
theorem c382 (w : World) : Abs.memOk (Abs.Env.of Tryz.prog w) F381 1000 m382 = true := by kernel_rfl
theorem c383 (w : World) : Abs.memOk (Abs.Env.of Tryz.prog w) F382 1000 m383 = true := by kernel_rfl
theorem c384 (w : World) : Abs.memOk (Abs.Env.of Tryz.prog w) F383 1000 m384 = true := by kernel_rfl
theorem c385 (w : World) : Abs.memOk (Abs.Env.of Tryz.prog w) F384 1000 m385 = true := by kernel_rfl
theorem c386 (w : World) : Abs.memOk (Abs.Env.of Tryz.prog w) F385 1000 m386 = true := by kernel_rfl
theorem c387 (w : World) : Abs.memOk (Abs.Env.of Tryz.prog w) F386 1000 m387 = true := by kernel_rfl
theorem c388 (w : World) : Abs.memOk (Abs.Env.of Tryz.prog w) F387 1000 m388 = true := by kernel_rfl
theorem c389 (w : World) : Abs.memOk (Abs.Env.of Tryz.prog w) F388 1000 m389 = true := by kernel_rfl
theorem c390 (w : World) : Abs.memOkT (Abs.Env.of Tryz.prog w) F389 1000 m390 = true := by kernel_rfl
theorem c391 (w : World) : Abs.memOk (Abs.Env.of Tryz.prog w) F390 1000 m391 = true := by kernel_rfl
end Go.Proofs.YthgnjkimfaodkacGreat.verdictKnown
