/-
  Single calls that the law VerdictKnown makes, computed by the executor of the abstract layer (part 19).
-/
import Derived.Test.YthgnjkimfaodkacGreatVerdictKnownD1
namespace Go.Proofs.YthgnjkimfaodkacGreat.verdictKnown
open Go
theorem c286 (w : World) : Abs.memOkT (Abs.Env.of Tryz.prog w) F285 1000 m286 = true := by kernel_rfl
theorem c287 (w : World) : Abs.memOk (Abs.Env.of Tryz.prog w) F286 1000 m287 = true := by kernel_rfl
theorem c288 (w : World) : Abs.memOk (Abs.Env.of Tryz.prog w) F287 1000 m288 = true := by kernel_rfl
theorem c289 (w : World) : Abs.memOk (Abs.Env.of Tryz.prog w) F288 1000 m289 = true := by kernel_rfl
theorem c290 (w : World) : Abs.memOk (Abs.Env.of Tryz.prog w) F289 1000 m290 = true := by kernel_rfl
theorem c291 (w : World) : Abs.memOkT (Abs.Env.of Tryz.prog w) F290 1000 m291 = true := by kernel_rfl
theorem c292 (w : World) : Abs.memOk (Abs.Env.of Tryz.prog w) F291 1000 m292 = true := by kernel_rfl
theorem c293 (w : World) : Abs.memOk (Abs.Env.of Tryz.prog w) F292 1000 m293 = true := by kernel_rfl
theorem c294 (w : World) : Abs.memOk (Abs.Env.of Tryz.prog w) F293 1000 m294 = true := by kernel_rfl
theorem c295 (w : World) : Abs.memOk (Abs.Env.of Tryz.prog w) F294 1000 m295 = true := by kernel_rfl
theorem c296 (w : World) : Abs.memOk (Abs.Env.of Tryz.prog w) F295 1000 m296 = true := by kernel_rfl
theorem c297 (w : World) : Abs.memOk (Abs.Env.of Tryz.prog w) F296 1000 m297 = true := by kernel_rfl
theorem c298 (w : World) : Abs.memOk (Abs.Env.of Tryz.prog w) F297 1000 m298 = true := by kernel_rfl
theorem c299 (w : World) : Abs.memOk (Abs.Env.of Tryz.prog w) F298 1000 m299 = true := by kernel_rfl
theorem c300 (w : World) : Abs.memOkT (Abs.Env.of Tryz.prog w) F299 1000 m300 = true := by kernel_rfl
end Go.Proofs.YthgnjkimfaodkacGreat.verdictKnown
