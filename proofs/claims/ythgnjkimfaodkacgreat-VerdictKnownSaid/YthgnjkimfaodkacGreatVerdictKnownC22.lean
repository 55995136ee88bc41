/-
  Single calls that the law VerdictKnown makes, computed by the executor of the abstract layer (part 22).
-/
import Derived.Test.YthgnjkimfaodkacGreatVerdictKnownD1
namespace Go.Proofs.YthgnjkimfaodkacGreat.verdictKnown
open Go
theorem c333 (w : World) : Abs.memOk (Abs.Env.of Tryz.prog w) F332 1000 m333 = true := by kernel_rfl
theorem c334 (w : World) : Abs.memOk (Abs.Env.of Tryz.prog w) F333 1000 m334 = true := by kernel_rfl
theorem c335 (w : World) : Abs.memOk (Abs.Env.of Tryz.prog w) F334 1000 m335 = true := by kernel_rfl
theorem c336 (w : World) : Abs.memOk (Abs.Env.of Tryz.prog w) F335 1000 m336 = true := by kernel_rfl
theorem c337 (w : World) : Abs.memOkT (Abs.Env.of Tryz.prog w) F336 1000 m337 = true := by kernel_rfl
theorem c338 (w : World) : Abs.memOk (Abs.Env.of Tryz.prog w) F337 1000 m338 = true := by kernel_rfl
theorem c339 (w : World) : Abs.memOk (Abs.Env.of Tryz.prog w) F338 1000 m339 = true := by kernel_rfl
theorem c340 (w : World) : Abs.memOk (Abs.Env.of Tryz.prog w) F339 1000 m340 = true := by kernel_rfl
theorem c341 (w : World) : Abs.memOk (Abs.Env.of Tryz.prog w) F340 1000 m341 = true := by kernel_rfl
theorem c342 (w : World) : Abs.memOk (Abs.Env.of Tryz.prog w) F341 1000 m342 = true := by kernel_rfl
theorem c343 (w : World) : Abs.memOk (Abs.Env.of Tryz.prog w) F342 1000 m343 = true := by kernel_rfl
theorem c344 (w : World) : Abs.memOk (Abs.Env.of Tryz.prog w) F343 1000 m344 = true := by kernel_rfl
theorem c345 (w : World) : Abs.memOk (Abs.Env.of Tryz.prog w) F344 1000 m345 = true := by kernel_rfl
theorem c346 (w : World) : Abs.memOk (Abs.Env.of Tryz.prog w) F345 1000 m346 = true := by kernel_rfl
theorem c347 (w : World) : Abs.memOk (Abs.Env.of Tryz.prog w) F346 1000 m347 = true := by kernel_rfl
end Go.Proofs.YthgnjkimfaodkacGreat.verdictKnown
