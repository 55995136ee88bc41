/-
  Single calls that the law VerdictKnown makes, computed by the executor of the abstract layer (part 18).
-/
import Derived.Test.YthgnjkimfaodkacGreatVerdictKnownD1
namespace Go.Proofs.YthgnjkimfaodkacGreat.verdictKnown
open Go
theorem c272 (w : World) : Abs.memOk (Abs.Env.of Tryz.prog w) F271 1000 m272 = true := by kernel_rfl
theorem c273 (w : World) : Abs.memOk (Abs.Env.of Tryz.prog w) F272 1000 m273 = true := by kernel_rfl
theorem c274 (w : World) : Abs.memOk (Abs.Env.of Tryz.prog w) F273 1000 m274 = true := by kernel_rfl
theorem c275 (w : World) : Abs.memOk (Abs.Env.of Tryz.prog w) F274 1000 m275 = true := by kernel_rfl
theorem c276 (w : World) : Abs.memOk (Abs.Env.of Tryz.prog w) F275 1000 m276 = true := by kernel_rfl
theorem c277 (w : World) : Abs.memOk (Abs.Env.of Tryz.prog w) F276 1000 m277 = true := by kernel_rfl
theorem c278 (w : World) : Abs.memOkT (Abs.Env.of Tryz.prog w) F277 1000 m278 = true := by kernel_rfl
theorem c279 (w : World) : Abs.memOk (Abs.Env.of Tryz.prog w) F278 1000 m279 = true := by kernel_rfl
theorem c280 (w : World) : Abs.memOk (Abs.Env.of Tryz.prog w) F279 1000 m280 = true := by kernel_rfl
theorem c281 (w : World) : Abs.memOk (Abs.Env.of Tryz.prog w) F280 1000 m281 = true := by kernel_rfl
theorem c282 (w : World) : Abs.memOk (Abs.Env.of Tryz.prog w) F281 1000 m282 = true := by kernel_rfl
theorem c283 (w : World) : Abs.memOkT (Abs.Env.of Tryz.prog w) F282 1000 m283 = true := by kernel_rfl
theorem c284 (w : World) : Abs.memOk (Abs.Env.of Tryz.prog w) F283 1000 m284 = true := by kernel_rfl
theorem c285 (w : World) : Abs.memOk (Abs.Env.of Tryz.prog w) F284 1000 m285 = true := by kernel_rfl
end Go.Proofs.YthgnjkimfaodkacGreat.verdictKnown
