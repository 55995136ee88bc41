/-
  Single calls that the law VerdictKnown makes, computed by the executor of the abstract layer (part 21).
-/
import Derived.Test.YthgnjkimfaodkacGreatVerdictKnownD1
namespace Go.Proofs.YthgnjkimfaodkacGreat.verdictKnown
open Go
theorem c316 (w : World) : Abs.memOkT (Abs.Env.of Tryz.prog w) F315 1000 m316 = true := by kernel_rfl
theorem c317 (w : World) : Abs.memOk (Abs.Env.of Tryz.prog w) F316 1000 m317 = true := by kernel_rfl
theorem c318 (w : World) : Abs.memOk (Abs.Env.of Tryz.prog w) F317 1000 m318 = true := by kernel_rfl
theorem c319 (w : World) : Abs.memOk (Abs.Env.of Tryz.prog w) F318 1000 m319 = true := by kernel_rfl
theorem c320 (w : World) : Abs.memOkT (Abs.Env.of Tryz.prog w) F319 1000 m320 = true := by kernel_rfl
theorem c321 (w : World) : Abs.memOk (Abs.Env.of Tryz.prog w) F320 1000 m321 = true := by kernel_rfl
theorem c322 (w : World) : Abs.memOk (Abs.Env.of Tryz.prog w) F321 1000 m322 = true := by kernel_rfl
theorem c323 (w : World) : Abs.memOkT (Abs.Env.of Tryz.prog w) F322 1000 m323 = true := by kernel_rfl
theorem c324 (w : World) : Abs.memOk (Abs.Env.of Tryz.prog w) F323 1000 m324 = true := by kernel_rfl
theorem c325 (w : World) : Abs.memOk (Abs.Env.of Tryz.prog w) F324 1000 m325 = true := by kernel_rfl
theorem c326 (w : World) : Abs.memOk (Abs.Env.of Tryz.prog w) F325 1000 m326 = true := by kernel_rfl
theorem c327 (w : World) : Abs.memOk (Abs.Env.of Tryz.prog w) F326 1000 m327 = true := by kernel_rfl
theorem c328 (w : World) : Abs.memOkT (Abs.Env.of Tryz.prog w) F327 1000 m328 = true := by kernel_rfl
theorem c329 (w : World) : Abs.memOk (Abs.Env.of Tryz.prog w) F328 1000 m329 = true := by kernel_rfl
theorem c330 (w : World) : Abs.memOk (Abs.Env.of Tryz.prog w) F329 1000 m330 = true := by kernel_rfl
theorem c331 (w : World) : Abs.memOk (Abs.Env.of Tryz.prog w) F330 1000 m331 = true := by kernel_rfl
theorem c332 (w : World) : Abs.memOk (Abs.Env.of Tryz.prog w) F331 1000 m332 = true := by kernel_rfl
end Go.Proofs.YthgnjkimfaodkacGreat.verdictKnown
