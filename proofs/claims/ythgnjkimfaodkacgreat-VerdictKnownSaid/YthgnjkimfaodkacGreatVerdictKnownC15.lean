/-
  Single calls that the law VerdictKnown makes, computed by the executor of the abstract layer (part 15).
-/
import Derived.Test.YthgnjkimfaodkacGreatVerdictKnownD1
namespace Go.Proofs.YthgnjkimfaodkacGreat.verdictKnown
open Go
theorem c226 (w : World) : Abs.memOk (Abs.Env.of Tryz.prog w) F225 1000 m226 = true := by kernel_rfl
theorem c227 (w : World) : Abs.memOk (Abs.Env.of Tryz.prog w) F226 1000 m227 = true := by kernel_rfl
theorem c228 (w : World) : Abs.memOk (Abs.Env.of Tryz.prog w) F227 1000 m228 = true := by kernel_rfl
theorem c229 (w : World) : Abs.memOk (Abs.Env.of Tryz.prog w) F228 1000 m229 = true := by kernel_rfl
theorem c230 (w : World) : Abs.memOk (Abs.Env.of Tryz.prog w) F229 1000 m230 = true := by kernel_rfl
theorem c231 (w : World) : Abs.memOk (Abs.Env.of Tryz.prog w) F230 1000 m231 = true := by kernel_rfl
theorem c232 (w : World) : Abs.memOkT (Abs.Env.of Tryz.prog w) F231 1000 m232 = true := by kernel_rfl
theorem c233 (w : World) : Abs.memOk (Abs.Env.of Tryz.prog w) F232 1000 m233 = true := by kernel_rfl
theorem c234 (w : World) : Abs.memOk (Abs.Env.of Tryz.prog w) F233 1000 m234 = true := by kernel_rfl
theorem c235 (w : World) : Abs.memOkT (Abs.Env.of Tryz.prog w) F234 1000 m235 = true := by kernel_rfl
theorem c236 (w : World) : Abs.memOk (Abs.Env.of Tryz.prog w) F235 1000 m236 = true := by kernel_rfl
theorem c237 (w : World) : Abs.memOk (Abs.Env.of Tryz.prog w) F236 1000 m237 = true := by kernel_rfl
theorem c238 (w : World) : Abs.memOk (Abs.Env.of Tryz.prog w) F237 1000 m238 = true := by kernel_rfl
theorem c239 (w : World) : Abs.memOk (Abs.Env.of Tryz.prog w) F238 1000 m239 = true := by kernel_rfl
theorem c240 (w : World) : Abs.memOkT (Abs.Env.of Tryz.prog w) F239 1000 m240 = true := by kernel_rfl
end Go.Proofs.YthgnjkimfaodkacGreat.verdictKnown
