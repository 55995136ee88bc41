/-
  Single calls that the law VerdictKnown makes, computed by the executor of the abstract layer (part 17).
-/
import Derived.Test.YthgnjkimfaodkacGreatVerdictKnownD1
namespace Go.Proofs.YthgnjkimfaodkacGreat.verdictKnown
open Go
theorem c257 (w : World) : Abs.memOk (Abs.Env.of Tryz.prog w) F256 1000 m257 = true := by kernel_rfl
theorem c258 (w : World) : Abs.memOk (Abs.Env.of Tryz.prog w) F257 1000 m258 = true := by kernel_rfl
theorem c259 (w : World) : Abs.memOk (Abs.Env.of Tryz.prog w) F258 1000 m259 = true := by kernel_rfl
theorem c260 (w : World) : Abs.memOk (Abs.Env.of Tryz.prog w) F259 1000 m260 = true := by kernel_rfl
theorem c261 (w : World) : Abs.memOk (Abs.Env.of Tryz.prog w) F260 1000 m261 = true := by kernel_rfl
theorem c262 (w : World) : Abs.memOkT (Abs.Env.of Tryz.prog w) F261 1000 m262 = true := by kernel_rfl
theorem c263 (w : World) : Abs.memOk (Abs.Env.of Tryz.prog w) F262 1000 m263 = true := by kernel_rfl
theorem c264 (w : World) : Abs.memOk (Abs.Env.of Tryz.prog w) F263 1000 m264 = true := by kernel_rfl
theorem c265 (w : World) : Abs.memOkT (Abs.Env.of Tryz.prog w) F264 1000 m265 = true := by kernel_rfl
theorem c266 (w : World) : Abs.memOk (Abs.Env.of Tryz.prog w) F265 1000 m266 = true := by kernel_rfl
theorem c267 (w : World) : Abs.memOk (Abs.Env.of Tryz.prog w) F266 1000 m267 = true := by kernel_rfl
theorem c268 (w : World) : Abs.memOk (Abs.Env.of Tryz.prog w) F267 1000 m268 = true := by kernel_rfl
theorem c269 (w : World) : Abs.memOkT (Abs.Env.of Tryz.prog w) F268 1000 m269 = true := by kernel_rfl
theorem c270 (w : World) : Abs.memOk (Abs.Env.of Tryz.prog w) F269 1000 m270 = true := by kernel_rfl
theorem c271 (w : World) : Abs.memOk (Abs.Env.of Tryz.prog w) F270 1000 m271 = true := by kernel_rfl
end Go.Proofs.YthgnjkimfaodkacGreat.verdictKnown
