/-
  Single calls that the law VerdictKnown makes, computed by the executor of the abstract layer (part 27).
-/
import Derived.Test.YthgnjkimfaodkacGreatVerdictKnownD1
namespace Go.Proofs.YthgnjkimfaodkacGreat.verdictKnown
open Go
theorem c392 (w : World) : Abs.memOk (Abs.Env.of Tryz.prog w) F391 1000 m392 = true := by kernel_rfl
theorem c393 (w : World) : Abs.memOk (Abs.Env.of Tryz.prog w) F392 1000 m393 = true := by kernel_rfl
theorem c394 (w : World) : Abs.memOk (Abs.Env.of Tryz.prog w) F393 1000 m394 = true := by kernel_rfl
theorem c395 (w : World) : Abs.memOk (Abs.Env.of Tryz.prog w) F394 1000 m395 = true := by kernel_rfl
theorem c396 (w : World) : Abs.memOk (Abs.Env.of Tryz.prog w) F395 1000 m396 = true := by kernel_rfl
theorem c397 (w : World) : Abs.memOk (Abs.Env.of Tryz.prog w) F396 1000 m397 = true := by kernel_rfl
theorem c398 (w : World) : Abs.memOk (Abs.Env.of Tryz.prog w) F397 1000 m398 = true := by kernel_rfl
theorem c399 (w : World) : Abs.memOk (Abs.Env.of Tryz.prog w) F398 1000 m399 = true := by kernel_rfl
theorem c400 (w : World) : Abs.memOk (Abs.Env.of Tryz.prog w) F399 1000 m400 = true := by kernel_rfl
end Go.Proofs.YthgnjkimfaodkacGreat.verdictKnown
