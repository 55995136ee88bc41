/-
  Single calls that the law VerdictKnown makes, computed by the executor of the abstract layer (part 24).
-/
import Derived.Test.YthgnjkimfaodkacGreatVerdictKnownD1
namespace Go.Proofs.YthgnjkimfaodkacGreat.verdictKnown
open Go
theorem c359 (w : World) : Abs.memOkT (Abs.Env.of Tryz.prog w) F358 1000 m359 = true := by kernel_rfl
theorem c360 (w : World) : Abs.memOk (Abs.Env.of Tryz.prog w) F359 1000 m360 = true := by kernel_rfl
theorem c361 (w : World) : Abs.memOk (Abs.Env.of Tryz.prog w) F360 1000 m361 = true := by kernel_rfl
theorem c362 (w : World) : Abs.memOk (Abs.Env.of Tryz.prog w) F361 1000 m362 = true := by kernel_rfl
end Go.Proofs.YthgnjkimfaodkacGreat.verdictKnown
