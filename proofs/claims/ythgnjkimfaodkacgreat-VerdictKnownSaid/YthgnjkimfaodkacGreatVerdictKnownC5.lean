/-
  Single calls that the law VerdictKnown makes, computed by the executor of the abstract layer (part 5).
-/
import Derived.Test.YthgnjkimfaodkacGreatVerdictKnownD1
namespace Go.Proofs.YthgnjkimfaodkacGreat.verdictKnown
open Go
theorem c81 (w : World) : Abs.memOk (Abs.Env.of Tryz.prog w) F80 1000 m81 = true := by kernel_rfl
theorem c82 (w : World) : Abs.memOk (Abs.Env.of Tryz.prog w) F81 1000 m82 = true := by kernel_rfl
theorem c83 (w : World) : Abs.memOk (Abs.Env.of Tryz.prog w) F82 1000 m83 = true := by kernel_rfl
theorem c84 (w : World) : Abs.memOk (Abs.Env.of Tryz.prog w) F83 1000 m84 = true := by kernel_rfl
theorem c85 (w : World) : Abs.memOk (Abs.Env.of Tryz.prog w) F84 1000 m85 = true := by kernel_rfl
theorem c86 (w : World) : Abs.memOk (Abs.Env.of Tryz.prog w) F85 1000 m86 = true := by kernel_rfl
theorem c87 (w : World) : Abs.memOk (Abs.Env.of Tryz.prog w) F86 1000 m87 = true := by kernel_rfl
theorem c88 (w : World) : Abs.memOk (Abs.Env.of Tryz.prog w) F87 1000 m88 = true := by kernel_rfl
theorem c89 (w : World) : Abs.memOk (Abs.Env.of Tryz.prog w) F88 1000 m89 = true := by kernel_rfl
theorem c90 (w : World) : Abs.memOk (Abs.Env.of Tryz.prog w) F89 1000 m90 = true := by kernel_rfl
theorem c91 (w : World) : Abs.memOk (Abs.Env.of Tryz.prog w) F90 1000 m91 = true := by kernel_rfl
theorem c92 (w : World) : Abs.memOk (Abs.Env.of Tryz.prog w) F91 1000 m92 = true := by kernel_rfl
theorem c93 (w : World) : Abs.memOk (Abs.Env.of Tryz.prog w) F92 1000 m93 = true := by kernel_rfl
theorem c94 (w : World) : Abs.memOk (Abs.Env.of Tryz.prog w) F93 1000 m94 = true := by kernel_rfl
theorem c95 (w : World) : Abs.memOk (Abs.Env.of Tryz.prog w) F94 1000 m95 = true := by kernel_rfl
end Go.Proofs.YthgnjkimfaodkacGreat.verdictKnown
