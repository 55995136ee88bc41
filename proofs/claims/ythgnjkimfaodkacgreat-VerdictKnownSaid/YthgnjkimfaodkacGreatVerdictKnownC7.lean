/-
  Single calls that the law VerdictKnown makes, computed by the executor of the abstract layer (part 7).
-/
import Derived.Test.YthgnjkimfaodkacGreatVerdictKnownD1
namespace Go.Proofs.YthgnjkimfaodkacGreat.verdictKnown
open Go
theorem c110 (w : World) : Abs.memOk (Abs.Env.of Tryz.prog w) F109 1000 m110 = true := by kernel_rfl
theorem c111 (w : World) : Abs.memOk (Abs.Env.of Tryz.prog w) F110 1000 m111 = true := by kernel_rfl
theorem c112 (w : World) : Abs.memOk (Abs.Env.of Tryz.prog w) F111 1000 m112 = true := by kernel_rfl
theorem c113 (w : World) : Abs.memOk (Abs.Env.of Tryz.prog w) F112 1000 m113 = true := by kernel_rfl
theorem c114 (w : World) : Abs.memOk (Abs.Env.of Tryz.prog w) F113 1000 m114 = true := by kernel_rfl
theorem c115 (w : World) : Abs.memOk (Abs.Env.of Tryz.prog w) F114 1000 m115 = true := by kernel_rfl
theorem c116 (w : World) : Abs.memOk (Abs.Env.of Tryz.prog w) F115 1000 m116 = true := by kernel_rfl
theorem c117 (w : World) : Abs.memOk (Abs.Env.of Tryz.prog w) F116 1000 m117 = true := by kernel_rfl
theorem c118 (w : World) : Abs.memOk (Abs.Env.of Tryz.prog w) F117 1000 m118 = true := by kernel_rfl
theorem c119 (w : World) : Abs.memOk (Abs.Env.of Tryz.prog w) F118 1000 m119 = true := by kernel_rfl
theorem c120 (w : World) : Abs.memOk (Abs.Env.of Tryz.prog w) F119 1000 m120 = true := by kernel_rfl
theorem c121 (w : World) : Abs.memOk (Abs.Env.of Tryz.prog w) F120 1000 m121 = true := by kernel_rfl
theorem c122 (w : World) : Abs.memOk (Abs.Env.of Tryz.prog w) F121 1000 m122 = true := by kernel_rfl
theorem c123 (w : World) : Abs.memOk (Abs.Env.of Tryz.prog w) F122 1000 m123 = true := by kernel_rfl
theorem c124 (w : World) : Abs.memOk (Abs.Env.of Tryz.prog w) F123 1000 m124 = true := by kernel_rfl
theorem c125 (w : World) : Abs.memOk (Abs.Env.of Tryz.prog w) F124 1000 m125 = true := by kernel_rfl
end Go.Proofs.YthgnjkimfaodkacGreat.verdictKnown
