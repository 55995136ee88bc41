/-
  Single calls that the law VerdictKnown makes, computed by the executor of the abstract layer (part 9).
-/
import Derived.Test.YthgnjkimfaodkacGreatVerdictKnownD1
namespace Go.Proofs.YthgnjkimfaodkacGreat.verdictKnown
open Go
theorem c138 (w : World) : Abs.memOk (Abs.Env.of Tryz.prog w) F137 1000 m138 = true := by kernel_rfl
theorem c139 (w : World) : Abs.memOk (Abs.Env.of Tryz.prog w) F138 1000 m139 = true := by kernel_rfl
theorem c140 (w : World) : Abs.memOkT (Abs.Env.of Tryz.prog w) F139 1000 m140 = true := by kernel_rfl
theorem c141 (w : World) : Abs.memOk (Abs.Env.of Tryz.prog w) F140 1000 m141 = true := by kernel_rfl
theorem c142 (w : World) : Abs.memOk (Abs.Env.of Tryz.prog w) F141 1000 m142 = true := by kernel_rfl
theorem c143 (w : World) : Abs.memOk (Abs.Env.of Tryz.prog w) F142 1000 m143 = true := by kernel_rfl
theorem c144 (w : World) : Abs.memOk (Abs.Env.of Tryz.prog w) F143 1000 m144 = true := by kernel_rfl
theorem c145 (w : World) : Abs.memOk (Abs.Env.of Tryz.prog w) F144 1000 m145 = true := by kernel_rfl
theorem c146 (w : World) : Abs.memOk (Abs.Env.of Tryz.prog w) F145 1000 m146 = true := by kernel_rfl
theorem c147 (w : World) : Abs.memOk (Abs.Env.of Tryz.prog w) F146 1000 m147 = true := by kernel_rfl
theorem c148 (w : World) : Abs.memOk (Abs.Env.of Tryz.prog w) F147 1000 m148 = true := by kernel_rfl
theorem c149 (w : World) : Abs.memOk (Abs.Env.of Tryz.prog w) F148 1000 m149 = true := by kernel_rfl
theorem c150 (w : World) : Abs.memOk (Abs.Env.of Tryz.prog w) F149 1000 m150 = true := by kernel_rfl
end Go.Proofs.YthgnjkimfaodkacGreat.verdictKnown
