/-
  Single calls that the law VerdictKnown makes, computed by the executor of the abstract layer (part 10).
-/
import Derived.Test.YthgnjkimfaodkacGreatVerdictKnownD1
namespace Go.Proofs.YthgnjkimfaodkacGreat.verdictKnown
open Go
theorem c151 (w : World) : Abs.memOk (Abs.Env.of Tryz.prog w) F150 1000 m151 = true := by kernel_rfl
theorem c152 (w : World) : Abs.memOk (Abs.Env.of Tryz.prog w) F151 1000 m152 = true := by kernel_rfl
theorem c153 (w : World) : Abs.memOkT (Abs.Env.of Tryz.prog w) F152 1000 m153 = true := by kernel_rfl
theorem c154 (w : World) : Abs.memOk (Abs.Env.of Tryz.prog w) F153 1000 m154 = true := by kernel_rfl
theorem c155 (w : World) : Abs.memOk (Abs.Env.of Tryz.prog w) F154 1000 m155 = true := by kernel_rfl
theorem c156 (w : World) : Abs.memOkT (Abs.Env.of Tryz.prog w) F155 1000 m156 = true := by kernel_rfl
theorem c157 (w : World) : Abs.memOk (Abs.Env.of Tryz.prog w) F156 1000 m157 = true := by kernel_rfl
theorem c158 (w : World) : Abs.memOk (Abs.Env.of Tryz.prog w) F157 1000 m158 = true := by kernel_rfl
theorem c159 (w : World) : Abs.memOk (Abs.Env.of Tryz.prog w) F158 1000 m159 = true := by kernel_rfl
theorem c160 (w : World) : Abs.memOk (Abs.Env.of Tryz.prog w) F159 1000 m160 = true := by kernel_rfl
theorem c161 (w : World) : Abs.memOk (Abs.Env.of Tryz.prog w) F160 1000 m161 = true := by kernel_rfl
theorem c162 (w : World) : Abs.memOk (Abs.Env.of Tryz.prog w) F161 1000 m162 = true := by kernel_rfl
theorem c163 (w : World) : Abs.memOk (Abs.Env.of Tryz.prog w) F162 1000 m163 = true := by kernel_rfl
theorem c164 (w : World) : Abs.memOk (Abs.Env.of Tryz.prog w) F163 1000 m164 = true := by kernel_rfl
theorem c165 (w : World) : Abs.memOk (Abs.Env.of Tryz.prog w) F164 1000 m165 = true := by kernel_rfl
end Go.Proofs.YthgnjkimfaodkacGreat.verdictKnown
