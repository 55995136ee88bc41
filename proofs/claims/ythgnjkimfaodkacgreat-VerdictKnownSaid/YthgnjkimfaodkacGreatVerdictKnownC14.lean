/-
  Single calls that the law VerdictKnown makes, computed by the executor of the abstract layer (part 14).
-/
import Derived.Test.YthgnjkimfaodkacGreatVerdictKnownD1
namespace Go.Proofs.YthgnjkimfaodkacGreat.verdictKnown
open Go
theorem c210 (w : World) : Abs.memOk (Abs.Env.of Tryz.prog w) F209 1000 m210 = true := by kernel_rfl
theorem c211 (w : World) : Abs.memOk (Abs.Env.of Tryz.prog w) F210 1000 m211 = true := by kernel_rfl
theorem c212 (w : World) : Abs.memOk (Abs.Env.of Tryz.prog w) F211 1000 m212 = true := by kernel_rfl
theorem c213 (w : World) : Abs.memOkT (Abs.Env.of Tryz.prog w) F212 1000 m213 = true := by kernel_rfl
theorem c214 (w : World) : Abs.memOk (Abs.Env.of Tryz.prog w) F213 1000 m214 = true := by kernel_rfl
theorem c215 (w : World) : Abs.memOk (Abs.Env.of Tryz.prog w) F214 1000 m215 = true := by kernel_rfl
theorem c216 (w : World) : Abs.memOk (Abs.Env.of Tryz.prog w) F215 1000 m216 = true := by kernel_rfl
theorem c217 (w : World) : Abs.memOk (Abs.Env.of Tryz.prog w) F216 1000 m217 = true := by kernel_rfl
theorem c218 (w : World) : Abs.memOk (Abs.Env.of Tryz.prog w) F217 1000 m218 = true := by kernel_rfl
theorem c219 (w : World) : Abs.memOk (Abs.Env.of Tryz.prog w) F218 1000 m219 = true := by kernel_rfl
theorem c220 (w : World) : Abs.memOkT (Abs.Env.of Tryz.prog w) F219 1000 m220 = true := by kernel_rfl
theorem c221 (w : World) : Abs.memOk (Abs.Env.of Tryz.prog w) F220 1000 m221 = true := by kernel_rfl
theorem c222 (w : World) : Abs.memOk (Abs.Env.of Tryz.prog w) F221 1000 m222 = true := by kernel_rfl
theorem c223 (w : World) : Abs.memOk (Abs.Env.of Tryz.prog w) F222 1000 m223 = true := by kernel_rfl
theorem c224 (w : World) : Abs.memOk (Abs.Env.of Tryz.prog w) F223 1000 m224 = true := by kernel_rfl
theorem c225 (w : World) : Abs.memOk (Abs.Env.of Tryz.prog w) F224 1000 m225 = true := by kernel_rfl
end Go.Proofs.YthgnjkimfaodkacGreat.verdictKnown
