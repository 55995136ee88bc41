/-
  Single calls that the law VerdictKnown makes, computed by the executor of the abstract layer (part 8).
-/
import Derived.Test.YthgnjkimfaodkacGreatVerdictKnownD1
namespace Go.Proofs.YthgnjkimfaodkacGreat.verdictKnown
open Go
theorem c126 (w : World) : Abs.memOk (Abs.Env.of Tryz.prog w) F125 1000 m126 = true := by kernel_rfl
theorem c127 (w : World) : Abs.memOk (Abs.Env.of Tryz.prog w) F126 1000 m127 = true := by kernel_rfl
theorem c128 (w : World) : Abs.memOkT (Abs.Env.of Tryz.prog w) F127 1000 m128 = true := by kernel_rfl
theorem c129 (w : World) : Abs.memOk (Abs.Env.of Tryz.prog w) F128 1000 m129 = true := by kernel_rfl
theorem c130 (w : World) : Abs.memOk (Abs.Env.of Tryz.prog w) F129 1000 m130 = true := by kernel_rfl
theorem c131 (w : World) : Abs.memOk (Abs.Env.of Tryz.prog w) F130 1000 m131 = true := by kernel_rfl
theorem c132 (w : World) : Abs.memOk (Abs.Env.of Tryz.prog w) F131 1000 m132 = true := by kernel_rfl
theorem c133 (w : World) : Abs.memOk (Abs.Env.of Tryz.prog w) F132 1000 m133 = true := by kernel_rfl
theorem c134 (w : World) : Abs.memOk (Abs.Env.of Tryz.prog w) F133 1000 m134 = true := by kernel_rfl
theorem c135 (w : World) : Abs.memOk (Abs.Env.of Tryz.prog w) F134 1000 m135 = true := by kernel_rfl
theorem c136 (w : World) : Abs.memOk (Abs.Env.of Tryz.prog w) F135 1000 m136 = true := by kernel_rfl
theorem c137 (w : World) : Abs.memOk (Abs.Env.of Tryz.prog w) F136 1000 m137 = true := by kernel_rfl
end Go.Proofs.YthgnjkimfaodkacGreat.verdictKnown
