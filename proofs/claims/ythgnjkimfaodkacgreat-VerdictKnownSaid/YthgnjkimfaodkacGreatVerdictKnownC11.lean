/-
  Single calls that the law VerdictKnown makes, computed by the executor of the abstract layer (part 11).
-/
import Derived.Test.YthgnjkimfaodkacGreatVerdictKnownD1
namespace Go.Proofs.YthgnjkimfaodkacGreat.verdictKnown
open Go
theorem c166 (w : World) : Abs.memOk (Abs.Env.of Tryz.prog w) F165 1000 m166 = true := by kernel_rfl
theorem c167 (w : World) : Abs.memOk (Abs.Env.of Tryz.prog w) F166 1000 m167 = true := by kernel_rfl
theorem c168 (w : World) : Abs.memOkT (Abs.Env.of Tryz.prog w) F167 1000 m168 = true := by kernel_rfl
theorem c169 (w : World) : Abs.memOk (Abs.Env.of Tryz.prog w) F168 1000 m169 = true := by kernel_rfl
theorem c170 (w : World) : Abs.memOk (Abs.Env.of Tryz.prog w) F169 1000 m170 = true := by kernel_rfl
theorem c171 (w : World) : Abs.memOk (Abs.Env.of Tryz.prog w) F170 1000 m171 = true := by kernel_rfl
theorem c172 (w : World) : Abs.memOk (Abs.Env.of Tryz.prog w) F171 1000 m172 = true := by kernel_rfl
theorem c173 (w : World) : Abs.memOk (Abs.Env.of Tryz.prog w) F172 1000 m173 = true := by kernel_rfl
theorem c174 (w : World) : Abs.memOk (Abs.Env.of Tryz.prog w) F173 1000 m174 = true := by kernel_rfl
theorem c175 (w : World) : Abs.memOk (Abs.Env.of Tryz.prog w) F174 1000 m175 = true := by kernel_rfl
theorem c176 (w : World) : Abs.memOk (Abs.Env.of Tryz.prog w) F175 1000 m176 = true := by kernel_rfl
theorem c177 (w : World) : Abs.memOkT (Abs.Env.of Tryz.prog w) F176 1000 m177 = true := by kernel_rfl
theorem c178 (w : World) : Abs.memOk (Abs.Env.of Tryz.prog w) F177 1000 m178 = true := by kernel_rfl
theorem c179 (w : World) : Abs.memOk (Abs.Env.of Tryz.prog w) F178 1000 m179 = true := by kernel_rfl
end Go.Proofs.YthgnjkimfaodkacGreat.verdictKnown
