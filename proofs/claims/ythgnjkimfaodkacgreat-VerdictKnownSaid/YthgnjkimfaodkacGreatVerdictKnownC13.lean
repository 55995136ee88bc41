/-
  Single calls that the law VerdictKnown makes, computed by the executor of the abstract layer (part 13).
-/
import Derived.Test.YthgnjkimfaodkacGreatVerdictKnownD1
namespace Go.Proofs.YthgnjkimfaodkacGreat.verdictKnown
open Go
theorem c196 (w : World) : Abs.memOk (Abs.Env.of Tryz.prog w) F195 1000 m196 = true := by kernel_rfl
theorem c197 (w : World) : Abs.memOk (Abs.Env.of Tryz.prog w) F196 1000 m197 = true := by kernel_rfl
theorem c198 (w : World) : Abs.memOk (Abs.Env.of Tryz.prog w) F197 1000 m198 = true := by kernel_rfl
theorem c199 (w : World) : Abs.memOkT (Abs.Env.of Tryz.prog w) F198 1000 m199 = true := by kernel_rfl
theorem c200 (w : World) : Abs.memOk (Abs.Env.of Tryz.prog w) F199 1000 m200 = true := by kernel_rfl
theorem c201 (w : World) : Abs.memOk (Abs.Env.of Tryz.prog w) F200 1000 m201 = true := by kernel_rfl
theorem c202 (w : World) : Abs.memOk (Abs.Env.of Tryz.prog w) F201 1000 m202 = true := by kernel_rfl
theorem c203 (w : World) : Abs.memOk (Abs.Env.of Tryz.prog w) F202 1000 m203 = true := by kernel_rfl
theorem c204 (w : World) : Abs.memOkT (Abs.Env.of Tryz.prog w) F203 1000 m204 = true := by kernel_rfl
theorem c205 (w : World) : Abs.memOk (Abs.Env.of Tryz.prog w) F204 1000 m205 = true := by kernel_rfl
theorem c206 (w : World) : Abs.memOk (Abs.Env.of Tryz.prog w) F205 1000 m206 = true := by kernel_rfl
theorem c207 (w : World) : Abs.memOk (Abs.Env.of Tryz.prog w) F206 1000 m207 = true := by kernel_rfl
theorem c208 (w : World) : Abs.memOk (Abs.Env.of Tryz.prog w) F207 1000 m208 = true := by kernel_rfl
theorem c209 (w : World) : Abs.memOk (Abs.Env.of Tryz.prog w) F208 1000 m209 = true := by kernel_rfl
end Go.Proofs.YthgnjkimfaodkacGreat.verdictKnown
