/-
  Single calls that the law VerdictKnown makes, computed by the executor of the abstract layer (part 16).
-/
import Derived.Test.YthgnjkimfaodkacGreatVerdictKnownD1
namespace Go.Proofs.YthgnjkimfaodkacGreat.verdictKnown
open Go
theorem c241 (w : World) : Abs.memOk (Abs.Env.of Tryz.prog w) F240 1000 m241 = true := by kernel_rfl
theorem c242 (w : World) : Abs.memOk (Abs.Env.of Tryz.prog w) F241 1000 m242 = true := by kernel_rfl
theorem c243 (w : World) : Abs.memOk (Abs.Env.of Tryz.prog w) F242 1000 m243 = true := by kernel_rfl
theorem c244 (w : World) : Abs.memOk (Abs.Env.of Tryz.prog w) F243 1000 m244 = true := by kernel_rfl
theorem c245 (w : World) : Abs.memOk (Abs.Env.of Tryz.prog w) F244 1000 m245 = true := by kernel_rfl
theorem c246 (w : World) : Abs.memOk (Abs.Env.of Tryz.prog w) F245 1000 m246 = true := by kernel_rfl
theorem c247 (w : World) : Abs.memOk (Abs.Env.of Tryz.prog w) F246 1000 m247 = true := by kernel_rfl
theorem c248 (w : World) : Abs.memOk (Abs.Env.of Tryz.prog w) F247 1000 m248 = true := by kernel_rfl
theorem c249 (w : World) : Abs.memOkT (Abs.Env.of Tryz.prog w) F248 1000 m249 = true := by kernel_rfl
theorem c250 (w : World) : Abs.memOk (Abs.Env.of Tryz.prog w) F249 1000 m250 = true := by kernel_rfl
theorem c251 (w : World) : Abs.memOk (Abs.Env.of Tryz.prog w) F250 1000 m251 = true := by kernel_rfl
theorem c252 (w : World) : Abs.memOk (Abs.Env.of Tryz.prog w) F251 1000 m252 = true := by kernel_rfl
theorem c253 (w : World) : Abs.memOk (Abs.Env.of Tryz.prog w) F252 1000 m253 = true := by kernel_rfl
theorem c254 (w : World) : Abs.memOk (Abs.Env.of Tryz.prog w) F253 1000 m254 = true := by kernel_rfl
theorem c255 (w : World) : Abs.memOk (Abs.Env.of Tryz.prog w) F254 1000 m255 = true := by kernel_rfl
theorem c256 (w : World) : Abs.memOk (Abs.Env.of Tryz.prog w) F255 1000 m256 = true := by kernel_rfl
end Go.Proofs.YthgnjkimfaodkacGreat.verdictKnown
