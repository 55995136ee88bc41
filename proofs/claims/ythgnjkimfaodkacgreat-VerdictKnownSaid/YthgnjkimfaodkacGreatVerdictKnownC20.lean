/-
  Single calls that the law VerdictKnown makes, computed by the executor of the abstract layer (part 20).
-/
import Derived.Test.YthgnjkimfaodkacGreatVerdictKnownD1
namespace Go.Proofs.YthgnjkimfaodkacGreat.verdictKnown
open Go
theorem c301 (w : World) : Abs.memOk (Abs.Env.of Tryz.prog w) F300 1000 m301 = true := by kernel_rfl
theorem c302 (w : World) : Abs.memOk (Abs.Env.of Tryz.prog w) F301 1000 m302 = true := by kernel_rfl
theorem c303 (w : World) : Abs.memOk (Abs.Env.of Tryz.prog w) F302 1000 m303 = true := by kernel_rfl
theorem c304 (w : World) : Abs.memOk (Abs.Env.of Tryz.prog w) F303 1000 m304 = true := by kernel_rfl
theorem c305 (w : World) : Abs.memOk (Abs.Env.of Tryz.prog w) F304 1000 m305 = true := by kernel_rfl
theorem c306 (w : World) : Abs.memOk (Abs.Env.of Tryz.prog w) F305 1000 m306 = true := by kernel_rfl
theorem c307 (w : World) : Abs.memOk (Abs.Env.of Tryz.prog w) F306 1000 m307 = true := by kernel_rfl
theorem c308 (w : World) : Abs.memOk (Abs.Env.of Tryz.prog w) F307 1000 m308 = true := by kernel_rfl
theorem c309 (w : World) : Abs.memOk (Abs.Env.of Tryz.prog w) F308 1000 m309 = true := by kernel_rfl
theorem c310 (w : World) : Abs.memOk (Abs.Env.of Tryz.prog w) F309 1000 m310 = true := by kernel_rfl
theorem c311 (w : World) : Abs.memOk (Abs.Env.of Tryz.prog w) F310 1000 m311 = true := by kernel_rfl
theorem c312 (w : World) : Abs.memOk (Abs.Env.of Tryz.prog w) F311 1000 m312 = true := by kernel_rfl
theorem c313 (w : World) : Abs.memOkT (Abs.Env.of Tryz.prog w) F312 1000 m313 = true := by kernel_rfl
theorem c314 (w : World) : Abs.memOk (Abs.Env.of Tryz.prog w) F313 1000 m314 = true := by kernel_rfl
theorem c315 (w : World) : Abs.memOk (Abs.Env.of Tryz.prog w) F314 1000 m315 = true := by kernel_rfl
end Go.Proofs.YthgnjkimfaodkacGreat.verdictKnown
