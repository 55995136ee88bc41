/-
  Single calls that the law VerdictKnown makes, computed by the executor of the abstract layer (part 3).
-/
import Derived.Test.YthgnjkimfaodkacGreatVerdictKnownD1
namespace Go.Proofs.YthgnjkimfaodkacGreat.verdictKnown
open Go
theorem c51 (w : World) : Abs.memOk (Abs.Env.of Tryz.prog w) F50 1000 m51 = true := by kernel_rfl
theorem c52 (w : World) : Abs.memOk (Abs.Env.of Tryz.prog w) F51 1000 m52 = true := by kernel_rfl
theorem c53 (w : World) : Abs.memOk (Abs.Env.of Tryz.prog w) F52 1000 m53 = true := by kernel_rfl
theorem c54 (w : World) : Abs.memOk (Abs.Env.of Tryz.prog w) F53 1000 m54 = true := by kernel_rfl
theorem c55 (w : World) : Abs.memOk (Abs.Env.of Tryz.prog w) F54 1000 m55 = true := by kernel_rfl
theorem c56 (w : World) : Abs.memOk (Abs.Env.of Tryz.prog w) F55 1000 m56 = true := by kernel_rfl
theorem c57 (w : World) : Abs.memOkT (Abs.Env.of Tryz.prog w) F56 1000 m57 = true := by kernel_rfl
theorem c58 (w : World) : Abs.memOk (Abs.Env.of Tryz.prog w) F57 1000 m58 = true := by kernel_rfl
theorem c59 (w : World) : Abs.memOk (Abs.Env.of Tryz.prog w) F58 1000 m59 = true := by kernel_rfl
theorem c60 (w : World) : Abs.memOk (Abs.Env.of Tryz.prog w) F59 1000 m60 = true := by kernel_rfl
theorem c61 (w : World) : Abs.memOk (Abs.Env.of Tryz.prog w) F60 1000 m61 = true := by kernel_rfl
theorem c62 (w : World) : Abs.memOk (Abs.Env.of Tryz.prog w) F61 1000 m62 = true := by kernel_rfl
theorem c63 (w : World) : Abs.memOk (Abs.Env.of Tryz.prog w) F62 1000 m63 = true := by kernel_rfl
theorem c64 (w : World) : Abs.memOk (Abs.Env.of Tryz.prog w) F63 1000 m64 = true := by kernel_rfl
theorem c65 (w : World) : Abs.memOk (Abs.Env.of Tryz.prog w) F64 1000 m65 = true := by kernel_rfl
end Go.Proofs.YthgnjkimfaodkacGreat.verdictKnown
