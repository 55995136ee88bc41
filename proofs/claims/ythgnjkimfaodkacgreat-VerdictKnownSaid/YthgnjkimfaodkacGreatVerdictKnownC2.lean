/-
  Single calls that the law VerdictKnown makes, computed by the executor of the abstract layer (part 2).
-/
import Derived.Test.YthgnjkimfaodkacGreatVerdictKnownD1
namespace Go.Proofs.YthgnjkimfaodkacGreat.verdictKnown
open Go
theorem c31 (w : World) : Abs.memOk (Abs.Env.of Tryz.prog w) F30 1000 m31 = true := by kernel_rfl
theorem c32 (w : World) : Abs.memOk (Abs.Env.of Tryz.prog w) F31 1000 m32 = true := by kernel_rfl
theorem c33 (w : World) : Abs.memOk (Abs.Env.of Tryz.prog w) F32 1000 m33 = true := by kernel_rfl
theorem c34 (w : World) : Abs.memOk (Abs.Env.of Tryz.prog w) F33 1000 m34 = true := by kernel_rfl
theorem c35 (w : World) : Abs.memOk (Abs.Env.of Tryz.prog w) F34 1000 m35 = true := by kernel_rfl
theorem c36 (w : World) : Abs.memOkT (Abs.Env.of Tryz.prog w) F35 1000 m36 = true := by kernel_rfl
theorem c37 (w : World) : Abs.memOk (Abs.Env.of Tryz.prog w) F36 1000 m37 = true := by kernel_rfl
theorem c38 (w : World) : Abs.memOk (Abs.Env.of Tryz.prog w) F37 1000 m38 = true := by kernel_rfl
theorem c39 (w : World) : Abs.memOk (Abs.Env.of Tryz.prog w) F38 1000 m39 = true := by kernel_rfl
theorem c40 (w : World) : Abs.memOk (Abs.Env.of Tryz.prog w) F39 1000 m40 = true := by kernel_rfl
theorem c41 (w : World) : Abs.memOk (Abs.Env.of Tryz.prog w) F40 1000 m41 = true := by kernel_rfl
theorem c42 (w : World) : Abs.memOk (Abs.Env.of Tryz.prog w) F41 1000 m42 = true := by kernel_rfl
theorem c43 (w : World) : Abs.memOk (Abs.Env.of Tryz.prog w) F42 1000 m43 = true := by kernel_rfl
theorem c44 (w : World) : Abs.memOk (Abs.Env.of Tryz.prog w) F43 1000 m44 = true := by kernel_rfl
theorem c45 (w : World) : Abs.memOk (Abs.Env.of Tryz.prog w) F44 1000 m45 = true := by kernel_rfl
theorem c46 (w : World) : Abs.memOk (Abs.Env.of Tryz.prog w) F45 1000 m46 = true := by kernel_rfl
theorem c47 (w : World) : Abs.memOk (Abs.Env.of Tryz.prog w) F46 1000 m47 = true := by kernel_rfl
theorem c48 (w : World) : Abs.memOk (Abs.Env.of Tryz.prog w) F47 1000 m48 = true := by kernel_rfl
theorem c49 (w : World) : Abs.memOk (Abs.Env.of Tryz.prog w) F48 1000 m49 = true := by kernel_rfl
theorem c50 (w : World) : Abs.memOkT (Abs.Env.of Tryz.prog w) F49 1000 m50 = true := by kernel_rfl
end Go.Proofs.YthgnjkimfaodkacGreat.verdictKnown
