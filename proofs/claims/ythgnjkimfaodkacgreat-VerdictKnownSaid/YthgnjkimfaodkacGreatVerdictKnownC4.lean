/-
  Single calls that the law VerdictKnown makes, computed by the executor of the abstract layer (part 4).
-/
import Derived.Test.YthgnjkimfaodkacGreatVerdictKnownD1
namespace Go.Proofs.YthgnjkimfaodkacGreat.verdictKnown
open Go
theorem c66 (w : World) : Abs.memOk (Abs.Env.of Tryz.prog w) F65 1000 m66 = true := by kernel_rfl
theorem c67 (w : World) : Abs.memOk (Abs.Env.of Tryz.prog w) F66 1000 m67 = true := by kernel_rfl
theorem c68 (w : World) : Abs.memOk (Abs.Env.of Tryz.prog w) F67 1000 m68 = true := by kernel_rfl
theorem c69 (w : World) : Abs.memOk (Abs.Env.of Tryz.prog w) F68 1000 m69 = true := by kernel_rfl
theorem c70 (w : World) : Abs.memOk (Abs.Env.of Tryz.prog w) F69 1000 m70 = true := by kernel_rfl
theorem c71 (w : World) : Abs.memOk (Abs.Env.of Tryz.prog w) F70 1000 m71 = true := by kernel_rfl
theorem c72 (w : World) : Abs.memOk (Abs.Env.of Tryz.prog w) F71 1000 m72 = true := by kernel_rfl
theorem c73 (w : World) : Abs.memOk (Abs.Env.of Tryz.prog w) F72 1000 m73 = true := by kernel_rfl
theorem c74 (w : World) : Abs.memOk (Abs.Env.of Tryz.prog w) F73 1000 m74 = true := by kernel_rfl
theorem c75 (w : World) : Abs.memOk (Abs.Env.of Tryz.prog w) F74 1000 m75 = true := by kernel_rfl
theorem c76 (w : World) : Abs.memOk (Abs.Env.of Tryz.prog w) F75 1000 m76 = true := by kernel_rfl
theorem c77 (w : World) : Abs.memOk (Abs.Env.of Tryz.prog w) F76 1000 m77 = true := by kernel_rfl
theorem c78 (w : World) : Abs.memOk (Abs.Env.of Tryz.prog w) F77 1000 m78 = true := by kernel_rfl
theorem c79 (w : World) : Abs.memOk (Abs.Env.of Tryz.prog w) F78 1000 m79 = true := by kernel_rfl
theorem c80 (w : World) : Abs.memOk (Abs.Env.of Tryz.prog w) F79 1000 m80 = true := by kernel_rfl
end Go.Proofs.YthgnjkimfaodkacGreat.verdictKnown
