/-
  Single calls that the law VerdictKnown makes, computed by the executor of the abstract layer (part 6).
-/
import Derived.Test.YthgnjkimfaodkacGreatVerdictKnownD1
namespace Go.Proofs.YthgnjkimfaodkacGreat.verdictKnown
open Go
theorem c96 (w : World) : Abs.memOk (Abs.Env.of Tryz.prog w) F95 1000 m96 = true := by kernel_rfl
theorem c97 (w : World) : Abs.memOk (Abs.Env.of Tryz.prog w) F96 1000 m97 = true := by kernel_rfl
theorem c98 (w : World) : Abs.memOk (Abs.Env.of Tryz.prog w) F97 1000 m98 = true := by kernel_rfl
theorem c99 (w : World) : Abs.memOk (Abs.Env.of Tryz.prog w) F98 1000 m99 = true := by kernel_rfl
theorem c100 (w : World) : Abs.memOk (Abs.Env.of Tryz.prog w) F99 1000 m100 = true := by kernel_rfl
theorem c101 (w : World) : Abs.memOk (Abs.Env.of Tryz.prog w) F100 1000 m101 = true := by kernel_rfl
theorem c102 (w : World) : Abs.memOk (Abs.Env.of Tryz.prog w) F101 1000 m102 = true := by kernel_rfl
theorem c103 (w : World) : Abs.memOk (Abs.Env.of Tryz.prog w) F102 1000 m103 = true := by kernel_rfl
theorem c104 (w : World) : Abs.memOk (Abs.Env.of Tryz.prog w) F103 1000 m104 = true := by kernel_rfl
theorem c105 (w : World) : Abs.memOk (Abs.Env.of Tryz.prog w) F104 1000 m105 = true := by kernel_rfl
theorem c106 (w : World) : Abs.memOk (Abs.Env.of Tryz.prog w) F105 1000 m106 = true := by kernel_rfl
theorem c107 (w : World) : Abs.memOk (Abs.Env.of Tryz.prog w) F106 1000 m107 = true := by kernel_rfl
theorem c108 (w : World) : Abs.memOk (Abs.Env.of Tryz.prog w) F107 1000 m108 = true := by kernel_rfl
theorem c109 (w : World) : Abs.memOk (Abs.Env.of Tryz.prog w) F108 1000 m109 = true := by kernel_rfl
end Go.Proofs.YthgnjkimfaodkacGreat.verdictKnown
