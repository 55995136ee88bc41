/-
  Single calls that the law VerdictKnown makes, computed by the executor of the abstract layer (part 1).
-/
import Derived.Test.YthgnjkimfaodkacGreatVerdictKnownD1
namespace Go.Proofs.YthgnjkimfaodkacGreat.verdictKnown
open Go
theorem c1 (w : World) : Abs.memOk (Abs.Env.of Tryz.prog w) F0 1000 m1 = true := by kernel_rfl
theorem c2 (w : World) : Abs.memOk (Abs.Env.of Tryz.prog w) F1 1000 m2 = true := by kernel_rfl
theorem c3 (w : World) : Abs.memOk (Abs.Env.of Tryz.prog w) F2 1000 m3 = true := by kernel_rfl
theorem c4 (w : World) : Abs.memOk (Abs.Env.of Tryz.prog w) F3 1000 m4 = true := by kernel_rfl
theorem c5 (w : World) : Abs.memOk (Abs.Env.of Tryz.prog w) F4 1000 m5 = true := by kernel_rfl
theorem c6 (w : World) : Abs.memOk (Abs.Env.of Tryz.prog w) F5 1000 m6 = true := by kernel_rfl
theorem c7 (w : World) : Abs.memOk (Abs.Env.of Tryz.prog w) F6 1000 m7 = true := by kernel_rfl
theorem c8 (w : World) : Abs.memOk (Abs.Env.of Tryz.prog w) F7 1000 m8 = true := by kernel_rfl
theorem c9 (w : World) : Abs.memOk (Abs.Env.of Tryz.prog w) F8 1000 m9 = true := by kernel_rfl
theorem c10 (w : World) : Abs.memOk (Abs.Env.of Tryz.prog w) F9 1000 m10 = true := by kernel_rfl
theorem c11 (w : World) : Abs.memOk (Abs.Env.of Tryz.prog w) F10 1000 m11 = true := by kernel_rfl
theorem c12 (w : World) : Abs.memOk (Abs.Env.of Tryz.prog w) F11 1000 m12 = true := by kernel_rfl
theorem c13 (w : World) : Abs.memOk (Abs.Env.of Tryz.prog w) F12 1000 m13 = true := by kernel_rfl
theorem c14 (w : World) : Abs.memOk (Abs.Env.of Tryz.prog w) F13 1000 m14 = true := by kernel_rfl
theorem c15 (w : World) : Abs.memOk (Abs.Env.of Tryz.prog w) F14 1000 m15 = true := by kernel_rfl
theorem c16 (w : World) : Abs.memOk (Abs.Env.of Tryz.prog w) F15 1000 m16 = true := by kernel_rfl
theorem c17 (w : World) : Abs.memOk (Abs.Env.of Tryz.prog w) F16 1000 m17 = true := by kernel_rfl
theorem c18 (w : World) : Abs.memOk (Abs.Env.of Tryz.prog w) F17 1000 m18 = true := by kernel_rfl
theorem c19 (w : World) : Abs.memOk (Abs.Env.of Tryz.prog w) F18 1000 m19 = true := by kernel_rfl
theorem c20 (w : World) : Abs.memOk (Abs.Env.of Tryz.prog w) F19 1000 m20 = true := by kernel_rfl
theorem c21 (w : World) : Abs.memOk (Abs.Env.of Tryz.prog w) F20 1000 m21 = true := by kernel_rfl
theorem c22 (w : World) : Abs.memOk (Abs.Env.of Tryz.prog w) F21 1000 m22 = true := by kernel_rfl
theorem c23 (w : World) : Abs.memOk (Abs.Env.of Tryz.prog w) F22 1000 m23 = true := by kernel_rfl
theorem c24 (w : World) : Abs.memOk (Abs.Env.of Tryz.prog w) F23 1000 m24 = true := by kernel_rfl
theorem c25 (w : World) : Abs.memOk (Abs.Env.of Tryz.prog w) F24 1000 m25 = true := by kernel_rfl
theorem c26 (w : World) : Abs.memOk (Abs.Env.of Tryz.prog w) F25 1000 m26 = true := by kernel_rfl
theorem c27 (w : World) : Abs.memOk (Abs.Env.of Tryz.prog w) F26 1000 m27 = true := by kernel_rfl
theorem c28 (w : World) : Abs.memOk (Abs.Env.of Tryz.prog w) F27 1000 m28 = true := by kernel_rfl
theorem c29 (w : World) : Abs.memOk (Abs.Env.of Tryz.prog w) F28 1000 m29 = true := by kernel_rfl
theorem c30 (w : World) : Abs.memOk (Abs.Env.of Tryz.prog w) F29 1000 m30 = true := by kernel_rfl
end Go.Proofs.YthgnjkimfaodkacGreat.verdictKnown
