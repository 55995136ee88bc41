/-
  Single calls that the law RegionPoints makes, computed by the executor of the abstract layer (part 1).
-/
import Derived.Test.YtdmelhjbbaaphaaGreatDoorRegionPointsD1
namespace Go.Proofs.YtdmelhjbbaaphaaGreatDoor.regionPoints
open Go
theorem c1 (w : World) : Abs.memOk (Abs.Env.of Tryz.prog w) F0 1000 m1 = true := by kernel_rfl
theorem c2 (w : World) : Abs.memOk (Abs.Env.of Tryz.prog w) F1 1000 m2 = true := by kernel_rfl
theorem c3 (w : World) : Abs.memOkT (Abs.Env.of Tryz.prog w) F2 1000 m3 = true := by kernel_rfl
theorem c4 (w : World) : Abs.memOk (Abs.Env.of Tryz.prog w) F3 1000 m4 = true := by kernel_rfl
theorem c5 (w : World) : Abs.memOkT (Abs.Env.of Tryz.prog w) F4 1000 m5 = true := by kernel_rfl
theorem c6 (w : World) : Abs.memOkT (Abs.Env.of Tryz.prog w) F5 1000 m6 = true := by kernel_rfl
theorem c7 (w : World) : Abs.memOkT (Abs.Env.of Tryz.prog w) F6 1000 m7 = true := by kernel_rfl
theorem c8 (w : World) : Abs.memOkT (Abs.Env.of Tryz.prog w) F7 1000 m8 = true := by kernel_rfl
theorem c9 (w : World) : Abs.memOkT (Abs.Env.of Tryz.prog w) F8 1000 m9 = true := by kernel_rfl
theorem c10 (w : World) : Abs.memOk (Abs.Env.of Tryz.prog w) F9 1000 m10 = true := by kernel_rfl
theorem c11 (w : World) : Abs.memOkT (Abs.Env.of Tryz.prog w) F10 1000 m11 = true := by kernel_rfl
theorem c12 (w : World) : Abs.memOkT (Abs.Env.of Tryz.prog w) F11 1000 m12 = true := by kernel_rfl
theorem c13 (w : World) : Abs.memOkT (Abs.Env.of Tryz.prog w) F12 1000 m13 = true := by kernel_rfl
theorem c14 (w : World) : Abs.memOkT (Abs.Env.of Tryz.prog w) F13 1000 m14 = true := by kernel_rfl
theorem c15 (w : World) : Abs.memOkT (Abs.Env.of Tryz.prog w) F14 1000 m15 = true := by kernel_rfl
theorem c16 (w : World) : Abs.memOkT (Abs.Env.of Tryz.prog w) F15 1000 m16 = true := by kernel_rfl
theorem c17 (w : World) : Abs.memOkT (Abs.Env.of Tryz.prog w) F16 1000 m17 = true := by kernel_rfl
end Go.Proofs.YtdmelhjbbaaphaaGreatDoor.regionPoints
