/-
  Single calls that the law RegionPoints makes, computed by the executor of the abstract layer (part 4).
-/
import Derived.Test.YtdmelhjbbaaphaaGreatDoorRegionPointsD1
namespace Go.Proofs.YtdmelhjbbaaphaaGreatDoor.regionPoints
open Go
theorem c22 (w : World) : Abs.memOk (Abs.Env.of Tryz.prog w) F21 1000 m22 = true := by kernel_rfl
theorem c23 (w : World) : Abs.memOk (Abs.Env.of Tryz.prog w) F22 1000 m23 = true := by kernel_rfl
end Go.Proofs.YtdmelhjbbaaphaaGreatDoor.regionPoints
