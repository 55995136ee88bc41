/-
  Single calls that the law RegionPoints makes, computed by the executor of the abstract layer (part 3).
-/
import Derived.Test.YtdmelhjbbaaphaaGreatDoorRegionPointsD1
namespace Go.Proofs.YtdmelhjbbaaphaaGreatDoor.regionPoints
open Go
theorem c20 (w : World) : Abs.memOkT (Abs.Env.of Tryz.prog w) F19 1000 m20 = true := by kernel_rfl
theorem c21 (w : World) : Abs.memOk (Abs.Env.of Tryz.prog w) F20 1000 m21 = true := by kernel_rfl
end Go.Proofs.YtdmelhjbbaaphaaGreatDoor.regionPoints
