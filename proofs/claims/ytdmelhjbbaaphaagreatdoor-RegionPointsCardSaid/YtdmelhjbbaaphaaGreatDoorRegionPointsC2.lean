/-
  Single calls that the law RegionPoints makes, computed by the executor of the abstract layer (part 2).
-/
import Derived.Test.YtdmelhjbbaaphaaGreatDoorRegionPointsD1
namespace Go.Proofs.YtdmelhjbbaaphaaGreatDoor.regionPoints
open Go
theorem c18 (w : World) : Abs.memOk (Abs.Env.of Tryz.prog w) F17 1000 m18 = true := by kernel_rfl
theorem c19 (w : World) : Abs.memOk (Abs.Env.of Tryz.prog w) F18 1000 m19 = true := by kernel_rfl
end Go.Proofs.YtdmelhjbbaaphaaGreatDoor.regionPoints
