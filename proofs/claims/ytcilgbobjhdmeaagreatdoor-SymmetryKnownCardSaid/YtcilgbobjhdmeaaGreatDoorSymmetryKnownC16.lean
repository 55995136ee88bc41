/-
  Single calls that the law SymmetryKnown makes, computed by the executor of the abstract layer (part 16).
-/
import Derived.Test.YtcilgbobjhdmeaaGreatDoorSymmetryKnownD1
import Derived.Test.YtcilgbobjhdmeaaGreatDoorSymmetryKnownC15
namespace Go.Proofs.YtcilgbobjhdmeaaGreatDoor.symmetryKnown
open Go
theorem c270b (w : World) : Abs.postOk (Abs.Env.ofG Tryz.prog G w) ((G83).gate F0 gm) 1000 4 m270 a270 s270 = true := by kernel_rfl
end Go.Proofs.YtcilgbobjhdmeaaGreatDoor.symmetryKnown
