/-
  Single calls that the law SymmetryKnown makes, computed by the executor of the abstract layer (part 17).
-/
import Derived.Test.YtcilgbobjhdmeaaGreatDoorSymmetryKnownD1
import Derived.Test.YtcilgbobjhdmeaaGreatDoorSymmetryKnownC16
namespace Go.Proofs.YtcilgbobjhdmeaaGreatDoor.symmetryKnown
open Go
theorem c271 (w : World) : Abs.memOk (Abs.Env.ofG Tryz.prog G w) ((F270).gate F0 gm) 1000 m271 = true := by kernel_rfl
theorem c272 (w : World) : Abs.memOk (Abs.Env.ofG Tryz.prog G w) ((F271).gate F0 gm) 1000 m272 = true := by kernel_rfl
end Go.Proofs.YtcilgbobjhdmeaaGreatDoor.symmetryKnown
