/-
  Single calls that the law SymmetryKnown makes, computed by the executor of the abstract layer (part 9).
-/
import Derived.Test.YtcilgbobjhdmeaaGreatDoorSymmetryKnownD1
namespace Go.Proofs.YtcilgbobjhdmeaaGreatDoor.symmetryKnown
open Go
theorem c208 (w : World) : Abs.memOkT (Abs.Env.ofG Tryz.prog G w) (F207.gate F0 gm) 1000 m208 = true := by kernel_rfl
end Go.Proofs.YtcilgbobjhdmeaaGreatDoor.symmetryKnown
