/-
  Single calls that the law SymmetryKnown makes, computed by the executor of the abstract layer (part 6).
-/
import Derived.Test.YtcilgbobjhdmeaaGreatDoorSymmetryKnownD1
namespace Go.Proofs.YtcilgbobjhdmeaaGreatDoor.symmetryKnown
open Go
theorem c181 (w : World) : Abs.memOkT (Abs.Env.ofG Tryz.prog G w) (F180.gate F0 gm) 1000 m181 = true := by kernel_rfl
end Go.Proofs.YtcilgbobjhdmeaaGreatDoor.symmetryKnown
