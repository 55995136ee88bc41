/-
  Single calls that the law SymmetryKnown makes, computed by the executor of the abstract layer (part 12).
-/
import Derived.Test.YtcilgbobjhdmeaaGreatDoorSymmetryKnownD1
namespace Go.Proofs.YtcilgbobjhdmeaaGreatDoor.symmetryKnown
open Go
theorem c242 (w : World) : Abs.memOkT (Abs.Env.ofG Tryz.prog G w) (F241.gate F0 gm) 1000 m242 = true := by kernel_rfl
theorem c243 (w : World) : Abs.memOk (Abs.Env.ofG Tryz.prog G w) (F242.gate F0 gm) 1000 m243 = true := by kernel_rfl
theorem c244 (w : World) : Abs.memOk (Abs.Env.ofG Tryz.prog G w) (F243.gate F0 gm) 1000 m244 = true := by kernel_rfl
theorem c245 (w : World) : Abs.memOk (Abs.Env.ofG Tryz.prog G w) (F244.gate F0 gm) 1000 m245 = true := by kernel_rfl
theorem c246 (w : World) : Abs.memOk (Abs.Env.ofG Tryz.prog G w) (F245.gate F0 gm) 1000 m246 = true := by kernel_rfl
end Go.Proofs.YtcilgbobjhdmeaaGreatDoor.symmetryKnown
