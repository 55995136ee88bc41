/-
  Single calls that the law SymmetryKnown makes, computed by the executor of the abstract layer (part 14).
-/
import Derived.Test.YtcilgbobjhdmeaaGreatDoorSymmetryKnownD1
namespace Go.Proofs.YtcilgbobjhdmeaaGreatDoor.symmetryKnown
open Go
theorem c262 (w : World) : Abs.memOk (Abs.Env.ofG Tryz.prog G w) (F261.gate F0 gm) 1000 m262 = true := by kernel_rfl
theorem c263 (w : World) : Abs.memOkT (Abs.Env.ofG Tryz.prog G w) (F262.gate F0 gm) 1000 m263 = true := by kernel_rfl
theorem c264 (w : World) : Abs.memOk (Abs.Env.ofG Tryz.prog G w) (F263.gate F0 gm) 1000 m264 = true := by kernel_rfl
theorem c265 (w : World) : Abs.memOk (Abs.Env.ofG Tryz.prog G w) (F264.gate F0 gm) 1000 m265 = true := by kernel_rfl
theorem c266 (w : World) : Abs.memOk (Abs.Env.ofG Tryz.prog G w) (F265.gate F0 gm) 1000 m266 = true := by kernel_rfl
theorem c267 (w : World) : Abs.memOk (Abs.Env.ofG Tryz.prog G w) (F266.gate F0 gm) 1000 m267 = true := by kernel_rfl
theorem c268 (w : World) : Abs.memOkT (Abs.Env.ofG Tryz.prog G w) (F267.gate F0 gm) 1000 m268 = true := by kernel_rfl
theorem c269 (w : World) : Abs.memOkT (Abs.Env.ofG Tryz.prog G w) (F268.gate F0 gm) 1000 m269 = true := by kernel_rfl
end Go.Proofs.YtcilgbobjhdmeaaGreatDoor.symmetryKnown
