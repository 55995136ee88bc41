/-
  Single calls that the law SymmetryKnown makes, computed by the executor of the abstract layer (part 5).
-/
import Derived.Test.YtcilgbobjhdmeaaGreatDoorSymmetryKnownD1
namespace Go.Proofs.YtcilgbobjhdmeaaGreatDoor.symmetryKnown
open Go
theorem c173 (w : World) : Abs.memOk (Abs.Env.ofG Tryz.prog G w) (F172.gate F0 gm) 1000 m173 = true := by kernel_rfl
theorem c174 (w : World) : Abs.memOk (Abs.Env.ofG Tryz.prog G w) (F173.gate F0 gm) 1000 m174 = true := by kernel_rfl
theorem c175 (w : World) : Abs.memOk (Abs.Env.ofG Tryz.prog G w) (F174.gate F0 gm) 1000 m175 = true := by kernel_rfl
theorem c176 (w : World) : Abs.memOk (Abs.Env.ofG Tryz.prog G w) (F175.gate F0 gm) 1000 m176 = true := by kernel_rfl
theorem c177 (w : World) : Abs.memOk (Abs.Env.ofG Tryz.prog G w) (F176.gate F0 gm) 1000 m177 = true := by kernel_rfl
theorem c178 (w : World) : Abs.memOk (Abs.Env.ofG Tryz.prog G w) (F177.gate F0 gm) 1000 m178 = true := by kernel_rfl
theorem c179 (w : World) : Abs.memOk (Abs.Env.ofG Tryz.prog G w) (F178.gate F0 gm) 1000 m179 = true := by kernel_rfl
theorem c180 (w : World) : Abs.memOkT (Abs.Env.ofG Tryz.prog G w) (F179.gate F0 gm) 1000 m180 = true := by kernel_rfl
end Go.Proofs.YtcilgbobjhdmeaaGreatDoor.symmetryKnown
