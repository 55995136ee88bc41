/-
  Single calls that the law SymmetryKnown makes, computed by the executor of the abstract layer (part 10).
-/
import Derived.Test.YtcilgbobjhdmeaaGreatDoorSymmetryKnownD1
namespace Go.Proofs.YtcilgbobjhdmeaaGreatDoor.symmetryKnown
open Go
theorem c209 (w : World) : Abs.memOk (Abs.Env.ofG Tryz.prog G w) (F208.gate F0 gm) 1000 m209 = true := by kernel_rfl
theorem c210 (w : World) : Abs.memOk (Abs.Env.ofG Tryz.prog G w) (F209.gate F0 gm) 1000 m210 = true := by kernel_rfl
theorem c211 (w : World) : Abs.memOk (Abs.Env.ofG Tryz.prog G w) (F210.gate F0 gm) 1000 m211 = true := by kernel_rfl
theorem c212 (w : World) : Abs.memOk (Abs.Env.ofG Tryz.prog G w) (F211.gate F0 gm) 1000 m212 = true := by kernel_rfl
theorem c213 (w : World) : Abs.memOkT (Abs.Env.ofG Tryz.prog G w) (F212.gate F0 gm) 1000 m213 = true := by kernel_rfl
theorem c214 (w : World) : Abs.memOk (Abs.Env.ofG Tryz.prog G w) (F213.gate F0 gm) 1000 m214 = true := by kernel_rfl
theorem c215 (w : World) : Abs.memOk (Abs.Env.ofG Tryz.prog G w) (F214.gate F0 gm) 1000 m215 = true := by kernel_rfl
theorem c216 (w : World) : Abs.memOk (Abs.Env.ofG Tryz.prog G w) (F215.gate F0 gm) 1000 m216 = true := by kernel_rfl
theorem c217 (w : World) : Abs.memOk (Abs.Env.ofG Tryz.prog G w) (F216.gate F0 gm) 1000 m217 = true := by kernel_rfl
theorem c218 (w : World) : Abs.memOk (Abs.Env.ofG Tryz.prog G w) (F217.gate F0 gm) 1000 m218 = true := by kernel_rfl
theorem c219 (w : World) : Abs.memOk (Abs.Env.ofG Tryz.prog G w) (F218.gate F0 gm) 1000 m219 = true := by kernel_rfl
theorem c220 (w : World) : Abs.memOkT (Abs.Env.ofG Tryz.prog G w) (F219.gate F0 gm) 1000 m220 = true := by kernel_rfl
theorem c221 (w : World) : Abs.memOk (Abs.Env.ofG Tryz.prog G w) (F220.gate F0 gm) 1000 m221 = true := by kernel_rfl
theorem c222 (w : World) : Abs.memOk (Abs.Env.ofG Tryz.prog G w) (F221.gate F0 gm) 1000 m222 = true := by kernel_rfl
theorem c223 (w : World) : Abs.memOk (Abs.Env.ofG Tryz.prog G w) (F222.gate F0 gm) 1000 m223 = true := by kernel_rfl
theorem c224 (w : World) : Abs.memOkT (Abs.Env.ofG Tryz.prog G w) (F223.gate F0 gm) 1000 m224 = true := by kernel_rfl
end Go.Proofs.YtcilgbobjhdmeaaGreatDoor.symmetryKnown
