/-
  Single calls that the law SymmetryKnown makes, computed by the executor of the abstract layer (part 7).
-/
import Derived.Test.YtcilgbobjhdmeaaGreatDoorSymmetryKnownD1
namespace Go.Proofs.YtcilgbobjhdmeaaGreatDoor.symmetryKnown
open Go
theorem c182 (w : World) : Abs.memOk (Abs.Env.ofG Tryz.prog G w) (F181.gate F0 gm) 1000 m182 = true := by kernel_rfl
theorem c183 (w : World) : Abs.memOk (Abs.Env.ofG Tryz.prog G w) (F182.gate F0 gm) 1000 m183 = true := by kernel_rfl
theorem c184 (w : World) : Abs.memOk (Abs.Env.ofG Tryz.prog G w) (F183.gate F0 gm) 1000 m184 = true := by kernel_rfl
theorem c185 (w : World) : Abs.memOk (Abs.Env.ofG Tryz.prog G w) (F184.gate F0 gm) 1000 m185 = true := by kernel_rfl
theorem c186 (w : World) : Abs.memOk (Abs.Env.ofG Tryz.prog G w) (F185.gate F0 gm) 1000 m186 = true := by kernel_rfl
theorem c187 (w : World) : Abs.memOk (Abs.Env.ofG Tryz.prog G w) (F186.gate F0 gm) 1000 m187 = true := by kernel_rfl
theorem c188 (w : World) : Abs.memOkT (Abs.Env.ofG Tryz.prog G w) (F187.gate F0 gm) 1000 m188 = true := by kernel_rfl
theorem c189 (w : World) : Abs.memOk (Abs.Env.ofG Tryz.prog G w) (F188.gate F0 gm) 1000 m189 = true := by kernel_rfl
theorem c190 (w : World) : Abs.memOk (Abs.Env.ofG Tryz.prog G w) (F189.gate F0 gm) 1000 m190 = true := by kernel_rfl
theorem c191 (w : World) : Abs.memOk (Abs.Env.ofG Tryz.prog G w) (F190.gate F0 gm) 1000 m191 = true := by kernel_rfl
theorem c192 (w : World) : Abs.memOk (Abs.Env.ofG Tryz.prog G w) (F191.gate F0 gm) 1000 m192 = true := by kernel_rfl
theorem c193 (w : World) : Abs.memOk (Abs.Env.ofG Tryz.prog G w) (F192.gate F0 gm) 1000 m193 = true := by kernel_rfl
theorem c194 (w : World) : Abs.memOkT (Abs.Env.ofG Tryz.prog G w) (F193.gate F0 gm) 1000 m194 = true := by kernel_rfl
theorem c195 (w : World) : Abs.memOk (Abs.Env.ofG Tryz.prog G w) (F194.gate F0 gm) 1000 m195 = true := by kernel_rfl
theorem c196 (w : World) : Abs.memOkT (Abs.Env.ofG Tryz.prog G w) (F195.gate F0 gm) 1000 m196 = true := by kernel_rfl
end Go.Proofs.YtcilgbobjhdmeaaGreatDoor.symmetryKnown
