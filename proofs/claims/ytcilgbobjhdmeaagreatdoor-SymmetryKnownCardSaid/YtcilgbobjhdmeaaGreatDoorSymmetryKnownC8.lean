/-
  Single calls that the law SymmetryKnown makes, computed by the executor of the abstract layer (part 8).
-/
import Derived.Test.YtcilgbobjhdmeaaGreatDoorSymmetryKnownD1
namespace Go.Proofs.YtcilgbobjhdmeaaGreatDoor.symmetryKnown
open Go
theorem c197 (w : World) : Abs.memOk (Abs.Env.ofG Tryz.prog G w) (F196.gate F0 gm) 1000 m197 = true := by kernel_rfl
theorem c198 (w : World) : Abs.memOk (Abs.Env.ofG Tryz.prog G w) (F197.gate F0 gm) 1000 m198 = true := by kernel_rfl
theorem c199 (w : World) : Abs.memOk (Abs.Env.ofG Tryz.prog G w) (F198.gate F0 gm) 1000 m199 = true := by kernel_rfl
theorem c200 (w : World) : Abs.memOk (Abs.Env.ofG Tryz.prog G w) (F199.gate F0 gm) 1000 m200 = true := by kernel_rfl
theorem c201 (w : World) : Abs.memOk (Abs.Env.ofG Tryz.prog G w) (F200.gate F0 gm) 1000 m201 = true := by kernel_rfl
theorem c202 (w : World) : Abs.memOk (Abs.Env.ofG Tryz.prog G w) (F201.gate F0 gm) 1000 m202 = true := by kernel_rfl
theorem c203 (w : World) : Abs.memOk (Abs.Env.ofG Tryz.prog G w) (F202.gate F0 gm) 1000 m203 = true := by kernel_rfl
theorem c204 (w : World) : Abs.memOk (Abs.Env.ofG Tryz.prog G w) (F203.gate F0 gm) 1000 m204 = true := by kernel_rfl
theorem c205 (w : World) : Abs.memOk (Abs.Env.ofG Tryz.prog G w) (F204.gate F0 gm) 1000 m205 = true := by kernel_rfl
theorem c206 (w : World) : Abs.memOk (Abs.Env.ofG Tryz.prog G w) (F205.gate F0 gm) 1000 m206 = true := by kernel_rfl
theorem c207 (w : World) : Abs.memOk (Abs.Env.ofG Tryz.prog G w) (F206.gate F0 gm) 1000 m207 = true := by kernel_rfl
end Go.Proofs.YtcilgbobjhdmeaaGreatDoor.symmetryKnown
