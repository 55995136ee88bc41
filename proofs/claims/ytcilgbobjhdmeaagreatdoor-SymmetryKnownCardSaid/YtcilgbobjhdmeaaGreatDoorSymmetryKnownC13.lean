/-
  Single calls that the law SymmetryKnown makes, computed by the executor of the abstract layer (part 13).
-/
import Derived.Test.YtcilgbobjhdmeaaGreatDoorSymmetryKnownD1
namespace Go.Proofs.YtcilgbobjhdmeaaGreatDoor.symmetryKnown
open Go
theorem c247 (w : World) : Abs.memOk (Abs.Env.ofG Tryz.prog G w) (F246.gate F0 gm) 1000 m247 = true := by kernel_rfl
theorem c248 (w : World) : Abs.memOkT (Abs.Env.ofG Tryz.prog G w) (F247.gate F0 gm) 1000 m248 = true := by kernel_rfl
theorem c249 (w : World) : Abs.memOk (Abs.Env.ofG Tryz.prog G w) (F248.gate F0 gm) 1000 m249 = true := by kernel_rfl
theorem c250 (w : World) : Abs.memOk (Abs.Env.ofG Tryz.prog G w) (F249.gate F0 gm) 1000 m250 = true := by kernel_rfl
theorem c251 (w : World) : Abs.memOk (Abs.Env.ofG Tryz.prog G w) (F250.gate F0 gm) 1000 m251 = true := by kernel_rfl
theorem c252 (w : World) : Abs.memOk (Abs.Env.ofG Tryz.prog G w) (F251.gate F0 gm) 1000 m252 = true := by kernel_rfl
theorem c253 (w : World) : Abs.memOkT (Abs.Env.ofG Tryz.prog G w) (F252.gate F0 gm) 1000 m253 = true := by kernel_rfl
theorem c254 (w : World) : Abs.memOk (Abs.Env.ofG Tryz.prog G w) (F253.gate F0 gm) 1000 m254 = true := by kernel_rfl
theorem c255 (w : World) : Abs.memOkT (Abs.Env.ofG Tryz.prog G w) (F254.gate F0 gm) 1000 m255 = true := by kernel_rfl
theorem c256 (w : World) : Abs.memOk (Abs.Env.ofG Tryz.prog G w) (F255.gate F0 gm) 1000 m256 = true := by kernel_rfl
theorem c257 (w : World) : Abs.memOkT (Abs.Env.ofG Tryz.prog G w) (F256.gate F0 gm) 1000 m257 = true := by kernel_rfl
theorem c258 (w : World) : Abs.memOk (Abs.Env.ofG Tryz.prog G w) (F257.gate F0 gm) 1000 m258 = true := by kernel_rfl
theorem c259 (w : World) : Abs.memOkT (Abs.Env.ofG Tryz.prog G w) (F258.gate F0 gm) 1000 m259 = true := by kernel_rfl
theorem c260 (w : World) : Abs.memOk (Abs.Env.ofG Tryz.prog G w) (F259.gate F0 gm) 1000 m260 = true := by kernel_rfl
theorem c261 (w : World) : Abs.memOk (Abs.Env.ofG Tryz.prog G w) (F260.gate F0 gm) 1000 m261 = true := by kernel_rfl
end Go.Proofs.YtcilgbobjhdmeaaGreatDoor.symmetryKnown
