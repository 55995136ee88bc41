/-
  Single calls that the law SymmetryKnown makes, computed by the executor of the abstract layer (part 3).
-/
import Derived.Test.YtcilgbobjhdmeaaGreatDoorSymmetryKnownD1
namespace Go.Proofs.YtcilgbobjhdmeaaGreatDoor.symmetryKnown
open Go
theorem c112 (w : World) : Abs.memOkT (Abs.Env.ofG Tryz.prog G w) (F111.gate F0 gm) 1000 m112 = true := by kernel_rfl
theorem c113 (w : World) : Abs.memOk (Abs.Env.ofG Tryz.prog G w) (F112.gate F0 gm) 1000 m113 = true := by kernel_rfl
theorem c114 (w : World) : Abs.memOk (Abs.Env.ofG Tryz.prog G w) (F113.gate F0 gm) 1000 m114 = true := by kernel_rfl
theorem c115 (w : World) : Abs.memOk (Abs.Env.ofG Tryz.prog G w) (F114.gate F0 gm) 1000 m115 = true := by kernel_rfl
theorem c116 (w : World) : Abs.memOk (Abs.Env.ofG Tryz.prog G w) (F115.gate F0 gm) 1000 m116 = true := by kernel_rfl
theorem c117 (w : World) : Abs.memOk (Abs.Env.ofG Tryz.prog G w) (F116.gate F0 gm) 1000 m117 = true := by kernel_rfl
theorem c118 (w : World) : Abs.memOk (Abs.Env.ofG Tryz.prog G w) (F117.gate F0 gm) 1000 m118 = true := by kernel_rfl
theorem c119 (w : World) : Abs.memOk (Abs.Env.ofG Tryz.prog G w) (F118.gate F0 gm) 1000 m119 = true := by kernel_rfl
theorem c120 (w : World) : Abs.memOk (Abs.Env.ofG Tryz.prog G w) (F119.gate F0 gm) 1000 m120 = true := by kernel_rfl
theorem c121 (w : World) : Abs.memOk (Abs.Env.ofG Tryz.prog G w) (F120.gate F0 gm) 1000 m121 = true := by kernel_rfl
theorem c122 (w : World) : Abs.memOk (Abs.Env.ofG Tryz.prog G w) (F121.gate F0 gm) 1000 m122 = true := by kernel_rfl
theorem c123 (w : World) : Abs.memOk (Abs.Env.ofG Tryz.prog G w) (F122.gate F0 gm) 1000 m123 = true := by kernel_rfl
theorem c124 (w : World) : Abs.memOk (Abs.Env.ofG Tryz.prog G w) (F123.gate F0 gm) 1000 m124 = true := by kernel_rfl
theorem c125 (w : World) : Abs.memOk (Abs.Env.ofG Tryz.prog G w) (F124.gate F0 gm) 1000 m125 = true := by kernel_rfl
theorem c126 (w : World) : Abs.memOk (Abs.Env.ofG Tryz.prog G w) (F125.gate F0 gm) 1000 m126 = true := by kernel_rfl
theorem c127 (w : World) : Abs.memOk (Abs.Env.ofG Tryz.prog G w) (F126.gate F0 gm) 1000 m127 = true := by kernel_rfl
theorem c128 (w : World) : Abs.memOk (Abs.Env.ofG Tryz.prog G w) (F127.gate F0 gm) 1000 m128 = true := by kernel_rfl
theorem c129 (w : World) : Abs.memOkT (Abs.Env.ofG Tryz.prog G w) (F128.gate F0 gm) 1000 m129 = true := by kernel_rfl
theorem c130 (w : World) : Abs.memOk (Abs.Env.ofG Tryz.prog G w) (F129.gate F0 gm) 1000 m130 = true := by kernel_rfl
theorem c131 (w : World) : Abs.memOk (Abs.Env.ofG Tryz.prog G w) (F130.gate F0 gm) 1000 m131 = true := by kernel_rfl
theorem c132 (w : World) : Abs.memOk (Abs.Env.ofG Tryz.prog G w) (F131.gate F0 gm) 1000 m132 = true := by kernel_rfl
theorem c133 (w : World) : Abs.memOk (Abs.Env.ofG Tryz.prog G w) (F132.gate F0 gm) 1000 m133 = true := by kernel_rfl
theorem c134 (w : World) : Abs.memOk (Abs.Env.ofG Tryz.prog G w) (F133.gate F0 gm) 1000 m134 = true := by kernel_rfl
theorem c135 (w : World) : Abs.memOk (Abs.Env.ofG Tryz.prog G w) (F134.gate F0 gm) 1000 m135 = true := by kernel_rfl
theorem c136 (w : World) : Abs.memOk (Abs.Env.ofG Tryz.prog G w) (F135.gate F0 gm) 1000 m136 = true := by kernel_rfl
theorem c137 (w : World) : Abs.memOk (Abs.Env.ofG Tryz.prog G w) (F136.gate F0 gm) 1000 m137 = true := by kernel_rfl
theorem c138 (w : World) : Abs.memOk (Abs.Env.ofG Tryz.prog G w) (F137.gate F0 gm) 1000 m138 = true := by kernel_rfl
theorem c139 (w : World) : Abs.memOk (Abs.Env.ofG Tryz.prog G w) (F138.gate F0 gm) 1000 m139 = true := by kernel_rfl
theorem c140 (w : World) : Abs.memOk (Abs.Env.ofG Tryz.prog G w) (F139.gate F0 gm) 1000 m140 = true := by kernel_rfl
theorem c141 (w : World) : Abs.memOk (Abs.Env.ofG Tryz.prog G w) (F140.gate F0 gm) 1000 m141 = true := by kernel_rfl
theorem c142 (w : World) : Abs.memOk (Abs.Env.ofG Tryz.prog G w) (F141.gate F0 gm) 1000 m142 = true := by kernel_rfl
theorem c143 (w : World) : Abs.memOk (Abs.Env.ofG Tryz.prog G w) (F142.gate F0 gm) 1000 m143 = true := by kernel_rfl
theorem c144 (w : World) : Abs.memOk (Abs.Env.ofG Tryz.prog G w) (F143.gate F0 gm) 1000 m144 = true := by kernel_rfl
theorem c145 (w : World) : Abs.memOkT (Abs.Env.ofG Tryz.prog G w) (F144.gate F0 gm) 1000 m145 = true := by kernel_rfl
theorem c146 (w : World) : Abs.memOk (Abs.Env.ofG Tryz.prog G w) (F145.gate F0 gm) 1000 m146 = true := by kernel_rfl
end Go.Proofs.YtcilgbobjhdmeaaGreatDoor.symmetryKnown
