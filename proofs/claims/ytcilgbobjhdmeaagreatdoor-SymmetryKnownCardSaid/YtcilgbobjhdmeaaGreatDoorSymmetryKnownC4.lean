/-
  Single calls that the law SymmetryKnown makes, computed by the executor of the abstract layer (part 4).
-/
import Derived.Test.YtcilgbobjhdmeaaGreatDoorSymmetryKnownD1
namespace Go.Proofs.YtcilgbobjhdmeaaGreatDoor.symmetryKnown
open Go
theorem c147 (w : World) : Abs.memOk (Abs.Env.ofG Tryz.prog G w) (F146.gate F0 gm) 1000 m147 = true := by kernel_rfl
theorem c148 (w : World) : Abs.memOk (Abs.Env.ofG Tryz.prog G w) (F147.gate F0 gm) 1000 m148 = true := by kernel_rfl
theorem c149 (w : World) : Abs.memOk (Abs.Env.ofG Tryz.prog G w) (F148.gate F0 gm) 1000 m149 = true := by kernel_rfl
theorem c150 (w : World) : Abs.memOk (Abs.Env.ofG Tryz.prog G w) (F149.gate F0 gm) 1000 m150 = true := by kernel_rfl
theorem c151 (w : World) : Abs.memOk (Abs.Env.ofG Tryz.prog G w) (F150.gate F0 gm) 1000 m151 = true := by kernel_rfl
theorem c152 (w : World) : Abs.memOk (Abs.Env.ofG Tryz.prog G w) (F151.gate F0 gm) 1000 m152 = true := by kernel_rfl
theorem c153 (w : World) : Abs.memOkT (Abs.Env.ofG Tryz.prog G w) (F152.gate F0 gm) 1000 m153 = true := by kernel_rfl
theorem c154 (w : World) : Abs.memOk (Abs.Env.ofG Tryz.prog G w) (F153.gate F0 gm) 1000 m154 = true := by kernel_rfl
theorem c155 (w : World) : Abs.memOk (Abs.Env.ofG Tryz.prog G w) (F154.gate F0 gm) 1000 m155 = true := by kernel_rfl
theorem c156 (w : World) : Abs.memOk (Abs.Env.ofG Tryz.prog G w) (F155.gate F0 gm) 1000 m156 = true := by kernel_rfl
theorem c157 (w : World) : Abs.memOk (Abs.Env.ofG Tryz.prog G w) (F156.gate F0 gm) 1000 m157 = true := by kernel_rfl
theorem c158 (w : World) : Abs.memOk (Abs.Env.ofG Tryz.prog G w) (F157.gate F0 gm) 1000 m158 = true := by kernel_rfl
theorem c159 (w : World) : Abs.memOk (Abs.Env.ofG Tryz.prog G w) (F158.gate F0 gm) 1000 m159 = true := by kernel_rfl
theorem c160 (w : World) : Abs.memOk (Abs.Env.ofG Tryz.prog G w) (F159.gate F0 gm) 1000 m160 = true := by kernel_rfl
theorem c161 (w : World) : Abs.memOk (Abs.Env.ofG Tryz.prog G w) (F160.gate F0 gm) 1000 m161 = true := by kernel_rfl
theorem c162 (w : World) : Abs.memOk (Abs.Env.ofG Tryz.prog G w) (F161.gate F0 gm) 1000 m162 = true := by kernel_rfl
theorem c163 (w : World) : Abs.memOk (Abs.Env.ofG Tryz.prog G w) (F162.gate F0 gm) 1000 m163 = true := by kernel_rfl
theorem c164 (w : World) : Abs.memOk (Abs.Env.ofG Tryz.prog G w) (F163.gate F0 gm) 1000 m164 = true := by kernel_rfl
theorem c165 (w : World) : Abs.memOk (Abs.Env.ofG Tryz.prog G w) (F164.gate F0 gm) 1000 m165 = true := by kernel_rfl
theorem c166 (w : World) : Abs.memOk (Abs.Env.ofG Tryz.prog G w) (F165.gate F0 gm) 1000 m166 = true := by kernel_rfl
theorem c167 (w : World) : Abs.memOk (Abs.Env.ofG Tryz.prog G w) (F166.gate F0 gm) 1000 m167 = true := by kernel_rfl
theorem c168 (w : World) : Abs.memOk (Abs.Env.ofG Tryz.prog G w) (F167.gate F0 gm) 1000 m168 = true := by kernel_rfl
theorem c169 (w : World) : Abs.memOk (Abs.Env.ofG Tryz.prog G w) (F168.gate F0 gm) 1000 m169 = true := by kernel_rfl
theorem c170 (w : World) : Abs.memOk (Abs.Env.ofG Tryz.prog G w) (F169.gate F0 gm) 1000 m170 = true := by kernel_rfl
theorem c171 (w : World) : Abs.memOk (Abs.Env.ofG Tryz.prog G w) (F170.gate F0 gm) 1000 m171 = true := by kernel_rfl
theorem c172 (w : World) : Abs.memOk (Abs.Env.ofG Tryz.prog G w) (F171.gate F0 gm) 1000 m172 = true := by kernel_rfl
end Go.Proofs.YtcilgbobjhdmeaaGreatDoor.symmetryKnown
