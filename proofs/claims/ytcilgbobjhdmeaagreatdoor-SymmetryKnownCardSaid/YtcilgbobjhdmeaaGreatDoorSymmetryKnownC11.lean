/-
  Single calls that the law SymmetryKnown makes, computed by the executor of the abstract layer (part 11).
-/
import Derived.Test.YtcilgbobjhdmeaaGreatDoorSymmetryKnownD1
namespace Go.Proofs.YtcilgbobjhdmeaaGreatDoor.symmetryKnown
open Go
theorem c225 (w : World) : Abs.memOk (Abs.Env.ofG Tryz.prog G w) (F224.gate F0 gm) 1000 m225 = true := by kernel_rfl
theorem c226 (w : World) : Abs.memOkT (Abs.Env.ofG Tryz.prog G w) (F225.gate F0 gm) 1000 m226 = true := by kernel_rfl
theorem c227 (w : World) : Abs.memOk (Abs.Env.ofG Tryz.prog G w) (F226.gate F0 gm) 1000 m227 = true := by kernel_rfl
theorem c228 (w : World) : Abs.memOk (Abs.Env.ofG Tryz.prog G w) (F227.gate F0 gm) 1000 m228 = true := by kernel_rfl
theorem c229 (w : World) : Abs.memOk (Abs.Env.ofG Tryz.prog G w) (F228.gate F0 gm) 1000 m229 = true := by kernel_rfl
theorem c230 (w : World) : Abs.memOk (Abs.Env.ofG Tryz.prog G w) (F229.gate F0 gm) 1000 m230 = true := by kernel_rfl
theorem c231 (w : World) : Abs.memOk (Abs.Env.ofG Tryz.prog G w) (F230.gate F0 gm) 1000 m231 = true := by kernel_rfl
theorem c232 (w : World) : Abs.memOk (Abs.Env.ofG Tryz.prog G w) (F231.gate F0 gm) 1000 m232 = true := by kernel_rfl
theorem c233 (w : World) : Abs.memOk (Abs.Env.ofG Tryz.prog G w) (F232.gate F0 gm) 1000 m233 = true := by kernel_rfl
theorem c234 (w : World) : Abs.memOk (Abs.Env.ofG Tryz.prog G w) (F233.gate F0 gm) 1000 m234 = true := by kernel_rfl
theorem c235 (w : World) : Abs.memOk (Abs.Env.ofG Tryz.prog G w) (F234.gate F0 gm) 1000 m235 = true := by kernel_rfl
theorem c236 (w : World) : Abs.memOk (Abs.Env.ofG Tryz.prog G w) (F235.gate F0 gm) 1000 m236 = true := by kernel_rfl
theorem c237 (w : World) : Abs.memOk (Abs.Env.ofG Tryz.prog G w) (F236.gate F0 gm) 1000 m237 = true := by kernel_rfl
theorem c238 (w : World) : Abs.memOk (Abs.Env.ofG Tryz.prog G w) (F237.gate F0 gm) 1000 m238 = true := by kernel_rfl
theorem c239 (w : World) : Abs.memOk (Abs.Env.ofG Tryz.prog G w) (F238.gate F0 gm) 1000 m239 = true := by kernel_rfl
theorem c240 (w : World) : Abs.memOk (Abs.Env.ofG Tryz.prog G w) (F239.gate F0 gm) 1000 m240 = true := by kernel_rfl
theorem c241 (w : World) : Abs.memOkT (Abs.Env.ofG Tryz.prog G w) (F240.gate F0 gm) 1000 m241 = true := by kernel_rfl
end Go.Proofs.YtcilgbobjhdmeaaGreatDoor.symmetryKnown
