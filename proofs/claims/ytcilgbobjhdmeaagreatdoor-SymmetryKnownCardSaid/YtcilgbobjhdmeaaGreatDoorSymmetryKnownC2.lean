/-
  Single calls that the law SymmetryKnown makes, computed by the executor of the abstract layer (part 2).
-/
import Derived.Test.YtcilgbobjhdmeaaGreatDoorSymmetryKnownD1
namespace Go.Proofs.YtcilgbobjhdmeaaGreatDoor.symmetryKnown
open Go
theorem c53 (w : World) : Abs.memOkT (Abs.Env.ofG Tryz.prog G w) (F52.gate F0 gm) 1000 m53 = true := by kernel_rfl
theorem c54 (w : World) : Abs.memOkT (Abs.Env.ofG Tryz.prog G w) (F53.gate F0 gm) 1000 m54 = true := by kernel_rfl
theorem c55 (w : World) : Abs.memOk (Abs.Env.ofG Tryz.prog G w) (F54.gate F0 gm) 1000 m55 = true := by kernel_rfl
theorem c56 (w : World) : Abs.memOk (Abs.Env.ofG Tryz.prog G w) (F55.gate F0 gm) 1000 m56 = true := by kernel_rfl
theorem c57 (w : World) : Abs.memOk (Abs.Env.ofG Tryz.prog G w) (F56.gate F0 gm) 1000 m57 = true := by kernel_rfl
theorem c58 (w : World) : Abs.memOk (Abs.Env.ofG Tryz.prog G w) (F57.gate F0 gm) 1000 m58 = true := by kernel_rfl
theorem c59 (w : World) : Abs.memOk (Abs.Env.ofG Tryz.prog G w) (F58.gate F0 gm) 1000 m59 = true := by kernel_rfl
theorem c60 (w : World) : Abs.memOk (Abs.Env.ofG Tryz.prog G w) (F59.gate F0 gm) 1000 m60 = true := by kernel_rfl
theorem c61 (w : World) : Abs.memOk (Abs.Env.ofG Tryz.prog G w) (F60.gate F0 gm) 1000 m61 = true := by kernel_rfl
theorem c62 (w : World) : Abs.memOk (Abs.Env.ofG Tryz.prog G w) (F61.gate F0 gm) 1000 m62 = true := by kernel_rfl
theorem c63 (w : World) : Abs.memOk (Abs.Env.ofG Tryz.prog G w) (F62.gate F0 gm) 1000 m63 = true := by kernel_rfl
theorem c64 (w : World) : Abs.memOk (Abs.Env.ofG Tryz.prog G w) (F63.gate F0 gm) 1000 m64 = true := by kernel_rfl
theorem c65 (w : World) : Abs.memOk (Abs.Env.ofG Tryz.prog G w) (F64.gate F0 gm) 1000 m65 = true := by kernel_rfl
theorem c66 (w : World) : Abs.memOk (Abs.Env.ofG Tryz.prog G w) (F65.gate F0 gm) 1000 m66 = true := by kernel_rfl
theorem c67 (w : World) : Abs.memOk (Abs.Env.ofG Tryz.prog G w) (F66.gate F0 gm) 1000 m67 = true := by kernel_rfl
theorem c68 (w : World) : Abs.memOk (Abs.Env.ofG Tryz.prog G w) (F67.gate F0 gm) 1000 m68 = true := by kernel_rfl
theorem c69 (w : World) : Abs.memOk (Abs.Env.ofG Tryz.prog G w) (F68.gate F0 gm) 1000 m69 = true := by kernel_rfl
theorem c70 (w : World) : Abs.memOk (Abs.Env.ofG Tryz.prog G w) (F69.gate F0 gm) 1000 m70 = true := by kernel_rfl
theorem c71 (w : World) : Abs.memOk (Abs.Env.ofG Tryz.prog G w) (F70.gate F0 gm) 1000 m71 = true := by kernel_rfl
theorem c72 (w : World) : Abs.memOk (Abs.Env.ofG Tryz.prog G w) (F71.gate F0 gm) 1000 m72 = true := by kernel_rfl
theorem c73 (w : World) : Abs.memOk (Abs.Env.ofG Tryz.prog G w) (F72.gate F0 gm) 1000 m73 = true := by kernel_rfl
theorem c74 (w : World) : Abs.memOk (Abs.Env.ofG Tryz.prog G w) (F73.gate F0 gm) 1000 m74 = true := by kernel_rfl
theorem c75 (w : World) : Abs.memOk (Abs.Env.ofG Tryz.prog G w) (F74.gate F0 gm) 1000 m75 = true := by kernel_rfl
theorem c76 (w : World) : Abs.memOk (Abs.Env.ofG Tryz.prog G w) (F75.gate F0 gm) 1000 m76 = true := by kernel_rfl
theorem c77 (w : World) : Abs.memOkT (Abs.Env.ofG Tryz.prog G w) (F76.gate F0 gm) 1000 m77 = true := by kernel_rfl
theorem c78 (w : World) : Abs.memOk (Abs.Env.ofG Tryz.prog G w) (F77.gate F0 gm) 1000 m78 = true := by kernel_rfl
theorem c79 (w : World) : Abs.memOk (Abs.Env.ofG Tryz.prog G w) (F78.gate F0 gm) 1000 m79 = true := by kernel_rfl
theorem c80 (w : World) : Abs.memOk (Abs.Env.ofG Tryz.prog G w) (F79.gate F0 gm) 1000 m80 = true := by kernel_rfl
theorem c81 (w : World) : Abs.memOk (Abs.Env.ofG Tryz.prog G w) (F80.gate F0 gm) 1000 m81 = true := by kernel_rfl
theorem c82 (w : World) : Abs.memOk (Abs.Env.ofG Tryz.prog G w) (F81.gate F0 gm) 1000 m82 = true := by kernel_rfl
theorem c83 (w : World) : Abs.memOk (Abs.Env.ofG Tryz.prog G w) (F82.gate F0 gm) 1000 m83 = true := by kernel_rfl
theorem c84 (w : World) : Abs.memOk (Abs.Env.ofG Tryz.prog G w) (F83.gate F0 gm) 1000 m84 = true := by kernel_rfl
theorem c85 (w : World) : Abs.memOk (Abs.Env.ofG Tryz.prog G w) (F84.gate F0 gm) 1000 m85 = true := by kernel_rfl
theorem c86 (w : World) : Abs.memOk (Abs.Env.ofG Tryz.prog G w) (F85.gate F0 gm) 1000 m86 = true := by kernel_rfl
theorem c87 (w : World) : Abs.memOk (Abs.Env.ofG Tryz.prog G w) (F86.gate F0 gm) 1000 m87 = true := by kernel_rfl
theorem c88 (w : World) : Abs.memOk (Abs.Env.ofG Tryz.prog G w) (F87.gate F0 gm) 1000 m88 = true := by kernel_rfl
theorem c89 (w : World) : Abs.memOk (Abs.Env.ofG Tryz.prog G w) (F88.gate F0 gm) 1000 m89 = true := by kernel_rfl
theorem c90 (w : World) : Abs.memOk (Abs.Env.ofG Tryz.prog G w) (F89.gate F0 gm) 1000 m90 = true := by kernel_rfl
theorem c91 (w : World) : Abs.memOk (Abs.Env.ofG Tryz.prog G w) (F90.gate F0 gm) 1000 m91 = true := by kernel_rfl
theorem c92 (w : World) : Abs.memOk (Abs.Env.ofG Tryz.prog G w) (F91.gate F0 gm) 1000 m92 = true := by kernel_rfl
theorem c93 (w : World) : Abs.memOk (Abs.Env.ofG Tryz.prog G w) (F92.gate F0 gm) 1000 m93 = true := by kernel_rfl
theorem c94 (w : World) : Abs.memOkT (Abs.Env.ofG Tryz.prog G w) (F93.gate F0 gm) 1000 m94 = true := by kernel_rfl
theorem c95 (w : World) : Abs.memOk (Abs.Env.ofG Tryz.prog G w) (F94.gate F0 gm) 1000 m95 = true := by kernel_rfl
theorem c96 (w : World) : Abs.memOk (Abs.Env.ofG Tryz.prog G w) (F95.gate F0 gm) 1000 m96 = true := by kernel_rfl
theorem c97 (w : World) : Abs.memOk (Abs.Env.ofG Tryz.prog G w) (F96.gate F0 gm) 1000 m97 = true := by kernel_rfl
theorem c98 (w : World) : Abs.memOk (Abs.Env.ofG Tryz.prog G w) (F97.gate F0 gm) 1000 m98 = true := by kernel_rfl
theorem c99 (w : World) : Abs.memOk (Abs.Env.ofG Tryz.prog G w) (F98.gate F0 gm) 1000 m99 = true := by kernel_rfl
theorem c100 (w : World) : Abs.memOk (Abs.Env.ofG Tryz.prog G w) (F99.gate F0 gm) 1000 m100 = true := by kernel_rfl
theorem c101 (w : World) : Abs.memOk (Abs.Env.ofG Tryz.prog G w) (F100.gate F0 gm) 1000 m101 = true := by kernel_rfl
theorem c102 (w : World) : Abs.memOk (Abs.Env.ofG Tryz.prog G w) (F101.gate F0 gm) 1000 m102 = true := by kernel_rfl
theorem c103 (w : World) : Abs.memOk (Abs.Env.ofG Tryz.prog G w) (F102.gate F0 gm) 1000 m103 = true := by kernel_rfl
theorem c104 (w : World) : Abs.memOk (Abs.Env.ofG Tryz.prog G w) (F103.gate F0 gm) 1000 m104 = true := by kernel_rfl
theorem c105 (w : World) : Abs.memOk (Abs.Env.ofG Tryz.prog G w) (F104.gate F0 gm) 1000 m105 = true := by kernel_rfl
theorem c106 (w : World) : Abs.memOk (Abs.Env.ofG Tryz.prog G w) (F105.gate F0 gm) 1000 m106 = true := by kernel_rfl
theorem c107 (w : World) : Abs.memOk (Abs.Env.ofG Tryz.prog G w) (F106.gate F0 gm) 1000 m107 = true := by kernel_rfl
theorem c108 (w : World) : Abs.memOk (Abs.Env.ofG Tryz.prog G w) (F107.gate F0 gm) 1000 m108 = true := by kernel_rfl
theorem c109 (w : World) : Abs.memOk (Abs.Env.ofG Tryz.prog G w) (F108.gate F0 gm) 1000 m109 = true := by kernel_rfl
theorem c110 (w : World) : Abs.memOk (Abs.Env.ofG Tryz.prog G w) (F109.gate F0 gm) 1000 m110 = true := by kernel_rfl
theorem c111 (w : World) : Abs.memOk (Abs.Env.ofG Tryz.prog G w) (F110.gate F0 gm) 1000 m111 = true := by kernel_rfl
end Go.Proofs.YtcilgbobjhdmeaaGreatDoor.symmetryKnown
