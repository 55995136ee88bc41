/-
  Single calls that the law SymmetryKnown makes, computed by the executor of the abstract layer (part 1).
-/
import Derived.Test.YtcilgbobjhdmeaaGreatDoorSymmetryKnownD1
namespace Go.Proofs.YtcilgbobjhdmeaaGreatDoor.symmetryKnown
open Go
theorem c1 (w : World) : Abs.memOk (Abs.Env.ofG Tryz.prog G w) (F0.gate F0 gm) 1000 m1 = true := by kernel_rfl
theorem c2 (w : World) : Abs.memOk (Abs.Env.ofG Tryz.prog G w) (F1.gate F0 gm) 1000 m2 = true := by kernel_rfl
theorem c3 (w : World) : Abs.memOk (Abs.Env.ofG Tryz.prog G w) (F2.gate F0 gm) 1000 m3 = true := by kernel_rfl
theorem c4 (w : World) : Abs.memOk (Abs.Env.ofG Tryz.prog G w) (F3.gate F0 gm) 1000 m4 = true := by kernel_rfl
theorem c5 (w : World) : Abs.memOk (Abs.Env.ofG Tryz.prog G w) (F4.gate F0 gm) 1000 m5 = true := by kernel_rfl
theorem c6 (w : World) : Abs.memOk (Abs.Env.ofG Tryz.prog G w) (F5.gate F0 gm) 1000 m6 = true := by kernel_rfl
theorem c7 (w : World) : Abs.memOk (Abs.Env.ofG Tryz.prog G w) (F6.gate F0 gm) 1000 m7 = true := by kernel_rfl
theorem c8 (w : World) : Abs.memOk (Abs.Env.ofG Tryz.prog G w) (F7.gate F0 gm) 1000 m8 = true := by kernel_rfl
theorem c9 (w : World) : Abs.memOk (Abs.Env.ofG Tryz.prog G w) (F8.gate F0 gm) 1000 m9 = true := by kernel_rfl
theorem c10 (w : World) : Abs.memOk (Abs.Env.ofG Tryz.prog G w) (F9.gate F0 gm) 1000 m10 = true := by kernel_rfl
theorem c11 (w : World) : Abs.memOk (Abs.Env.ofG Tryz.prog G w) (F10.gate F0 gm) 1000 m11 = true := by kernel_rfl
theorem c12 (w : World) : Abs.memOk (Abs.Env.ofG Tryz.prog G w) (F11.gate F0 gm) 1000 m12 = true := by kernel_rfl
theorem c13 (w : World) : Abs.memOk (Abs.Env.ofG Tryz.prog G w) (F12.gate F0 gm) 1000 m13 = true := by kernel_rfl
theorem c14 (w : World) : Abs.memOk (Abs.Env.ofG Tryz.prog G w) (F13.gate F0 gm) 1000 m14 = true := by kernel_rfl
theorem c15 (w : World) : Abs.memOk (Abs.Env.ofG Tryz.prog G w) (F14.gate F0 gm) 1000 m15 = true := by kernel_rfl
theorem c16 (w : World) : Abs.memOk (Abs.Env.ofG Tryz.prog G w) (F15.gate F0 gm) 1000 m16 = true := by kernel_rfl
theorem c17 (w : World) : Abs.memOk (Abs.Env.ofG Tryz.prog G w) (F16.gate F0 gm) 1000 m17 = true := by kernel_rfl
theorem c18 (w : World) : Abs.memOk (Abs.Env.ofG Tryz.prog G w) (F17.gate F0 gm) 1000 m18 = true := by kernel_rfl
theorem c19 (w : World) : Abs.memOk (Abs.Env.ofG Tryz.prog G w) (F18.gate F0 gm) 1000 m19 = true := by kernel_rfl
theorem c20 (w : World) : Abs.memOk (Abs.Env.ofG Tryz.prog G w) (F19.gate F0 gm) 1000 m20 = true := by kernel_rfl
theorem c21 (w : World) : Abs.memOk (Abs.Env.ofG Tryz.prog G w) (F20.gate F0 gm) 1000 m21 = true := by kernel_rfl
theorem c22 (w : World) : Abs.memOk (Abs.Env.ofG Tryz.prog G w) (F21.gate F0 gm) 1000 m22 = true := by kernel_rfl
theorem c23 (w : World) : Abs.memOk (Abs.Env.ofG Tryz.prog G w) (F22.gate F0 gm) 1000 m23 = true := by kernel_rfl
theorem c24 (w : World) : Abs.memOk (Abs.Env.ofG Tryz.prog G w) (F23.gate F0 gm) 1000 m24 = true := by kernel_rfl
theorem c25 (w : World) : Abs.memOk (Abs.Env.ofG Tryz.prog G w) (F24.gate F0 gm) 1000 m25 = true := by kernel_rfl
theorem c26 (w : World) : Abs.memOk (Abs.Env.ofG Tryz.prog G w) (F25.gate F0 gm) 1000 m26 = true := by kernel_rfl
theorem c27 (w : World) : Abs.memOk (Abs.Env.ofG Tryz.prog G w) (F26.gate F0 gm) 1000 m27 = true := by kernel_rfl
theorem c28 (w : World) : Abs.memOk (Abs.Env.ofG Tryz.prog G w) (F27.gate F0 gm) 1000 m28 = true := by kernel_rfl
theorem c29 (w : World) : Abs.memOk (Abs.Env.ofG Tryz.prog G w) (F28.gate F0 gm) 1000 m29 = true := by kernel_rfl
theorem c30 (w : World) : Abs.memOk (Abs.Env.ofG Tryz.prog G w) (F29.gate F0 gm) 1000 m30 = true := by kernel_rfl
theorem c31 (w : World) : Abs.memOk (Abs.Env.ofG Tryz.prog G w) (F30.gate F0 gm) 1000 m31 = true := by kernel_rfl
theorem c32 (w : World) : Abs.memOk (Abs.Env.ofG Tryz.prog G w) (F31.gate F0 gm) 1000 m32 = true := by kernel_rfl
theorem c33 (w : World) : Abs.memOk (Abs.Env.ofG Tryz.prog G w) (F32.gate F0 gm) 1000 m33 = true := by kernel_rfl
theorem c34 (w : World) : Abs.memOk (Abs.Env.ofG Tryz.prog G w) (F33.gate F0 gm) 1000 m34 = true := by kernel_rfl
theorem c35 (w : World) : Abs.memOk (Abs.Env.ofG Tryz.prog G w) (F34.gate F0 gm) 1000 m35 = true := by kernel_rfl
theorem c36 (w : World) : Abs.memOk (Abs.Env.ofG Tryz.prog G w) (F35.gate F0 gm) 1000 m36 = true := by kernel_rfl
theorem c37 (w : World) : Abs.memOk (Abs.Env.ofG Tryz.prog G w) (F36.gate F0 gm) 1000 m37 = true := by kernel_rfl
theorem c38 (w : World) : Abs.memOk (Abs.Env.ofG Tryz.prog G w) (F37.gate F0 gm) 1000 m38 = true := by kernel_rfl
theorem c39 (w : World) : Abs.memOk (Abs.Env.ofG Tryz.prog G w) (F38.gate F0 gm) 1000 m39 = true := by kernel_rfl
theorem c40 (w : World) : Abs.memOk (Abs.Env.ofG Tryz.prog G w) (F39.gate F0 gm) 1000 m40 = true := by kernel_rfl
theorem c41 (w : World) : Abs.memOk (Abs.Env.ofG Tryz.prog G w) (F40.gate F0 gm) 1000 m41 = true := by kernel_rfl
theorem c42 (w : World) : Abs.memOkT (Abs.Env.ofG Tryz.prog G w) (F41.gate F0 gm) 1000 m42 = true := by kernel_rfl
theorem c43 (w : World) : Abs.memOkT (Abs.Env.ofG Tryz.prog G w) (F42.gate F0 gm) 1000 m43 = true := by kernel_rfl
theorem c44 (w : World) : Abs.memOk (Abs.Env.ofG Tryz.prog G w) (F43.gate F0 gm) 1000 m44 = true := by kernel_rfl
theorem c45 (w : World) : Abs.memOkT (Abs.Env.ofG Tryz.prog G w) (F44.gate F0 gm) 1000 m45 = true := by kernel_rfl
theorem c46 (w : World) : Abs.memOk (Abs.Env.ofG Tryz.prog G w) (F45.gate F0 gm) 1000 m46 = true := by kernel_rfl
theorem c47 (w : World) : Abs.memOk (Abs.Env.ofG Tryz.prog G w) (F46.gate F0 gm) 1000 m47 = true := by kernel_rfl
theorem c48 (w : World) : Abs.memOk (Abs.Env.ofG Tryz.prog G w) (F47.gate F0 gm) 1000 m48 = true := by kernel_rfl
theorem c49 (w : World) : Abs.memOk (Abs.Env.ofG Tryz.prog G w) (F48.gate F0 gm) 1000 m49 = true := by kernel_rfl
theorem c50 (w : World) : Abs.memOk (Abs.Env.ofG Tryz.prog G w) (F49.gate F0 gm) 1000 m50 = true := by kernel_rfl
theorem c51 (w : World) : Abs.memOk (Abs.Env.ofG Tryz.prog G w) (F50.gate F0 gm) 1000 m51 = true := by kernel_rfl
theorem c52 (w : World) : Abs.memOk (Abs.Env.ofG Tryz.prog G w) (F51.gate F0 gm) 1000 m52 = true := by kernel_rfl
end Go.Proofs.YtcilgbobjhdmeaaGreatDoor.symmetryKnown
