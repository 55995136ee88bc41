/-
  Single calls that the law DenseAdds makes, computed by the executor of the abstract layer (part 1).
-/
import Derived.Test.YtkhjmhdpaikokaaGreatDoorDenseAddsD1
namespace Go.Proofs.YtkhjmhdpaikokaaGreatDoor.denseAdds
open Go
theorem c1 (w:World):Abs.memOk (Abs.Env.ofG Tryz.prog G w) (F0.gate F0 gm) 1000 m1=true:=by kernel_rfl
theorem c2 (w:World):Abs.memOk (Abs.Env.ofG Tryz.prog G w) (F1.gate F0 gm) 1000 m2=true:=by kernel_rfl
theorem c3 (w:World):Abs.memOk (Abs.Env.ofG Tryz.prog G w) (F2.gate F0 gm) 1000 m3=true:=by kernel_rfl
theorem c4 (w:World):Abs.memOk (Abs.Env.ofG Tryz.prog G w) (F3.gate F0 gm) 1000 m4=true:=by kernel_rfl
theorem c5 (w:World):Abs.memOk (Abs.Env.ofG Tryz.prog G w) (F4.gate F0 gm) 1000 m5=true:=by kernel_rfl
theorem c6 (w:World):Abs.memOk (Abs.Env.ofG Tryz.prog G w) (F5.gate F0 gm) 1000 m6=true:=by kernel_rfl
theorem c7 (w:World):Abs.memOk (Abs.Env.ofG Tryz.prog G w) (F6.gate F0 gm) 1000 m7=true:=by kernel_rfl
theorem c8 (w:World):Abs.memOk (Abs.Env.ofG Tryz.prog G w) (F7.gate F0 gm) 1000 m8=true:=by kernel_rfl
theorem c9 (w:World):Abs.memOk (Abs.Env.ofG Tryz.prog G w) (F8.gate F0 gm) 1000 m9=true:=by kernel_rfl
theorem c10 (w:World):Abs.memOk (Abs.Env.ofG Tryz.prog G w) (F9.gate F0 gm) 1000 m10=true:=by kernel_rfl
theorem c11 (w:World):Abs.memOk (Abs.Env.ofG Tryz.prog G w) (F10.gate F0 gm) 1000 m11=true:=by kernel_rfl
theorem c12 (w:World):Abs.memOk (Abs.Env.ofG Tryz.prog G w) (F11.gate F0 gm) 1000 m12=true:=by kernel_rfl
theorem c13 (w:World):Abs.memOk (Abs.Env.ofG Tryz.prog G w) (F12.gate F0 gm) 1000 m13=true:=by kernel_rfl
theorem c14 (w:World):Abs.memOk (Abs.Env.ofG Tryz.prog G w) (F13.gate F0 gm) 1000 m14=true:=by kernel_rfl
theorem c15 (w:World):Abs.memOk (Abs.Env.ofG Tryz.prog G w) (F14.gate F0 gm) 1000 m15=true:=by kernel_rfl
theorem c16 (w:World):Abs.memOk (Abs.Env.ofG Tryz.prog G w) (F15.gate F0 gm) 1000 m16=true:=by kernel_rfl
theorem c17 (w:World):Abs.memOk (Abs.Env.ofG Tryz.prog G w) (F16.gate F0 gm) 1000 m17=true:=by kernel_rfl
theorem c18 (w:World):Abs.memOk (Abs.Env.ofG Tryz.prog G w) (F17.gate F0 gm) 1000 m18=true:=by kernel_rfl
theorem c19 (w:World):Abs.memOk (Abs.Env.ofG Tryz.prog G w) (F18.gate F0 gm) 1000 m19=true:=by kernel_rfl
end Go.Proofs.YtkhjmhdpaikokaaGreatDoor.denseAdds
