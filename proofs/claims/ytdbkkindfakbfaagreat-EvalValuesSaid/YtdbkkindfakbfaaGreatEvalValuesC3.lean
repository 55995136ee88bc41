/-
  Single calls that the law EvalValues makes, computed by the executor of the abstract layer (part 3).
-/
import Derived.Test.YtdbkkindfakbfaaGreatEvalValuesD1
namespace Go.Proofs.YtdbkkindfakbfaaGreat.evalValues
open Go
theorem c6 (w:World):Abs.memOk (Abs.Env.of Tryz.prog w) (F5.gate F0 gm) 1000 m6=true:=by kernel_rfl
theorem c7 (w:World):Abs.memOk (Abs.Env.of Tryz.prog w) (F6.gate F0 gm) 1000 m7=true:=by kernel_rfl
theorem c8 (w:World):Abs.memOk (Abs.Env.of Tryz.prog w) (F7.gate F0 gm) 1000 m8=true:=by kernel_rfl
theorem c9 (w:World):Abs.memOk (Abs.Env.of Tryz.prog w) (F8.gate F0 gm) 1000 m9=true:=by kernel_rfl
theorem c10 (w:World):Abs.memOk (Abs.Env.of Tryz.prog w) (F9.gate F0 gm) 1000 m10=true:=by kernel_rfl
theorem c11 (w:World):Abs.memOk (Abs.Env.of Tryz.prog w) (F10.gate F0 gm) 1000 m11=true:=by kernel_rfl
theorem c12 (w:World):Abs.memOk (Abs.Env.of Tryz.prog w) (F11.gate F0 gm) 1000 m12=true:=by kernel_rfl
theorem c13 (w:World):Abs.memOkT (Abs.Env.of Tryz.prog w) (F12.gate F0 gm) 1000 m13=true:=by kernel_rfl
theorem c14 (w:World):Abs.memOk (Abs.Env.of Tryz.prog w) (F13.gate F0 gm) 1000 m14=true:=by kernel_rfl
theorem c15 (w:World):Abs.memOk (Abs.Env.of Tryz.prog w) (F14.gate F0 gm) 1000 m15=true:=by kernel_rfl
theorem c16 (w:World):Abs.memOk (Abs.Env.of Tryz.prog w) (F15.gate F0 gm) 1000 m16=true:=by kernel_rfl
theorem c17 (w:World):Abs.memOkT (Abs.Env.of Tryz.prog w) (F16.gate F0 gm) 1000 m17=true:=by kernel_rfl
end Go.Proofs.YtdbkkindfakbfaaGreat.evalValues
