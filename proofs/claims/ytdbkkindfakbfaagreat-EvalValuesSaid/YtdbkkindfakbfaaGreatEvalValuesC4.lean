/-
  Single calls that the law EvalValues makes, computed by the executor of the abstract layer (part 4).
-/
import Derived.Test.YtdbkkindfakbfaaGreatEvalValuesD1
namespace Go.Proofs.YtdbkkindfakbfaaGreat.evalValues
open Go
theorem c18 (w:World):Abs.memOk (Abs.Env.of Tryz.prog w) (F17.gate F0 gm) 1000 m18=true:=by kernel_rfl
theorem c19 (w:World):Abs.memOk (Abs.Env.of Tryz.prog w) (F18.gate F0 gm) 1000 m19=true:=by kernel_rfl
theorem c20 (w:World):Abs.memOk (Abs.Env.of Tryz.prog w) (F19.gate F0 gm) 1000 m20=true:=by kernel_rfl
theorem c21 (w:World):Abs.memOk (Abs.Env.of Tryz.prog w) (F20.gate F0 gm) 1000 m21=true:=by kernel_rfl
theorem c22 (w:World):Abs.memOk (Abs.Env.of Tryz.prog w) (F21.gate F0 gm) 1000 m22=true:=by kernel_rfl
theorem c23 (w:World):Abs.memOk (Abs.Env.of Tryz.prog w) (F22.gate F0 gm) 1000 m23=true:=by kernel_rfl
theorem c24 (w:World):Abs.memOk (Abs.Env.of Tryz.prog w) (F23.gate F0 gm) 1000 m24=true:=by kernel_rfl
theorem c25 (w:World):Abs.memOk (Abs.Env.of Tryz.prog w) (F24.gate F0 gm) 1000 m25=true:=by kernel_rfl
theorem c26 (w:World):Abs.memOk (Abs.Env.of Tryz.prog w) (F25.gate F0 gm) 1000 m26=true:=by kernel_rfl
theorem c27 (w:World):Abs.memOk (Abs.Env.of Tryz.prog w) (F26.gate F0 gm) 1000 m27=true:=by kernel_rfl
theorem c28 (w:World):Abs.memOk (Abs.Env.of Tryz.prog w) (F27.gate F0 gm) 1000 m28=true:=by kernel_rfl
theorem c29 (w:World):Abs.memOk (Abs.Env.of Tryz.prog w) (F28.gate F0 gm) 1000 m29=true:=by kernel_rfl
theorem c30 (w:World):Abs.memOk (Abs.Env.of Tryz.prog w) (F29.gate F0 gm) 1000 m30=true:=by kernel_rfl
end Go.Proofs.YtdbkkindfakbfaaGreat.evalValues
