/-
  Single calls that the law EvalValues makes, computed by the executor of the abstract layer (part 2).
-/
import Derived.Test.YtdbkkindfakbfaaGreatEvalValuesD1
namespace Go.Proofs.YtdbkkindfakbfaaGreat.evalValues
open Go
theorem c2 (w:World):Abs.memOk (Abs.Env.of Tryz.prog w) (F1.gate F0 gm) 1000 m2=true:=by kernel_rfl
theorem c3 (w:World):Abs.memOk (Abs.Env.of Tryz.prog w) (F2.gate F0 gm) 1000 m3=true:=by kernel_rfl
theorem c4 (w:World):Abs.memOk (Abs.Env.of Tryz.prog w) (F3.gate F0 gm) 1000 m4=true:=by kernel_rfl
theorem c5 (w:World):Abs.memOk (Abs.Env.of Tryz.prog w) (F4.gate F0 gm) 1000 m5=true:=by kernel_rfl
end Go.Proofs.YtdbkkindfakbfaaGreat.evalValues
