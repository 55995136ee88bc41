/-
  Single calls that the law EvalLaws makes, computed by the executor of the abstract layer (part 15).
-/
import Derived.Test.YtdbkkindfakbfaaEvalLawsD1
namespace Go.Proofs.Ytdbkkindfakbfaa.evalLaws
open Go
theorem c110 (w:World):Abs.memOk (Abs.Env.of Try.prog w) (F109.gate F0 gm) 1000 m110=true:=by kernel_rfl
theorem c111 (w:World):Abs.memOk (Abs.Env.of Try.prog w) (F110.gate F0 gm) 1000 m111=true:=by kernel_rfl
theorem c112 (w:World):Abs.memOk (Abs.Env.of Try.prog w) (F111.gate F0 gm) 1000 m112=true:=by kernel_rfl
theorem c113 (w:World):Abs.memOk (Abs.Env.of Try.prog w) (F112.gate F0 gm) 1000 m113=true:=by kernel_rfl
theorem c114 (w:World):Abs.memOk (Abs.Env.of Try.prog w) (F113.gate F0 gm) 1000 m114=true:=by kernel_rfl
theorem c115 (w:World):Abs.memOkT (Abs.Env.of Try.prog w) (F114.gate F0 gm) 1000 m115=true:=by kernel_rfl
end Go.Proofs.Ytdbkkindfakbfaa.evalLaws
