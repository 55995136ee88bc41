/-
  Single calls that the law EvalLaws makes, computed by the executor of the abstract layer (part 18).
-/
import Derived.Test.YtdbkkindfakbfaaEvalLawsD1
namespace Go.Proofs.Ytdbkkindfakbfaa.evalLaws
open Go
theorem c122 (w:World):Abs.memOk (Abs.Env.of Try.prog w) (F121.gate F0 gm) 1000 m122=true:=by kernel_rfl
theorem c123 (w:World):Abs.memOk (Abs.Env.of Try.prog w) (F122.gate F0 gm) 1000 m123=true:=by kernel_rfl
theorem c124 (w:World):Abs.memOk (Abs.Env.of Try.prog w) (F123.gate F0 gm) 1000 m124=true:=by kernel_rfl
end Go.Proofs.Ytdbkkindfakbfaa.evalLaws
