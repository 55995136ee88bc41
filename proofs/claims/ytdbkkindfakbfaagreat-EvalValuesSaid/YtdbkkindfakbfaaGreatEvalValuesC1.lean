/-
  Single calls that the law EvalValues makes, computed by the executor of the abstract layer (part 1).
-/
import Derived.Test.YtdbkkindfakbfaaGreatEvalValuesD1
namespace Go.Proofs.YtdbkkindfakbfaaGreat.evalValues
open Go
theorem c1 (w:World):Abs.memOk (Abs.Env.of Tryz.prog w) (F0.gate F0 gm) 1000 m1=true:=by kernel_rfl
end Go.Proofs.YtdbkkindfakbfaaGreat.evalValues
