/-
  Single calls that the law EvalLaws makes, computed by the executor of the abstract layer (part 14).
-/
import Derived.Test.YtdbkkindfakbfaaEvalLawsD1
namespace Go.Proofs.Ytdbkkindfakbfaa.evalLaws
open Go
theorem c109 (w:World):Abs.memOk (Abs.Env.of Try.prog w) (F108.gate F0 gm) 1000 m109=true:=by kernel_rfl
end Go.Proofs.Ytdbkkindfakbfaa.evalLaws
