/-
  Single calls that the law EvalLaws makes, computed by the executor of the abstract layer (part 12).
-/
import Derived.Test.YtdbkkindfakbfaaEvalLawsD1
namespace Go.Proofs.Ytdbkkindfakbfaa.evalLaws
open Go
theorem c97 (w:World):Abs.memOk (Abs.Env.of Try.prog w) (F96.gate F0 gm) 1000 m97=true:=by kernel_rfl
theorem c98 (w:World):Abs.memOk (Abs.Env.of Try.prog w) (F97.gate F0 gm) 1000 m98=true:=by kernel_rfl
theorem c99 (w:World):Abs.memOk (Abs.Env.of Try.prog w) (F98.gate F0 gm) 1000 m99=true:=by kernel_rfl
theorem c100 (w:World):Abs.memOk (Abs.Env.of Try.prog w) (F99.gate F0 gm) 1000 m100=true:=by kernel_rfl
theorem c101 (w:World):Abs.memOk (Abs.Env.of Try.prog w) (F100.gate F0 gm) 1000 m101=true:=by kernel_rfl
theorem c102 (w:World):Abs.memOkT (Abs.Env.of Try.prog w) (F101.gate F0 gm) 1000 m102=true:=by kernel_rfl
end Go.Proofs.Ytdbkkindfakbfaa.evalLaws
