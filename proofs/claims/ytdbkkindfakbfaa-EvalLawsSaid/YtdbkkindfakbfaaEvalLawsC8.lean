/-
  Single calls that the law EvalLaws makes, computed by the executor of the abstract layer (part 8).
-/
import Derived.Test.YtdbkkindfakbfaaEvalLawsD1
namespace Go.Proofs.Ytdbkkindfakbfaa.evalLaws
open Go
theorem c66 (w:World):Abs.memOk (Abs.Env.of Try.prog w) (F65.gate F0 gm) 1000 m66=true:=by kernel_rfl
theorem c67 (w:World):Abs.memOk (Abs.Env.of Try.prog w) (F66.gate F0 gm) 1000 m67=true:=by kernel_rfl
theorem c68 (w:World):Abs.memOk (Abs.Env.of Try.prog w) (F67.gate F0 gm) 1000 m68=true:=by kernel_rfl
theorem c69 (w:World):Abs.memOk (Abs.Env.of Try.prog w) (F68.gate F0 gm) 1000 m69=true:=by kernel_rfl
end Go.Proofs.Ytdbkkindfakbfaa.evalLaws
