/-
  Single calls that the law EvalLaws makes, computed by the executor of the abstract layer (part 17).
-/
import Derived.Test.YtdbkkindfakbfaaEvalLawsD1
namespace Go.Proofs.Ytdbkkindfakbfaa.evalLaws
open Go
theorem c117 (w:World):Abs.memOk (Abs.Env.of Try.prog w) (F116.gate F0 gm) 1000 m117=true:=by kernel_rfl
theorem c118 (w:World):Abs.memOk (Abs.Env.of Try.prog w) (F117.gate F0 gm) 1000 m118=true:=by kernel_rfl
theorem c119 (w:World):Abs.memOk (Abs.Env.of Try.prog w) (F118.gate F0 gm) 1000 m119=true:=by kernel_rfl
theorem c120 (w:World):Abs.memOk (Abs.Env.of Try.prog w) (F119.gate F0 gm) 1000 m120=true:=by kernel_rfl
theorem c121 (w:World):Abs.memOkT (Abs.Env.of Try.prog w) (F120.gate F0 gm) 1000 m121=true:=by kernel_rfl
end Go.Proofs.Ytdbkkindfakbfaa.evalLaws
