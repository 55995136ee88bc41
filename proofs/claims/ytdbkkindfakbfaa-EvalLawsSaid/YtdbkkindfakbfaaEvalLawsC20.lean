/-
  Single calls that the law EvalLaws makes, computed by the executor of the abstract layer (part 20).
-/
import Derived.Test.YtdbkkindfakbfaaEvalLawsD1
namespace Go.Proofs.Ytdbkkindfakbfaa.evalLaws
open Go
theorem c154 (w:World):Abs.memOk (Abs.Env.of Try.prog w) (F153.gate F0 gm) 1000 m154=true:=by kernel_rfl
theorem c155 (w:World):Abs.memOk (Abs.Env.of Try.prog w) (F154.gate F0 gm) 1000 m155=true:=by kernel_rfl
theorem c156 (w:World):Abs.memOk (Abs.Env.of Try.prog w) (F155.gate F0 gm) 1000 m156=true:=by kernel_rfl
theorem c157 (w:World):Abs.memOk (Abs.Env.of Try.prog w) (F156.gate F0 gm) 1000 m157=true:=by kernel_rfl
theorem c158 (w:World):Abs.memOk (Abs.Env.of Try.prog w) (F157.gate F0 gm) 1000 m158=true:=by kernel_rfl
end Go.Proofs.Ytdbkkindfakbfaa.evalLaws
