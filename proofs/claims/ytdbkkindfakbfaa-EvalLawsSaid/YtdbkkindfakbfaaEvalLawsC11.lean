/-
  Single calls that the law EvalLaws makes, computed by the executor of the abstract layer (part 11).
-/
import Derived.Test.YtdbkkindfakbfaaEvalLawsD1
namespace Go.Proofs.Ytdbkkindfakbfaa.evalLaws
open Go
theorem c91 (w:World):Abs.memOk (Abs.Env.of Try.prog w) (F90.gate F0 gm) 1000 m91=true:=by kernel_rfl
theorem c92 (w:World):Abs.memOk (Abs.Env.of Try.prog w) (F91.gate F0 gm) 1000 m92=true:=by kernel_rfl
theorem c93 (w:World):Abs.memOk (Abs.Env.of Try.prog w) (F92.gate F0 gm) 1000 m93=true:=by kernel_rfl
theorem c94 (w:World):Abs.memOk (Abs.Env.of Try.prog w) (F93.gate F0 gm) 1000 m94=true:=by kernel_rfl
theorem c95 (w:World):Abs.memOk (Abs.Env.of Try.prog w) (F94.gate F0 gm) 1000 m95=true:=by kernel_rfl
theorem c96 (w:World):Abs.memOkT (Abs.Env.of Try.prog w) (F95.gate F0 gm) 1000 m96=true:=by kernel_rfl
end Go.Proofs.Ytdbkkindfakbfaa.evalLaws
