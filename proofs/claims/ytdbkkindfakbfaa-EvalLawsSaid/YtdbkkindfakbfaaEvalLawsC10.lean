/-
  Single calls that the law EvalLaws makes, computed by the executor of the abstract layer (part 10).
-/
import Derived.Test.YtdbkkindfakbfaaEvalLawsD1
namespace Go.Proofs.Ytdbkkindfakbfaa.evalLaws
open Go
theorem c80 (w:World):Abs.memOk (Abs.Env.of Try.prog w) (F79.gate F0 gm) 1000 m80=true:=by kernel_rfl
theorem c81 (w:World):Abs.memOk (Abs.Env.of Try.prog w) (F80.gate F0 gm) 1000 m81=true:=by kernel_rfl
theorem c82 (w:World):Abs.memOkT (Abs.Env.of Try.prog w) (F81.gate F0 gm) 1000 m82=true:=by kernel_rfl
theorem c83 (w:World):Abs.memOk (Abs.Env.of Try.prog w) (F82.gate F0 gm) 1000 m83=true:=by kernel_rfl
theorem c84 (w:World):Abs.memOk (Abs.Env.of Try.prog w) (F83.gate F0 gm) 1000 m84=true:=by kernel_rfl
theorem c85 (w:World):Abs.memOk (Abs.Env.of Try.prog w) (F84.gate F0 gm) 1000 m85=true:=by kernel_rfl
theorem c86 (w:World):Abs.memOk (Abs.Env.of Try.prog w) (F85.gate F0 gm) 1000 m86=true:=by kernel_rfl
theorem c87 (w:World):Abs.memOk (Abs.Env.of Try.prog w) (F86.gate F0 gm) 1000 m87=true:=by kernel_rfl
theorem c88 (w:World):Abs.memOk (Abs.Env.of Try.prog w) (F87.gate F0 gm) 1000 m88=true:=by kernel_rfl
theorem c89 (w:World):Abs.memOk (Abs.Env.of Try.prog w) (F88.gate F0 gm) 1000 m89=true:=by kernel_rfl
theorem c90 (w:World):Abs.memOkT (Abs.Env.of Try.prog w) (F89.gate F0 gm) 1000 m90=true:=by kernel_rfl
end Go.Proofs.Ytdbkkindfakbfaa.evalLaws
