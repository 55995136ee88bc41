/-
  Single calls that the law EvalLaws makes, computed by the executor of the abstract layer (part 13).
-/
import Derived.Test.YtdbkkindfakbfaaEvalLawsD1
namespace Go.Proofs.Ytdbkkindfakbfaa.evalLaws
open Go
theorem c103 (w:World):Abs.memOk (Abs.Env.of Try.prog w) (F102.gate F0 gm) 1000 m103=true:=by kernel_rfl
theorem c104 (w:World):Abs.memOk (Abs.Env.of Try.prog w) (F103.gate F0 gm) 1000 m104=true:=by kernel_rfl
theorem c105 (w:World):Abs.memOk (Abs.Env.of Try.prog w) (F104.gate F0 gm) 1000 m105=true:=by kernel_rfl
theorem c106 (w:World):Abs.memOk (Abs.Env.of Try.prog w) (F105.gate F0 gm) 1000 m106=true:=by kernel_rfl
theorem c107 (w:World):Abs.memOk (Abs.Env.of Try.prog w) (F106.gate F0 gm) 1000 m107=true:=by kernel_rfl
theorem c108 (w:World):Abs.memOkT (Abs.Env.of Try.prog w) (F107.gate F0 gm) 1000 m108=true:=by kernel_rfl
end Go.Proofs.Ytdbkkindfakbfaa.evalLaws
