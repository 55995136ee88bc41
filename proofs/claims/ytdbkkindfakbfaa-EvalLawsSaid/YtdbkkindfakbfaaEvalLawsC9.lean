/-
  Single calls that the law EvalLaws makes, computed by the executor of the abstract layer (part 9).
-/
import Derived.Test.YtdbkkindfakbfaaEvalLawsD1
namespace Go.Proofs.Ytdbkkindfakbfaa.evalLaws
open Go
theorem c70 (w:World):Abs.memOk (Abs.Env.of Try.prog w) (F69.gate F0 gm) 1000 m70=true:=by kernel_rfl
theorem c71 (w:World):Abs.memOk (Abs.Env.of Try.prog w) (F70.gate F0 gm) 1000 m71=true:=by kernel_rfl
theorem c72 (w:World):Abs.memOkT (Abs.Env.of Try.prog w) (F71.gate F0 gm) 1000 m72=true:=by kernel_rfl
theorem c73 (w:World):Abs.memOk (Abs.Env.of Try.prog w) (F72.gate F0 gm) 1000 m73=true:=by kernel_rfl
theorem c74 (w:World):Abs.memOk (Abs.Env.of Try.prog w) (F73.gate F0 gm) 1000 m74=true:=by kernel_rfl
theorem c75 (w:World):Abs.memOk (Abs.Env.of Try.prog w) (F74.gate F0 gm) 1000 m75=true:=by kernel_rfl
theorem c76 (w:World):Abs.memOk (Abs.Env.of Try.prog w) (F75.gate F0 gm) 1000 m76=true:=by kernel_rfl
theorem c77 (w:World):Abs.memOk (Abs.Env.of Try.prog w) (F76.gate F0 gm) 1000 m77=true:=by kernel_rfl
theorem c78 (w:World):Abs.memOk (Abs.Env.of Try.prog w) (F77.gate F0 gm) 1000 m78=true:=by kernel_rfl
theorem c79 (w:World):Abs.memOk (Abs.Env.of Try.prog w) (F78.gate F0 gm) 1000 m79=true:=by kernel_rfl
end Go.Proofs.Ytdbkkindfakbfaa.evalLaws
