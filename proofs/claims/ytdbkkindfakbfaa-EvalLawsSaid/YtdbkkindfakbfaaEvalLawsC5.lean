/-
  Single calls that the law EvalLaws makes, computed by the executor of the abstract layer (part 5).
-/
import Derived.Test.YtdbkkindfakbfaaEvalLawsD1
namespace Go.Proofs.Ytdbkkindfakbfaa.evalLaws
open Go
theorem c32 (w:World):Abs.memOk (Abs.Env.of Try.prog w) (F31.gate F0 gm) 1000 m32=true:=by kernel_rfl
theorem c33 (w:World):Abs.memOk (Abs.Env.of Try.prog w) (F32.gate F0 gm) 1000 m33=true:=by kernel_rfl
theorem c34 (w:World):Abs.memOk (Abs.Env.of Try.prog w) (F33.gate F0 gm) 1000 m34=true:=by kernel_rfl
theorem c35 (w:World):Abs.memOk (Abs.Env.of Try.prog w) (F34.gate F0 gm) 1000 m35=true:=by kernel_rfl
theorem c36 (w:World):Abs.memOk (Abs.Env.of Try.prog w) (F35.gate F0 gm) 1000 m36=true:=by kernel_rfl
theorem c37 (w:World):Abs.memOk (Abs.Env.of Try.prog w) (F36.gate F0 gm) 1000 m37=true:=by kernel_rfl
theorem c38 (w:World):Abs.memOk (Abs.Env.of Try.prog w) (F37.gate F0 gm) 1000 m38=true:=by kernel_rfl
theorem c39 (w:World):Abs.memOk (Abs.Env.of Try.prog w) (F38.gate F0 gm) 1000 m39=true:=by kernel_rfl
theorem c40 (w:World):Abs.memOk (Abs.Env.of Try.prog w) (F39.gate F0 gm) 1000 m40=true:=by kernel_rfl
theorem c41 (w:World):Abs.memOk (Abs.Env.of Try.prog w) (F40.gate F0 gm) 1000 m41=true:=by kernel_rfl
end Go.Proofs.Ytdbkkindfakbfaa.evalLaws
