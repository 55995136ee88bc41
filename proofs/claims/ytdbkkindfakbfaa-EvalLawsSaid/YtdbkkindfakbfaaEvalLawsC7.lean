/-
  Single calls that the law EvalLaws makes, computed by the executor of the abstract layer (part 7).
-/
import Derived.Test.YtdbkkindfakbfaaEvalLawsD1
namespace Go.Proofs.Ytdbkkindfakbfaa.evalLaws
open Go
theorem c54 (w:World):Abs.memOk (Abs.Env.of Try.prog w) (F53.gate F0 gm) 1000 m54=true:=by kernel_rfl
theorem c55 (w:World):Abs.memOk (Abs.Env.of Try.prog w) (F54.gate F0 gm) 1000 m55=true:=by kernel_rfl
theorem c56 (w:World):Abs.memOk (Abs.Env.of Try.prog w) (F55.gate F0 gm) 1000 m56=true:=by kernel_rfl
theorem c57 (w:World):Abs.memOk (Abs.Env.of Try.prog w) (F56.gate F0 gm) 1000 m57=true:=by kernel_rfl
theorem c58 (w:World):Abs.memOk (Abs.Env.of Try.prog w) (F57.gate F0 gm) 1000 m58=true:=by kernel_rfl
theorem c59 (w:World):Abs.memOkT (Abs.Env.of Try.prog w) (F58.gate F0 gm) 1000 m59=true:=by kernel_rfl
theorem c60 (w:World):Abs.memOk (Abs.Env.of Try.prog w) (F59.gate F0 gm) 1000 m60=true:=by kernel_rfl
theorem c61 (w:World):Abs.memOk (Abs.Env.of Try.prog w) (F60.gate F0 gm) 1000 m61=true:=by kernel_rfl
theorem c62 (w:World):Abs.memOk (Abs.Env.of Try.prog w) (F61.gate F0 gm) 1000 m62=true:=by kernel_rfl
theorem c63 (w:World):Abs.memOk (Abs.Env.of Try.prog w) (F62.gate F0 gm) 1000 m63=true:=by kernel_rfl
theorem c64 (w:World):Abs.memOk (Abs.Env.of Try.prog w) (F63.gate F0 gm) 1000 m64=true:=by kernel_rfl
theorem c65 (w:World):Abs.memOkT (Abs.Env.of Try.prog w) (F64.gate F0 gm) 1000 m65=true:=by kernel_rfl
end Go.Proofs.Ytdbkkindfakbfaa.evalLaws
