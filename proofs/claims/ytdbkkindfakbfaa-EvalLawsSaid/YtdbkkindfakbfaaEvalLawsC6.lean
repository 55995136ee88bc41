/-
  Single calls that the law EvalLaws makes, computed by the executor of the abstract layer (part 6).
-/
import Derived.Test.YtdbkkindfakbfaaEvalLawsD1
namespace Go.Proofs.Ytdbkkindfakbfaa.evalLaws
open Go
theorem c42 (w:World):Abs.memOk (Abs.Env.of Try.prog w) (F41.gate F0 gm) 1000 m42=true:=by kernel_rfl
theorem c43 (w:World):Abs.memOk (Abs.Env.of Try.prog w) (F42.gate F0 gm) 1000 m43=true:=by kernel_rfl
theorem c44 (w:World):Abs.memOk (Abs.Env.of Try.prog w) (F43.gate F0 gm) 1000 m44=true:=by kernel_rfl
theorem c45 (w:World):Abs.memOk (Abs.Env.of Try.prog w) (F44.gate F0 gm) 1000 m45=true:=by kernel_rfl
theorem c46 (w:World):Abs.memOk (Abs.Env.of Try.prog w) (F45.gate F0 gm) 1000 m46=true:=by kernel_rfl
theorem c47 (w:World):Abs.memOkT (Abs.Env.of Try.prog w) (F46.gate F0 gm) 1000 m47=true:=by kernel_rfl
theorem c48 (w:World):Abs.memOk (Abs.Env.of Try.prog w) (F47.gate F0 gm) 1000 m48=true:=by kernel_rfl
theorem c49 (w:World):Abs.memOk (Abs.Env.of Try.prog w) (F48.gate F0 gm) 1000 m49=true:=by kernel_rfl
theorem c50 (w:World):Abs.memOk (Abs.Env.of Try.prog w) (F49.gate F0 gm) 1000 m50=true:=by kernel_rfl
theorem c51 (w:World):Abs.memOk (Abs.Env.of Try.prog w) (F50.gate F0 gm) 1000 m51=true:=by kernel_rfl
theorem c52 (w:World):Abs.memOk (Abs.Env.of Try.prog w) (F51.gate F0 gm) 1000 m52=true:=by kernel_rfl
theorem c53 (w:World):Abs.memOkT (Abs.Env.of Try.prog w) (F52.gate F0 gm) 1000 m53=true:=by kernel_rfl
end Go.Proofs.Ytdbkkindfakbfaa.evalLaws
