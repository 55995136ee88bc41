/-
  Single calls that the law EvalLaws makes, computed by the executor of the abstract layer (part 19).
-/
import Derived.Test.YtdbkkindfakbfaaEvalLawsD1
namespace Go.Proofs.Ytdbkkindfakbfaa.evalLaws
open Go
theorem c125 (w:World):Abs.memOk (Abs.Env.of Try.prog w) (F124.gate F0 gm) 1000 m125=true:=by kernel_rfl
theorem c126 (w:World):Abs.memOk (Abs.Env.of Try.prog w) (F125.gate F0 gm) 1000 m126=true:=by kernel_rfl
theorem c127 (w:World):Abs.memOk (Abs.Env.of Try.prog w) (F126.gate F0 gm) 1000 m127=true:=by kernel_rfl
theorem c128 (w:World):Abs.memOk (Abs.Env.of Try.prog w) (F127.gate F0 gm) 1000 m128=true:=by kernel_rfl
theorem c129 (w:World):Abs.memOk (Abs.Env.of Try.prog w) (F128.gate F0 gm) 1000 m129=true:=by kernel_rfl
theorem c130 (w:World):Abs.memOkT (Abs.Env.of Try.prog w) (F129.gate F0 gm) 1000 m130=true:=by kernel_rfl
theorem c131 (w:World):Abs.memOk (Abs.Env.of Try.prog w) (F130.gate F0 gm) 1000 m131=true:=by kernel_rfl
theorem c132 (w:World):Abs.memOk (Abs.Env.of Try.prog w) (F131.gate F0 gm) 1000 m132=true:=by kernel_rfl
theorem c133 (w:World):Abs.memOk (Abs.Env.of Try.prog w) (F132.gate F0 gm) 1000 m133=true:=by kernel_rfl
theorem c134 (w:World):Abs.memOk (Abs.Env.of Try.prog w) (F133.gate F0 gm) 1000 m134=true:=by kernel_rfl
theorem c135 (w:World):Abs.memOk (Abs.Env.of Try.prog w) (F134.gate F0 gm) 1000 m135=true:=by kernel_rfl
theorem c136 (w:World):Abs.memOk (Abs.Env.of Try.prog w) (F135.gate F0 gm) 1000 m136=true:=by kernel_rfl
theorem c137 (w:World):Abs.memOk (Abs.Env.of Try.prog w) (F136.gate F0 gm) 1000 m137=true:=by kernel_rfl
theorem c138 (w:World):Abs.memOk (Abs.Env.of Try.prog w) (F137.gate F0 gm) 1000 m138=true:=by kernel_rfl
theorem c139 (w:World):Abs.memOk (Abs.Env.of Try.prog w) (F138.gate F0 gm) 1000 m139=true:=by kernel_rfl
theorem c140 (w:World):Abs.memOk (Abs.Env.of Try.prog w) (F139.gate F0 gm) 1000 m140=true:=by kernel_rfl
theorem c141 (w:World):Abs.memOk (Abs.Env.of Try.prog w) (F140.gate F0 gm) 1000 m141=true:=by kernel_rfl
theorem c142 (w:World):Abs.memOk (Abs.Env.of Try.prog w) (F141.gate F0 gm) 1000 m142=true:=by kernel_rfl
theorem c143 (w:World):Abs.memOk (Abs.Env.of Try.prog w) (F142.gate F0 gm) 1000 m143=true:=by kernel_rfl
theorem c144 (w:World):Abs.memOk (Abs.Env.of Try.prog w) (F143.gate F0 gm) 1000 m144=true:=by kernel_rfl
theorem c145 (w:World):Abs.memOk (Abs.Env.of Try.prog w) (F144.gate F0 gm) 1000 m145=true:=by kernel_rfl
theorem c146 (w:World):Abs.memOk (Abs.Env.of Try.prog w) (F145.gate F0 gm) 1000 m146=true:=by kernel_rfl
theorem c147 (w:World):Abs.memOk (Abs.Env.of Try.prog w) (F146.gate F0 gm) 1000 m147=true:=by kernel_rfl
theorem c148 (w:World):Abs.memOk (Abs.Env.of Try.prog w) (F147.gate F0 gm) 1000 m148=true:=by kernel_rfl
theorem c149 (w:World):Abs.memOk (Abs.Env.of Try.prog w) (F148.gate F0 gm) 1000 m149=true:=by kernel_rfl
theorem c150 (w:World):Abs.memOk (Abs.Env.of Try.prog w) (F149.gate F0 gm) 1000 m150=true:=by kernel_rfl
theorem c151 (w:World):Abs.memOk (Abs.Env.of Try.prog w) (F150.gate F0 gm) 1000 m151=true:=by kernel_rfl
theorem c152 (w:World):Abs.memOk (Abs.Env.of Try.prog w) (F151.gate F0 gm) 1000 m152=true:=by kernel_rfl
theorem c153 (w:World):Abs.memOk (Abs.Env.of Try.prog w) (F152.gate F0 gm) 1000 m153=true:=by kernel_rfl
end Go.Proofs.Ytdbkkindfakbfaa.evalLaws
