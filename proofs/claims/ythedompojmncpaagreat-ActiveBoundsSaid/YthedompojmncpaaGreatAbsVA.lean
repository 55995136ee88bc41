/- Part of the abstract layer; it proves no statement by itself. -/
import Derived.Test.YthedompojmncpaaGreatAbsV9
noncomputable section
namespace Abs
set_option linter.unusedVariables false
set_option linter.unusedSimpArgs false
set_option linter.unusedSectionVars false
open Go
section
variable {E:Env} {n:Nat} {ds:List ADef}
end
section
variable {E:Env} {ops:Array Oper} {anc:List (Nat×Nat)} {K:SPred} {recs:List SRec} {e:Ev} {q:Bool} {σ:AStore}
end
end Abs
end
