/- Part of the abstract layer; it proves no statement by itself. -/
import Derived.Test.YthedompojmncpaaGreatAbsRow
import Derived.Test.YthedompojmncpaaGreatAbsW1
noncomputable section
namespace Abs
set_option linter.unusedVariables false
set_option linter.unusedSimpArgs false
set_option linter.unusedSectionVars false
open Go
def in64 (n:Int):Prop:=-9223372036854775808<=n/\n < 9223372036854775808
abbrev SL (α:Type):=(Option Addr×Nat)×List α
section
variable {P:Program}
theorem agg_of {x:AVal} {vs:List AVal} (ha:x.isAgg=true) (h:x.cells=vs):x=.agg vs:=by
 cases x<;>first|cases ha; done|(rw [<-h]; rfl)
theorem one_of {x v:AVal} (ha:x.isAgg=false) (h:x.cells=[v]):x=v:=by
 rw [AVal.cells_one ha] at h
 simpa using h
end
end Abs
end
