/- Part of the abstract layer; it proves no statement by itself. -/
import Derived.Test.YthedompojmncpaaGreatAbsV3
import Derived.Test.YthedompojmncpaaGreatAbsEq
noncomputable section
namespace Abs.Fr
set_option linter.unusedVariables false
set_option linter.unusedSimpArgs false
set_option linter.unusedSectionVars false
open Go Abs
section
variable {π:Nat->Nat} {n:Nat} {ι ι':Inj} {H:Imm}
end
def hdB:AVal->Option Nat
 | .ptr b _ _|.slice b _ _|.view b _ _|.map b|.yld b|.endS b _=>some b
 | _=>none
end Abs.Fr
end
