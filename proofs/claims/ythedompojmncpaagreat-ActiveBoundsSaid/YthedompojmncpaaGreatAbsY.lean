/- Part of the abstract layer; it proves no statement by itself. -/
import Derived.Test.YthedompojmncpaaGreatAbsX
import Derived.Test.YthedompojmncpaaGreatAbsXA
import Derived.Test.YthedompojmncpaaGreatAbsM
import Derived.Test.YthedompojmncpaaGreatAbsV4
noncomputable section
namespace Abs
set_option linter.unusedVariables false
set_option linter.unusedSimpArgs false
set_option linter.unusedSectionVars false
open Go
section
variable {E:Env}
end
end Abs
end
