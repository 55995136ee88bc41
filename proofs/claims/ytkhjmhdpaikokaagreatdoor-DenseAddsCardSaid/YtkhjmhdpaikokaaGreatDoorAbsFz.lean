/- Part of the abstract layer; it proves no statement by itself. -/
import Derived.Test.YtkhjmhdpaikokaaGreatDoorAbsD8
import Derived.Test.YtkhjmhdpaikokaaGreatDoorAbsV4
set_option linter.unusedVariables false
set_option linter.unusedSimpArgs false
set_option linter.unusedSectionVars false
noncomputable section
namespace Abs
open Go
section
variable {n b sz:Nat} {els:List AVal} {ι:Inj} {H H':Imm}
variable (hsz:(ι b).sz=sz) (hH:H.CLe H') (hD:DRel n ι H' (H'.cell? (ι b).blk) sz els (ι b).base)
include hsz hH hD
end
section
variable {E:Env} {n:Nat} {c:Code} {Q:SPred} {e:Ev} {σ:AStore}
end
section
variable {b sz:Nat} {els:List AVal} {σ:AStore}
end
end Abs
namespace Abs
open Go
end Abs
end
