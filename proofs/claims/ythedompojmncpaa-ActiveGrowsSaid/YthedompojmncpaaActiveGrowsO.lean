/-
  The tables of calls of the law ActiveGrows are sound: each call returns what its table says.
-/
import Derived.Test.YthedompojmncpaaActiveGrowsC1
namespace Go.Proofs.Ythedompojmncpaa.activeGrows
open Go
theorem o0 (w:World):Abs.FOk (Abs.Env.of Try.prog w) F0:=Abs.ftab_ok Try.prog [6,17,43,58,66] w
theorem o1 (w:World):Abs.FOk (Abs.Env.of Try.prog w) F1:=Abs.FOk.memoG rfl (o0 w) ((o0 w).gate (o0 w) gm) (c1 w)
end Go.Proofs.Ythedompojmncpaa.activeGrows
