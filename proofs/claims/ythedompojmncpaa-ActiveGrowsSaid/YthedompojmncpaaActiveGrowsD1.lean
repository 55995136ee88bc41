/-
  What single calls that the law ActiveGrows makes return (part 1), by the values of the abstract layer. It proves no statement by itself.
-/
import Derived.Test.YthedompojmncpaaProg
import Derived.Test.YthedompojmncpaaAbsMm
import Derived.Test.YthedompojmncpaaAbsCt
import Derived.KernelRfl
namespace Go.Proofs.Ythedompojmncpaa.activeGrows
open Go
noncomputable def F0:Abs.FTab:=Abs.ftab Try.prog [6,17,43,58,66]
def gm:Nat:=32
def m1:Abs.Mem:=
  ⟨5,[],[(.ret (.sc (.bool true)))]⟩
noncomputable def F1:Abs.FTab:=F0.memo [m1]
end Go.Proofs.Ythedompojmncpaa.activeGrows
