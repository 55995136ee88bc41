/-
  Runs of functions that the law RegionKnown makes, computed by the executor of the abstract layer: part 8. Each is a fact about one call; the statement is proved in the last text.
-/
import Derived.Test.YtmimfnjcnndhpaaGreatDoorRegionKnownM7
import Derived.KernelRfl
namespace Go.Proofs.YtmimfnjcnndhpaaGreatDoor.regionKnown
open Go
/-- A call of function 11. -/
def m56 : Abs.Mem :=
  ⟨11, [], [(.ret (.sc (.bool true)))]⟩
noncomputable def F56 : Abs.FTab := F55.memo [m56]
theorem c56 (w : World) : Abs.memOk (Abs.Env.of Tryz.prog w) F55 1000 m56 = true := by kernel_rfl
theorem o56 (w : World) : Abs.FOk (Abs.Env.of Tryz.prog w) F56 := Abs.FOk.memo rfl (o55 w) (c56 w)

/-- A call of function 3. -/
def m57 : Abs.Mem :=
  ⟨3, [], [(.ret (.sc (.bool true)))]⟩
noncomputable def F57 : Abs.FTab := F56.memo [m57]
theorem c57 (w : World) : Abs.memOk (Abs.Env.of Tryz.prog w) F56 1000 m57 = true := by kernel_rfl
theorem o57 (w : World) : Abs.FOk (Abs.Env.of Tryz.prog w) F57 := Abs.FOk.memo rfl (o56 w) (c57 w)

end Go.Proofs.YtmimfnjcnndhpaaGreatDoor.regionKnown
