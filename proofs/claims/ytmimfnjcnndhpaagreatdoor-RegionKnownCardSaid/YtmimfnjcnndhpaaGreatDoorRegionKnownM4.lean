/-
  Runs of functions that the law RegionKnown makes, computed by the executor of the abstract layer: part 4. Each is a fact about one call; the statement is proved in the last text.
-/
import Derived.Test.YtmimfnjcnndhpaaGreatDoorRegionKnownM3
import Derived.KernelRfl
namespace Go.Proofs.YtmimfnjcnndhpaaGreatDoor.regionKnown
open Go
/-- A call of function 24. -/
def m44 : Abs.Mem :=
  ⟨24, [(.agg [(.sc (.int Go.IntKind.i64 (3))), (.sc (.int Go.IntKind.i64 (2)))])], [(.ret (.sc (.bool true)))]⟩
noncomputable def F44 : Abs.FTab := F43.memo [m44]
theorem c44 (w : World) : Abs.memOk (Abs.Env.of Tryz.prog w) F43 1000 m44 = true := by kernel_rfl
theorem o44 (w : World) : Abs.FOk (Abs.Env.of Tryz.prog w) F44 := Abs.FOk.memo rfl (o43 w) (c44 w)

/-- A call of function 24. -/
def m45 : Abs.Mem :=
  ⟨24, [(.agg [(.sc (.int Go.IntKind.i64 (0))), (.sc (.int Go.IntKind.i64 (1)))])], [(.ret (.sc (.bool true)))]⟩
noncomputable def F45 : Abs.FTab := F44.memo [m45]
theorem c45 (w : World) : Abs.memOk (Abs.Env.of Tryz.prog w) F44 1000 m45 = true := by kernel_rfl
theorem o45 (w : World) : Abs.FOk (Abs.Env.of Tryz.prog w) F45 := Abs.FOk.memo rfl (o44 w) (c45 w)

/-- A call of function 43. -/
def m46 : Abs.Mem :=
  ⟨43, [(.sc (.int Go.IntKind.i64 (5))), (.sc (.int Go.IntKind.i64 (3)))], [(.ret (.tuple [(.agg [(.sc (.int Go.IntKind.i64 (5))), (.sc (.int Go.IntKind.i64 (3)))]), (.sc (.int Go.IntKind.i64 (0)))]))]⟩
noncomputable def F46 : Abs.FTab := F45.memo [m46]
theorem c46 (w : World) : Abs.memOk (Abs.Env.of Tryz.prog w) F45 1000 m46 = true := by kernel_rfl
theorem o46 (w : World) : Abs.FOk (Abs.Env.of Tryz.prog w) F46 := Abs.FOk.memo rfl (o45 w) (c46 w)

/-- A call of function 43. -/
def m47 : Abs.Mem :=
  ⟨43, [(.sc (.int Go.IntKind.i64 (1))), (.sc (.int Go.IntKind.i64 (3)))], [(.ret (.tuple [(.agg [(.sc (.int Go.IntKind.i64 (1))), (.sc (.int Go.IntKind.i64 (3)))]), (.sc (.int Go.IntKind.i64 (0)))]))]⟩
noncomputable def F47 : Abs.FTab := F46.memo [m47]
theorem c47 (w : World) : Abs.memOk (Abs.Env.of Tryz.prog w) F46 1000 m47 = true := by kernel_rfl
theorem o47 (w : World) : Abs.FOk (Abs.Env.of Tryz.prog w) F47 := Abs.FOk.memo rfl (o46 w) (c47 w)

/-- A call of function 29. -/
def m48 : Abs.Mem :=
  ⟨29, [(.agg [(.sc (.int Go.IntKind.i64 (1))), (.sc (.slice none 0 0)), (.sc (.slice none 0 0)), (.sc (.slice none 0 0)), (.data 3 false [(.agg [(.sc (.int Go.IntKind.i64 (0))), (.data 3 false [(.agg [(.sc (.int Go.IntKind.i64 (0))), (.data 4 false [(.agg [(.sc (.int Go.IntKind.i64 (1))), (.sc (.bool false)), (.sc (.bool false)), (.sc (.int Go.IntKind.i64 (2)))])]), (.sc (.int Go.IntKind.i64 (0)))]), (.agg [(.sc (.int Go.IntKind.i64 (0))), (.sc (.slice none 0 0)), (.sc (.int Go.IntKind.i64 (0)))])]), (.data 13 false [(.agg [(.sc (.int Go.IntKind.i64 (0))), (.sc (.int Go.IntKind.i64 (1))), (.data 4 false [(.agg [(.sc (.int Go.IntKind.i64 (1))), (.sc (.bool true)), (.sc (.bool false)), (.sc (.int Go.IntKind.i64 (1)))])]), (.sc (.int Go.IntKind.i64 (0))), (.sc (.string ⟨#[]⟩)), (.sc (.int Go.IntKind.i64 (0))), (.sc (.slice none 0 0)), (.sc (.int Go.IntKind.i64 (-1))), (.sc (.bool false)), (.sc (.slice none 0 0)), (.data 2 false [(.agg [(.sc (.int Go.IntKind.i64 (1))), (.sc (.int Go.IntKind.i64 (0)))])]), (.sc (.int Go.IntKind.i64 (0))), (.sc (.int Go.IntKind.i64 (0)))]), (.agg [(.sc (.int Go.IntKind.i64 (1))), (.sc (.int Go.IntKind.i64 (1))), (.data 4 false [(.agg [(.sc (.int Go.IntKind.i64 (1))), (.sc (.bool true)), (.sc (.bool true)), (.sc (.int Go.IntKind.i64 (3)))])]), (.sc (.int Go.IntKind.i64 (0))), (.sc (.string ⟨#[]⟩)), (.sc (.int Go.IntKind.i64 (0))), (.sc (.slice none 0 0)), (.sc (.int Go.IntKind.i64 (-1))), (.sc (.bool false)), (.sc (.slice none 0 0)), (.sc (.slice none 0 0)), (.sc (.int Go.IntKind.i64 (0))), (.sc (.int Go.IntKind.i64 (0)))])])])])]), (.agg [(.sc (.int Go.IntKind.i64 (1))), (.sc (.bool false)), (.sc (.int Go.IntKind.i64 (1))), (.sc (.int Go.IntKind.i64 (0))), (.sc (.int Go.IntKind.i64 (1))), (.sc (.int Go.IntKind.i64 (0))), (.sc (.string ⟨#[]⟩)), (.sc (.int Go.IntKind.i64 (0))), (.sc (.slice none 0 0)), (.sc (.int Go.IntKind.i64 (0))), (.sc (.bool false)), (.sc (.bool false)), (.sc (.int Go.IntKind.i64 (0))), (.sc (.slice none 0 0)), (.sc (.int Go.IntKind.i64 (0))), (.sc (.int Go.IntKind.i64 (0))), (.sc (.int Go.IntKind.i64 (0))), (.sc (.int Go.IntKind.i64 (0))), (.sc (.string ⟨#[]⟩)), (.sc (.int Go.IntKind.i64 (0))), (.sc (.slice none 0 0)), (.sc (.int Go.IntKind.i64 (0))), (.sc (.bool false)), (.sc (.bool false)), (.sc (.int Go.IntKind.i64 (0))), (.sc (.slice none 0 0))])], [(.ret (.sc (.int Go.IntKind.i64 (0))))]⟩
noncomputable def F48 : Abs.FTab := F47.memo [m48]
theorem c48 (w : World) : Abs.memOk (Abs.Env.of Tryz.prog w) F47 1000 m48 = true := by kernel_rfl
theorem o48 (w : World) : Abs.FOk (Abs.Env.of Tryz.prog w) F48 := Abs.FOk.memo rfl (o47 w) (c48 w)

/-- A call of function 30. -/
def m49 : Abs.Mem :=
  ⟨30, [(.agg [(.sc (.int Go.IntKind.i64 (1))), (.sc (.slice none 0 0)), (.sc (.slice none 0 0)), (.sc (.slice none 0 0)), (.data 3 false [(.agg [(.sc (.int Go.IntKind.i64 (0))), (.data 3 false [(.agg [(.sc (.int Go.IntKind.i64 (0))), (.data 4 false [(.agg [(.sc (.int Go.IntKind.i64 (1))), (.sc (.bool false)), (.sc (.bool false)), (.sc (.int Go.IntKind.i64 (2)))])]), (.sc (.int Go.IntKind.i64 (0)))]), (.agg [(.sc (.int Go.IntKind.i64 (0))), (.sc (.slice none 0 0)), (.sc (.int Go.IntKind.i64 (0)))])]), (.data 13 false [(.agg [(.sc (.int Go.IntKind.i64 (0))), (.sc (.int Go.IntKind.i64 (1))), (.data 4 false [(.agg [(.sc (.int Go.IntKind.i64 (1))), (.sc (.bool true)), (.sc (.bool false)), (.sc (.int Go.IntKind.i64 (1)))])]), (.sc (.int Go.IntKind.i64 (0))), (.sc (.string ⟨#[]⟩)), (.sc (.int Go.IntKind.i64 (0))), (.sc (.slice none 0 0)), (.sc (.int Go.IntKind.i64 (-1))), (.sc (.bool false)), (.sc (.slice none 0 0)), (.data 2 false [(.agg [(.sc (.int Go.IntKind.i64 (1))), (.sc (.int Go.IntKind.i64 (0)))])]), (.sc (.int Go.IntKind.i64 (0))), (.sc (.int Go.IntKind.i64 (0)))]), (.agg [(.sc (.int Go.IntKind.i64 (1))), (.sc (.int Go.IntKind.i64 (1))), (.data 4 false [(.agg [(.sc (.int Go.IntKind.i64 (1))), (.sc (.bool true)), (.sc (.bool true)), (.sc (.int Go.IntKind.i64 (3)))])]), (.sc (.int Go.IntKind.i64 (0))), (.sc (.string ⟨#[]⟩)), (.sc (.int Go.IntKind.i64 (0))), (.sc (.slice none 0 0)), (.sc (.int Go.IntKind.i64 (-1))), (.sc (.bool false)), (.sc (.slice none 0 0)), (.sc (.slice none 0 0)), (.sc (.int Go.IntKind.i64 (0))), (.sc (.int Go.IntKind.i64 (0)))])])])])]), (.agg [(.sc (.int Go.IntKind.i64 (1))), (.sc (.bool false)), (.sc (.int Go.IntKind.i64 (1))), (.sc (.int Go.IntKind.i64 (0))), (.sc (.int Go.IntKind.i64 (1))), (.sc (.int Go.IntKind.i64 (0))), (.sc (.string ⟨#[]⟩)), (.sc (.int Go.IntKind.i64 (0))), (.sc (.slice none 0 0)), (.sc (.int Go.IntKind.i64 (0))), (.sc (.bool false)), (.sc (.bool false)), (.sc (.int Go.IntKind.i64 (0))), (.sc (.slice none 0 0)), (.sc (.int Go.IntKind.i64 (0))), (.sc (.int Go.IntKind.i64 (0))), (.sc (.int Go.IntKind.i64 (0))), (.sc (.int Go.IntKind.i64 (0))), (.sc (.string ⟨#[]⟩)), (.sc (.int Go.IntKind.i64 (0))), (.sc (.slice none 0 0)), (.sc (.int Go.IntKind.i64 (0))), (.sc (.bool false)), (.sc (.bool false)), (.sc (.int Go.IntKind.i64 (0))), (.sc (.slice none 0 0))])], [(.ret (.data 1 false [(.sc (.int Go.IntKind.i64 (3)))]))]⟩
noncomputable def F49 : Abs.FTab := F48.memo [m49]
theorem c49 (w : World) : Abs.memOk (Abs.Env.of Tryz.prog w) F48 1000 m49 = true := by kernel_rfl
theorem o49 (w : World) : Abs.FOk (Abs.Env.of Tryz.prog w) F49 := Abs.FOk.memo rfl (o48 w) (c49 w)

end Go.Proofs.YtmimfnjcnndhpaaGreatDoor.regionKnown
