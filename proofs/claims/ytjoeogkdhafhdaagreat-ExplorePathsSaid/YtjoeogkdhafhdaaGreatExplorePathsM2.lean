/-
  Runs of functions that the law ExplorePaths makes, computed by the executor of the abstract layer: part 2. Each is a fact about one call; the statement is proved in the last text.
-/
import Derived.Test.YtjoeogkdhafhdaaGreatExplorePathsM1
import Derived.KernelRfl
namespace Go.Proofs.YtjoeogkdhafhdaaGreat.explorePaths
open Go
/-- A call of function 26. -/
def m15 : Abs.Mem :=
  ⟨26, [(.agg [(.sc (.int Go.IntKind.i64 (1))), (.data 1 false [(.sc (.int Go.IntKind.i64 (1))), (.sc (.int Go.IntKind.i64 (1))), (.sc (.int Go.IntKind.i64 (5))), (.sc (.int Go.IntKind.i64 (1)))])]), (.data 3 false [(.agg [(.sc (.int Go.IntKind.i64 (0))), (.sc (.int Go.IntKind.i64 (1))), (.sc (.int Go.IntKind.i64 (-1)))])])], [(.ret (.tuple [(.agg [(.sc (.int Go.IntKind.i64 (1))), (.data 1 false [(.sc (.int Go.IntKind.i64 (1))), (.sc (.int Go.IntKind.i64 (-1))), (.sc (.int Go.IntKind.i64 (5))), (.sc (.int Go.IntKind.i64 (1)))])]), (.sc (.int Go.IntKind.i64 (0)))]))]⟩
noncomputable def F15 : Abs.FTab := F14.memo [m15]
theorem c15 (w : World) : Abs.memOk (Abs.Env.of Tryz.prog w) F14 1000 m15 = true := by kernel_rfl
theorem o15 (w : World) : Abs.FOk (Abs.Env.of Tryz.prog w) F15 := Abs.FOk.memo rfl (o14 w) (c15 w)

/-- A call of function 59. -/
def m16 : Abs.Mem :=
  ⟨59, [(.agg [(.sc (.int Go.IntKind.i64 (1))), (.data 1 false [(.sc (.int Go.IntKind.i64 (1))), (.sc (.int Go.IntKind.i64 (-1))), (.sc (.int Go.IntKind.i64 (5))), (.sc (.int Go.IntKind.i64 (1)))])])], [(.ret (.sc (.int Go.IntKind.i64 (0))))]⟩
noncomputable def F16 : Abs.FTab := F15.memo [m16]
theorem c16 (w : World) : Abs.memOk (Abs.Env.of Tryz.prog w) F15 1000 m16 = true := by kernel_rfl
theorem o16 (w : World) : Abs.FOk (Abs.Env.of Tryz.prog w) F16 := Abs.FOk.memo rfl (o15 w) (c16 w)

/-- A call of function 112. -/
def m17 : Abs.Mem :=
  ⟨112, [(.agg [(.sc (.int Go.IntKind.i64 (1))), (.data 1 false [(.sc (.int Go.IntKind.i64 (1))), (.sc (.int Go.IntKind.i64 (-1))), (.sc (.int Go.IntKind.i64 (5))), (.sc (.int Go.IntKind.i64 (1)))])]), (.sc (.int Go.IntKind.i64 (1))), (.sc (.int Go.IntKind.i64 (0)))], [(.ret (.tuple [(.agg [(.sc (.int Go.IntKind.i64 (1))), (.data 1 false [(.sc (.int Go.IntKind.i64 (1))), (.sc (.int Go.IntKind.i64 (1))), (.sc (.int Go.IntKind.i64 (1))), (.sc (.int Go.IntKind.i64 (1)))])]), (.sc (.int Go.IntKind.i64 (0)))]))]⟩
noncomputable def F17 : Abs.FTab := F16.memo [m17]
theorem c17 (w : World) : Abs.memOk (Abs.Env.of Tryz.prog w) F16 1000 m17 = true := by kernel_rfl
theorem o17 (w : World) : Abs.FOk (Abs.Env.of Tryz.prog w) F17 := Abs.FOk.memo rfl (o16 w) (c17 w)

/-- A call of function 26. -/
def m18 : Abs.Mem :=
  ⟨26, [(.agg [(.sc (.int Go.IntKind.i64 (1))), (.data 1 false [(.sc (.int Go.IntKind.i64 (1))), (.sc (.int Go.IntKind.i64 (1))), (.sc (.int Go.IntKind.i64 (1))), (.sc (.int Go.IntKind.i64 (1)))])]), (.sc (.slice none 0 0))], [(.ret (.tuple [(.agg [(.sc (.int Go.IntKind.i64 (1))), (.data 1 false [(.sc (.int Go.IntKind.i64 (1))), (.sc (.int Go.IntKind.i64 (1))), (.sc (.int Go.IntKind.i64 (1))), (.sc (.int Go.IntKind.i64 (1)))])]), (.sc (.int Go.IntKind.i64 (0)))]))]⟩
noncomputable def F18 : Abs.FTab := F17.memo [m18]
theorem c18 (w : World) : Abs.memOk (Abs.Env.of Tryz.prog w) F17 1000 m18 = true := by kernel_rfl
theorem o18 (w : World) : Abs.FOk (Abs.Env.of Tryz.prog w) F18 := Abs.FOk.memo rfl (o17 w) (c18 w)

/-- A call of function 26. -/
def m19 : Abs.Mem :=
  ⟨26, [(.agg [(.sc (.int Go.IntKind.i64 (1))), (.data 1 false [(.sc (.int Go.IntKind.i64 (1))), (.sc (.int Go.IntKind.i64 (1))), (.sc (.int Go.IntKind.i64 (1099511627776))), (.sc (.int Go.IntKind.i64 (1)))])]), (.sc (.slice none 0 0))], [(.ret (.tuple [(.agg [(.sc (.int Go.IntKind.i64 (1))), (.data 1 false [(.sc (.int Go.IntKind.i64 (1))), (.sc (.int Go.IntKind.i64 (1))), (.sc (.int Go.IntKind.i64 (1099511627776))), (.sc (.int Go.IntKind.i64 (1)))])]), (.sc (.int Go.IntKind.i64 (0)))]))]⟩
noncomputable def F19 : Abs.FTab := F18.memo [m19]
theorem c19 (w : World) : Abs.memOk (Abs.Env.of Tryz.prog w) F18 1000 m19 = true := by kernel_rfl
theorem o19 (w : World) : Abs.FOk (Abs.Env.of Tryz.prog w) F19 := Abs.FOk.memo rfl (o18 w) (c19 w)

/-- A call of function 53. -/
def m20 : Abs.Mem :=
  ⟨53, [(.agg [(.sc (.int Go.IntKind.i64 (1))), (.data 1 false [(.sc (.int Go.IntKind.i64 (1))), (.sc (.int Go.IntKind.i64 (1))), (.sc (.int Go.IntKind.i64 (1))), (.sc (.int Go.IntKind.i64 (1)))])]), (.iptr [(.sc (.int Go.IntKind.i64 (1))), (.sc (.slice none 0 0)), (.sc (.slice none 0 0)), (.sc (.slice none 0 0)), (.data 3 false [(.agg [(.sc (.int Go.IntKind.i64 (0))), (.data 3 false [(.agg [(.sc (.int Go.IntKind.i64 (0))), (.data 4 false [(.agg [(.sc (.int Go.IntKind.i64 (1))), (.sc (.bool false)), (.sc (.bool false)), (.sc (.int Go.IntKind.i64 (2)))])]), (.sc (.int Go.IntKind.i64 (0)))]), (.agg [(.sc (.int Go.IntKind.i64 (0))), (.sc (.slice none 0 0)), (.sc (.int Go.IntKind.i64 (0)))])]), (.data 13 false [(.agg [(.sc (.int Go.IntKind.i64 (0))), (.sc (.int Go.IntKind.i64 (1))), (.data 4 false [(.agg [(.sc (.int Go.IntKind.i64 (1))), (.sc (.bool true)), (.sc (.bool false)), (.sc (.int Go.IntKind.i64 (1)))])]), (.sc (.int Go.IntKind.i64 (0))), (.sc (.string ⟨#[]⟩)), (.sc (.int Go.IntKind.i64 (0))), (.sc (.slice none 0 0)), (.sc (.int Go.IntKind.i64 (-1))), (.sc (.bool false)), (.sc (.slice none 0 0)), (.data 2 false [(.agg [(.sc (.int Go.IntKind.i64 (1))), (.sc (.int Go.IntKind.i64 (0)))])]), (.sc (.int Go.IntKind.i64 (0))), (.sc (.int Go.IntKind.i64 (0)))]), (.agg [(.sc (.int Go.IntKind.i64 (1))), (.sc (.int Go.IntKind.i64 (1))), (.data 4 false [(.agg [(.sc (.int Go.IntKind.i64 (1))), (.sc (.bool true)), (.sc (.bool true)), (.sc (.int Go.IntKind.i64 (3)))])]), (.sc (.int Go.IntKind.i64 (0))), (.sc (.string ⟨#[]⟩)), (.sc (.int Go.IntKind.i64 (0))), (.sc (.slice none 0 0)), (.sc (.int Go.IntKind.i64 (-1))), (.sc (.bool false)), (.sc (.slice none 0 0)), (.sc (.slice none 0 0)), (.sc (.int Go.IntKind.i64 (0))), (.sc (.int Go.IntKind.i64 (0)))])])])])]), (.iptr [(.data 1 false [(.sc (.int Go.IntKind.i64 (1)))]), (.data 1 false [])])], [(.ret (.tuple [(.agg [(.sc (.int Go.IntKind.i64 (1))), (.data 1 false [(.sc (.int Go.IntKind.i64 (1))), (.sc (.int Go.IntKind.i64 (1))), (.sc (.int Go.IntKind.i64 (1099511627776))), (.sc (.int Go.IntKind.i64 (1)))])]), (.sc (.int Go.IntKind.i64 (0)))]))]⟩
noncomputable def F20 : Abs.FTab := F19.memo [m20]
theorem c20 (w : World) : Abs.memOk (Abs.Env.of Tryz.prog w) F19 1000 m20 = true := by kernel_rfl
theorem o20 (w : World) : Abs.FOk (Abs.Env.of Tryz.prog w) F20 := Abs.FOk.memo rfl (o19 w) (c20 w)

/-- A call of function 29. -/
def m21 : Abs.Mem :=
  ⟨29, [(.agg [(.sc (.int Go.IntKind.i64 (1))), (.sc (.slice none 0 0)), (.sc (.slice none 0 0)), (.sc (.slice none 0 0)), (.data 3 false [(.agg [(.sc (.int Go.IntKind.i64 (0))), (.data 3 false [(.agg [(.sc (.int Go.IntKind.i64 (0))), (.data 4 false [(.agg [(.sc (.int Go.IntKind.i64 (1))), (.sc (.bool false)), (.sc (.bool false)), (.sc (.int Go.IntKind.i64 (2)))])]), (.sc (.int Go.IntKind.i64 (0)))]), (.agg [(.sc (.int Go.IntKind.i64 (0))), (.sc (.slice none 0 0)), (.sc (.int Go.IntKind.i64 (0)))])]), (.data 13 false [(.agg [(.sc (.int Go.IntKind.i64 (0))), (.sc (.int Go.IntKind.i64 (1))), (.data 4 false [(.agg [(.sc (.int Go.IntKind.i64 (1))), (.sc (.bool true)), (.sc (.bool false)), (.sc (.int Go.IntKind.i64 (1)))])]), (.sc (.int Go.IntKind.i64 (0))), (.sc (.string ⟨#[]⟩)), (.sc (.int Go.IntKind.i64 (0))), (.sc (.slice none 0 0)), (.sc (.int Go.IntKind.i64 (-1))), (.sc (.bool false)), (.sc (.slice none 0 0)), (.data 2 false [(.agg [(.sc (.int Go.IntKind.i64 (1))), (.sc (.int Go.IntKind.i64 (0)))])]), (.sc (.int Go.IntKind.i64 (0))), (.sc (.int Go.IntKind.i64 (0)))]), (.agg [(.sc (.int Go.IntKind.i64 (1))), (.sc (.int Go.IntKind.i64 (1))), (.data 4 false [(.agg [(.sc (.int Go.IntKind.i64 (1))), (.sc (.bool true)), (.sc (.bool true)), (.sc (.int Go.IntKind.i64 (3)))])]), (.sc (.int Go.IntKind.i64 (0))), (.sc (.string ⟨#[]⟩)), (.sc (.int Go.IntKind.i64 (0))), (.sc (.slice none 0 0)), (.sc (.int Go.IntKind.i64 (-1))), (.sc (.bool false)), (.sc (.slice none 0 0)), (.sc (.slice none 0 0)), (.sc (.int Go.IntKind.i64 (0))), (.sc (.int Go.IntKind.i64 (0)))])])])])]), (.agg [(.data 1 false [(.sc (.int Go.IntKind.i64 (0)))]), (.data 1 true []), (.sc (.int Go.IntKind.i64 (1))), (.data 1 false [(.sc (.int Go.IntKind.i64 (1))), (.sc (.int Go.IntKind.i64 (1))), (.sc (.int Go.IntKind.i64 (5))), (.sc (.int Go.IntKind.i64 (1)))])]), (.sc (.int Go.IntKind.i64 (0)))], [(.ret (.tuple [(.agg [(.data 1 false [(.sc (.int Go.IntKind.i64 (1)))]), (.data 1 true []), (.sc (.int Go.IntKind.i64 (1))), (.data 1 false [(.sc (.int Go.IntKind.i64 (1))), (.sc (.int Go.IntKind.i64 (1))), (.sc (.int Go.IntKind.i64 (1099511627776))), (.sc (.int Go.IntKind.i64 (1)))])]), (.sc (.bool true)), (.sc (.int Go.IntKind.i64 (0)))]))]⟩
noncomputable def F21 : Abs.FTab := F20.memo [m21]
theorem c21 (w : World) : Abs.memOk (Abs.Env.of Tryz.prog w) F20 1000 m21 = true := by kernel_rfl
theorem o21 (w : World) : Abs.FOk (Abs.Env.of Tryz.prog w) F21 := Abs.FOk.memo rfl (o20 w) (c21 w)

/-- A call of function 11. -/
def m22 : Abs.Mem :=
  ⟨11, [(.agg [(.sc (.int Go.IntKind.i64 (1))), (.sc (.slice none 0 0)), (.sc (.slice none 0 0)), (.sc (.slice none 0 0)), (.data 3 false [(.agg [(.sc (.int Go.IntKind.i64 (0))), (.data 3 false [(.agg [(.sc (.int Go.IntKind.i64 (0))), (.data 4 false [(.agg [(.sc (.int Go.IntKind.i64 (1))), (.sc (.bool false)), (.sc (.bool false)), (.sc (.int Go.IntKind.i64 (2)))])]), (.sc (.int Go.IntKind.i64 (0)))]), (.agg [(.sc (.int Go.IntKind.i64 (0))), (.sc (.slice none 0 0)), (.sc (.int Go.IntKind.i64 (0)))])]), (.data 13 false [(.agg [(.sc (.int Go.IntKind.i64 (0))), (.sc (.int Go.IntKind.i64 (1))), (.data 4 false [(.agg [(.sc (.int Go.IntKind.i64 (1))), (.sc (.bool true)), (.sc (.bool false)), (.sc (.int Go.IntKind.i64 (1)))])]), (.sc (.int Go.IntKind.i64 (0))), (.sc (.string ⟨#[]⟩)), (.sc (.int Go.IntKind.i64 (0))), (.sc (.slice none 0 0)), (.sc (.int Go.IntKind.i64 (-1))), (.sc (.bool false)), (.sc (.slice none 0 0)), (.data 2 false [(.agg [(.sc (.int Go.IntKind.i64 (1))), (.sc (.int Go.IntKind.i64 (0)))])]), (.sc (.int Go.IntKind.i64 (0))), (.sc (.int Go.IntKind.i64 (0)))]), (.agg [(.sc (.int Go.IntKind.i64 (1))), (.sc (.int Go.IntKind.i64 (1))), (.data 4 false [(.agg [(.sc (.int Go.IntKind.i64 (1))), (.sc (.bool true)), (.sc (.bool true)), (.sc (.int Go.IntKind.i64 (3)))])]), (.sc (.int Go.IntKind.i64 (0))), (.sc (.string ⟨#[]⟩)), (.sc (.int Go.IntKind.i64 (0))), (.sc (.slice none 0 0)), (.sc (.int Go.IntKind.i64 (-1))), (.sc (.bool false)), (.sc (.slice none 0 0)), (.sc (.slice none 0 0)), (.sc (.int Go.IntKind.i64 (0))), (.sc (.int Go.IntKind.i64 (0)))])])])])]), (.agg [(.sc (.int Go.IntKind.i64 (1))), (.sc (.bool false)), (.sc (.slice none 0 0)), (.sc (.int Go.IntKind.i64 (10)))]), (.agg [(.data 1 false [(.sc (.int Go.IntKind.i64 (1)))]), (.data 1 true []), (.sc (.int Go.IntKind.i64 (1))), (.data 1 false [(.sc (.int Go.IntKind.i64 (1))), (.sc (.int Go.IntKind.i64 (1))), (.sc (.int Go.IntKind.i64 (1099511627776))), (.sc (.int Go.IntKind.i64 (1)))])])], [(.ret (.tuple [(.agg [(.data 1 false [(.sc (.int Go.IntKind.i64 (1)))]), (.data 1 true []), (.sc (.int Go.IntKind.i64 (1))), (.data 1 false [(.sc (.int Go.IntKind.i64 (1))), (.sc (.int Go.IntKind.i64 (1))), (.sc (.int Go.IntKind.i64 (1099511627776))), (.sc (.int Go.IntKind.i64 (1)))])]), (.sc (.int Go.IntKind.i64 (0)))]))]⟩
noncomputable def F22 : Abs.FTab := F21.memo [m22]
theorem c22 (w : World) : Abs.memOk (Abs.Env.of Tryz.prog w) F21 1000 m22 = true := by kernel_rfl
theorem o22 (w : World) : Abs.FOk (Abs.Env.of Tryz.prog w) F22 := Abs.FOk.memo rfl (o21 w) (c22 w)

/-- A call of function 30. -/
def m23 : Abs.Mem :=
  ⟨30, [(.agg [(.sc (.int Go.IntKind.i64 (1))), (.sc (.slice none 0 0)), (.sc (.slice none 0 0)), (.sc (.slice none 0 0)), (.data 3 false [(.agg [(.sc (.int Go.IntKind.i64 (0))), (.data 3 false [(.agg [(.sc (.int Go.IntKind.i64 (0))), (.data 4 false [(.agg [(.sc (.int Go.IntKind.i64 (1))), (.sc (.bool false)), (.sc (.bool false)), (.sc (.int Go.IntKind.i64 (2)))])]), (.sc (.int Go.IntKind.i64 (0)))]), (.agg [(.sc (.int Go.IntKind.i64 (0))), (.sc (.slice none 0 0)), (.sc (.int Go.IntKind.i64 (0)))])]), (.data 13 false [(.agg [(.sc (.int Go.IntKind.i64 (0))), (.sc (.int Go.IntKind.i64 (1))), (.data 4 false [(.agg [(.sc (.int Go.IntKind.i64 (1))), (.sc (.bool true)), (.sc (.bool false)), (.sc (.int Go.IntKind.i64 (1)))])]), (.sc (.int Go.IntKind.i64 (0))), (.sc (.string ⟨#[]⟩)), (.sc (.int Go.IntKind.i64 (0))), (.sc (.slice none 0 0)), (.sc (.int Go.IntKind.i64 (-1))), (.sc (.bool false)), (.sc (.slice none 0 0)), (.data 2 false [(.agg [(.sc (.int Go.IntKind.i64 (1))), (.sc (.int Go.IntKind.i64 (0)))])]), (.sc (.int Go.IntKind.i64 (0))), (.sc (.int Go.IntKind.i64 (0)))]), (.agg [(.sc (.int Go.IntKind.i64 (1))), (.sc (.int Go.IntKind.i64 (1))), (.data 4 false [(.agg [(.sc (.int Go.IntKind.i64 (1))), (.sc (.bool true)), (.sc (.bool true)), (.sc (.int Go.IntKind.i64 (3)))])]), (.sc (.int Go.IntKind.i64 (0))), (.sc (.string ⟨#[]⟩)), (.sc (.int Go.IntKind.i64 (0))), (.sc (.slice none 0 0)), (.sc (.int Go.IntKind.i64 (-1))), (.sc (.bool false)), (.sc (.slice none 0 0)), (.sc (.slice none 0 0)), (.sc (.int Go.IntKind.i64 (0))), (.sc (.int Go.IntKind.i64 (0)))])])])])]), (.agg [(.data 1 false [(.sc (.int Go.IntKind.i64 (1)))]), (.data 1 true []), (.sc (.int Go.IntKind.i64 (1))), (.data 1 false [(.sc (.int Go.IntKind.i64 (1))), (.sc (.int Go.IntKind.i64 (1))), (.sc (.int Go.IntKind.i64 (1099511627776))), (.sc (.int Go.IntKind.i64 (1)))])])], [(.ret (.sc (.int Go.IntKind.i64 (0))))]⟩
noncomputable def F23 : Abs.FTab := F22.memo [m23]
theorem c23 (w : World) : Abs.memOk (Abs.Env.of Tryz.prog w) F22 1000 m23 = true := by kernel_rfl
theorem o23 (w : World) : Abs.FOk (Abs.Env.of Tryz.prog w) F23 := Abs.FOk.memo rfl (o22 w) (c23 w)

/-- A call of function 72. -/
def m24 : Abs.Mem :=
  ⟨72, [(.iptr [(.sc (.int Go.IntKind.i64 (1))), (.sc (.slice none 0 0)), (.sc (.slice none 0 0)), (.sc (.slice none 0 0)), (.data 3 false [(.agg [(.sc (.int Go.IntKind.i64 (0))), (.data 3 false [(.agg [(.sc (.int Go.IntKind.i64 (0))), (.data 4 false [(.agg [(.sc (.int Go.IntKind.i64 (1))), (.sc (.bool false)), (.sc (.bool false)), (.sc (.int Go.IntKind.i64 (2)))])]), (.sc (.int Go.IntKind.i64 (0)))]), (.agg [(.sc (.int Go.IntKind.i64 (0))), (.sc (.slice none 0 0)), (.sc (.int Go.IntKind.i64 (0)))])]), (.data 13 false [(.agg [(.sc (.int Go.IntKind.i64 (0))), (.sc (.int Go.IntKind.i64 (1))), (.data 4 false [(.agg [(.sc (.int Go.IntKind.i64 (1))), (.sc (.bool true)), (.sc (.bool false)), (.sc (.int Go.IntKind.i64 (1)))])]), (.sc (.int Go.IntKind.i64 (0))), (.sc (.string ⟨#[]⟩)), (.sc (.int Go.IntKind.i64 (0))), (.sc (.slice none 0 0)), (.sc (.int Go.IntKind.i64 (-1))), (.sc (.bool false)), (.sc (.slice none 0 0)), (.data 2 false [(.agg [(.sc (.int Go.IntKind.i64 (1))), (.sc (.int Go.IntKind.i64 (0)))])]), (.sc (.int Go.IntKind.i64 (0))), (.sc (.int Go.IntKind.i64 (0)))]), (.agg [(.sc (.int Go.IntKind.i64 (1))), (.sc (.int Go.IntKind.i64 (1))), (.data 4 false [(.agg [(.sc (.int Go.IntKind.i64 (1))), (.sc (.bool true)), (.sc (.bool true)), (.sc (.int Go.IntKind.i64 (3)))])]), (.sc (.int Go.IntKind.i64 (0))), (.sc (.string ⟨#[]⟩)), (.sc (.int Go.IntKind.i64 (0))), (.sc (.slice none 0 0)), (.sc (.int Go.IntKind.i64 (-1))), (.sc (.bool false)), (.sc (.slice none 0 0)), (.sc (.slice none 0 0)), (.sc (.int Go.IntKind.i64 (0))), (.sc (.int Go.IntKind.i64 (0)))])])])]), (.sc (.slice none 0 0))]), (.agg [(.data 1 false [(.sc (.int Go.IntKind.i64 (1)))]), (.data 1 true [])])], [(.ret (.tuple [(.data 7 false [(.agg [(.data 2 false [(.agg [(.sc (.int Go.IntKind.i64 (0))), (.sc (.int Go.IntKind.i64 (1)))])]), (.data 1 false [(.sc (.int Go.IntKind.i64 (1)))]), (.data 1 false []), (.data 4 false [(.agg [(.sc (.int Go.IntKind.i64 (1))), (.sc (.bool true)), (.sc (.bool true)), (.sc (.int Go.IntKind.i64 (3)))])]), (.sc (.slice none 0 0)), (.sc (.int Go.IntKind.i64 (0))), (.sc (.int Go.IntKind.i64 (0)))])]), (.sc (.int Go.IntKind.i64 (0)))]))]⟩
noncomputable def F24 : Abs.FTab := F23.memo [m24]
theorem c24 (w : World) : Abs.memOk (Abs.Env.of Tryz.prog w) F23 1000 m24 = true := by kernel_rfl
theorem o24 (w : World) : Abs.FOk (Abs.Env.of Tryz.prog w) F24 := Abs.FOk.memo rfl (o23 w) (c24 w)

/-- A call of function 26. -/
def m25 : Abs.Mem :=
  ⟨26, [(.agg [(.sc (.int Go.IntKind.i64 (1))), (.data 1 false [(.sc (.int Go.IntKind.i64 (1))), (.sc (.int Go.IntKind.i64 (1))), (.sc (.int Go.IntKind.i64 (1099511627776))), (.sc (.int Go.IntKind.i64 (1)))])]), (.data 3 false [(.agg [(.sc (.int Go.IntKind.i64 (0))), (.sc (.int Go.IntKind.i64 (1))), (.sc (.int Go.IntKind.i64 (-6)))])])], [(.ret (.tuple [(.agg [(.sc (.int Go.IntKind.i64 (1))), (.data 1 false [(.sc (.int Go.IntKind.i64 (1))), (.sc (.int Go.IntKind.i64 (-6))), (.sc (.int Go.IntKind.i64 (1099511627776))), (.sc (.int Go.IntKind.i64 (1)))])]), (.sc (.int Go.IntKind.i64 (0)))]))]⟩
noncomputable def F25 : Abs.FTab := F24.memo [m25]
theorem c25 (w : World) : Abs.memOk (Abs.Env.of Tryz.prog w) F24 1000 m25 = true := by kernel_rfl
theorem o25 (w : World) : Abs.FOk (Abs.Env.of Tryz.prog w) F25 := Abs.FOk.memo rfl (o24 w) (c25 w)

/-- A call of function 59. -/
def m26 : Abs.Mem :=
  ⟨59, [(.agg [(.sc (.int Go.IntKind.i64 (1))), (.data 1 false [(.sc (.int Go.IntKind.i64 (1))), (.sc (.int Go.IntKind.i64 (-6))), (.sc (.int Go.IntKind.i64 (1099511627776))), (.sc (.int Go.IntKind.i64 (1)))])])], [(.ret (.sc (.int Go.IntKind.i64 (0))))]⟩
noncomputable def F26 : Abs.FTab := F25.memo [m26]
theorem c26 (w : World) : Abs.memOk (Abs.Env.of Tryz.prog w) F25 1000 m26 = true := by kernel_rfl
theorem o26 (w : World) : Abs.FOk (Abs.Env.of Tryz.prog w) F26 := Abs.FOk.memo rfl (o25 w) (c26 w)

end Go.Proofs.YtjoeogkdhafhdaaGreat.explorePaths
