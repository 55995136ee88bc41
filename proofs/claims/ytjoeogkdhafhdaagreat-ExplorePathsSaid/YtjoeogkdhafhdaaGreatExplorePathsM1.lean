/-
  Runs of functions that the law ExplorePaths makes, computed by the executor of the abstract layer: part 1. Each is a fact about one call; the statement is proved in the last text.
-/
import Derived.Test.YtjoeogkdhafhdaaGreatProg
import Derived.Test.YtjoeogkdhafhdaaGreatAbsMm
import Derived.KernelRfl
namespace Go.Proofs.YtjoeogkdhafhdaaGreat.explorePaths
open Go
noncomputable def F0 : Abs.FTab := Abs.ftab Tryz.prog [22, 85, 93, 99, 120, 123, 130, 131, 142, 146]
theorem o0 (w : World) : Abs.FOk (Abs.Env.of Tryz.prog w) F0 := Abs.ftab_ok Tryz.prog [22, 85, 93, 99, 120, 123, 130, 131, 142, 146] w

/-- A call of function 16. -/
def m1 : Abs.Mem :=
  ⟨16, [(.agg [(.sc (.int Go.IntKind.i64 (1))), (.sc (.slice none 0 0)), (.sc (.slice none 0 0)), (.sc (.slice none 0 0)), (.data 3 false [(.agg [(.sc (.int Go.IntKind.i64 (0))), (.data 3 false [(.agg [(.sc (.int Go.IntKind.i64 (0))), (.data 4 false [(.agg [(.sc (.int Go.IntKind.i64 (1))), (.sc (.bool false)), (.sc (.bool false)), (.sc (.int Go.IntKind.i64 (2)))])]), (.sc (.int Go.IntKind.i64 (0)))]), (.agg [(.sc (.int Go.IntKind.i64 (0))), (.sc (.slice none 0 0)), (.sc (.int Go.IntKind.i64 (0)))])]), (.data 13 false [(.agg [(.sc (.int Go.IntKind.i64 (0))), (.sc (.int Go.IntKind.i64 (1))), (.data 4 false [(.agg [(.sc (.int Go.IntKind.i64 (1))), (.sc (.bool true)), (.sc (.bool false)), (.sc (.int Go.IntKind.i64 (1)))])]), (.sc (.int Go.IntKind.i64 (0))), (.sc (.string ⟨#[]⟩)), (.sc (.int Go.IntKind.i64 (0))), (.sc (.slice none 0 0)), (.sc (.int Go.IntKind.i64 (-1))), (.sc (.bool false)), (.sc (.slice none 0 0)), (.data 2 false [(.agg [(.sc (.int Go.IntKind.i64 (1))), (.sc (.int Go.IntKind.i64 (0)))])]), (.sc (.int Go.IntKind.i64 (0))), (.sc (.int Go.IntKind.i64 (0)))]), (.agg [(.sc (.int Go.IntKind.i64 (1))), (.sc (.int Go.IntKind.i64 (1))), (.data 4 false [(.agg [(.sc (.int Go.IntKind.i64 (1))), (.sc (.bool true)), (.sc (.bool true)), (.sc (.int Go.IntKind.i64 (3)))])]), (.sc (.int Go.IntKind.i64 (0))), (.sc (.string ⟨#[]⟩)), (.sc (.int Go.IntKind.i64 (0))), (.sc (.slice none 0 0)), (.sc (.int Go.IntKind.i64 (-1))), (.sc (.bool false)), (.sc (.slice none 0 0)), (.sc (.slice none 0 0)), (.sc (.int Go.IntKind.i64 (0))), (.sc (.int Go.IntKind.i64 (0)))])])])])])], [(.ret (.sc (.int Go.IntKind.i64 (0))))]⟩
noncomputable def F1 : Abs.FTab := F0.memo [m1]
theorem c1 (w : World) : Abs.memOk (Abs.Env.of Tryz.prog w) F0 1000 m1 = true := by kernel_rfl
theorem o1 (w : World) : Abs.FOk (Abs.Env.of Tryz.prog w) F1 := Abs.FOk.memo rfl (o0 w) (c1 w)

/-- A call of function 58. -/
def m2 : Abs.Mem :=
  ⟨58, [(.agg [(.sc (.int Go.IntKind.i64 (0))), (.data 3 false [(.agg [(.sc (.int Go.IntKind.i64 (0))), (.data 4 false [(.agg [(.sc (.int Go.IntKind.i64 (1))), (.sc (.bool false)), (.sc (.bool false)), (.sc (.int Go.IntKind.i64 (2)))])]), (.sc (.int Go.IntKind.i64 (0)))]), (.agg [(.sc (.int Go.IntKind.i64 (0))), (.sc (.slice none 0 0)), (.sc (.int Go.IntKind.i64 (0)))])]), (.data 13 false [(.agg [(.sc (.int Go.IntKind.i64 (0))), (.sc (.int Go.IntKind.i64 (1))), (.data 4 false [(.agg [(.sc (.int Go.IntKind.i64 (1))), (.sc (.bool true)), (.sc (.bool false)), (.sc (.int Go.IntKind.i64 (1)))])]), (.sc (.int Go.IntKind.i64 (0))), (.sc (.string ⟨#[]⟩)), (.sc (.int Go.IntKind.i64 (0))), (.sc (.slice none 0 0)), (.sc (.int Go.IntKind.i64 (-1))), (.sc (.bool false)), (.sc (.slice none 0 0)), (.data 2 false [(.agg [(.sc (.int Go.IntKind.i64 (1))), (.sc (.int Go.IntKind.i64 (0)))])]), (.sc (.int Go.IntKind.i64 (0))), (.sc (.int Go.IntKind.i64 (0)))]), (.agg [(.sc (.int Go.IntKind.i64 (1))), (.sc (.int Go.IntKind.i64 (1))), (.data 4 false [(.agg [(.sc (.int Go.IntKind.i64 (1))), (.sc (.bool true)), (.sc (.bool true)), (.sc (.int Go.IntKind.i64 (3)))])]), (.sc (.int Go.IntKind.i64 (0))), (.sc (.string ⟨#[]⟩)), (.sc (.int Go.IntKind.i64 (0))), (.sc (.slice none 0 0)), (.sc (.int Go.IntKind.i64 (-1))), (.sc (.bool false)), (.sc (.slice none 0 0)), (.sc (.slice none 0 0)), (.sc (.int Go.IntKind.i64 (0))), (.sc (.int Go.IntKind.i64 (0)))])])]), (.sc (.int Go.IntKind.i64 (1)))], [(.ret (.tuple [(.data 1 false [(.data 1 false [(.sc (.int Go.IntKind.i64 (1)))]), (.data 1 false [(.sc (.int Go.IntKind.i64 (3)))])]), (.data 1 false [(.data 1 false [(.sc (.int Go.IntKind.i64 (2)))]), (.data 1 false [(.sc (.int Go.IntKind.i64 (-1)))])])]))]⟩
noncomputable def F2 : Abs.FTab := F1.memo [m2]
theorem c2 (w : World) : Abs.memOk (Abs.Env.of Tryz.prog w) F1 1000 m2 = true := by kernel_rfl
theorem o2 (w : World) : Abs.FOk (Abs.Env.of Tryz.prog w) F2 := Abs.FOk.memo rfl (o1 w) (c2 w)

/-- A call of function 18. -/
def m3 : Abs.Mem :=
  ⟨18, [(.agg [(.sc (.int Go.IntKind.i64 (1))), (.sc (.slice none 0 0)), (.sc (.slice none 0 0)), (.sc (.slice none 0 0)), (.data 3 false [(.agg [(.sc (.int Go.IntKind.i64 (0))), (.data 3 false [(.agg [(.sc (.int Go.IntKind.i64 (0))), (.data 4 false [(.agg [(.sc (.int Go.IntKind.i64 (1))), (.sc (.bool false)), (.sc (.bool false)), (.sc (.int Go.IntKind.i64 (2)))])]), (.sc (.int Go.IntKind.i64 (0)))]), (.agg [(.sc (.int Go.IntKind.i64 (0))), (.sc (.slice none 0 0)), (.sc (.int Go.IntKind.i64 (0)))])]), (.data 13 false [(.agg [(.sc (.int Go.IntKind.i64 (0))), (.sc (.int Go.IntKind.i64 (1))), (.data 4 false [(.agg [(.sc (.int Go.IntKind.i64 (1))), (.sc (.bool true)), (.sc (.bool false)), (.sc (.int Go.IntKind.i64 (1)))])]), (.sc (.int Go.IntKind.i64 (0))), (.sc (.string ⟨#[]⟩)), (.sc (.int Go.IntKind.i64 (0))), (.sc (.slice none 0 0)), (.sc (.int Go.IntKind.i64 (-1))), (.sc (.bool false)), (.sc (.slice none 0 0)), (.data 2 false [(.agg [(.sc (.int Go.IntKind.i64 (1))), (.sc (.int Go.IntKind.i64 (0)))])]), (.sc (.int Go.IntKind.i64 (0))), (.sc (.int Go.IntKind.i64 (0)))]), (.agg [(.sc (.int Go.IntKind.i64 (1))), (.sc (.int Go.IntKind.i64 (1))), (.data 4 false [(.agg [(.sc (.int Go.IntKind.i64 (1))), (.sc (.bool true)), (.sc (.bool true)), (.sc (.int Go.IntKind.i64 (3)))])]), (.sc (.int Go.IntKind.i64 (0))), (.sc (.string ⟨#[]⟩)), (.sc (.int Go.IntKind.i64 (0))), (.sc (.slice none 0 0)), (.sc (.int Go.IntKind.i64 (-1))), (.sc (.bool false)), (.sc (.slice none 0 0)), (.sc (.slice none 0 0)), (.sc (.int Go.IntKind.i64 (0))), (.sc (.int Go.IntKind.i64 (0)))])])])])]), (.agg [(.data 1 false [(.sc (.int Go.IntKind.i64 (0)))]), (.sc (.slice none 0 0))]), (.sc (.slice none 0 0))], [(.ret (.tuple [(.data 1 false [(.sc (.int Go.IntKind.i64 (2)))]), (.sc (.int Go.IntKind.i64 (0)))]))]⟩
noncomputable def F3 : Abs.FTab := F2.memo [m3]
theorem c3 (w : World) : Abs.memOk (Abs.Env.of Tryz.prog w) F2 1000 m3 = true := by kernel_rfl
theorem o3 (w : World) : Abs.FOk (Abs.Env.of Tryz.prog w) F3 := Abs.FOk.memo rfl (o2 w) (c3 w)

/-- A call of function 52. -/
def m4 : Abs.Mem :=
  ⟨52, [(.sc (.int Go.IntKind.i64 (1))), (.sc (.int Go.IntKind.i64 (1)))], [(.ret (.tuple [(.agg [(.sc (.int Go.IntKind.i64 (1))), (.data 1 false [(.sc (.int Go.IntKind.i64 (1))), (.sc (.int Go.IntKind.i64 (1))), (.sc (.int Go.IntKind.i64 (1))), (.sc (.int Go.IntKind.i64 (1)))])]), (.sc (.int Go.IntKind.i64 (0)))]))]⟩
noncomputable def F4 : Abs.FTab := F3.memo [m4]
theorem c4 (w : World) : Abs.memOk (Abs.Env.of Tryz.prog w) F3 1000 m4 = true := by kernel_rfl
theorem o4 (w : World) : Abs.FOk (Abs.Env.of Tryz.prog w) F4 := Abs.FOk.memo rfl (o3 w) (c4 w)

/-- A call of function 59. -/
def m5 : Abs.Mem :=
  ⟨59, [(.agg [(.sc (.int Go.IntKind.i64 (1))), (.data 1 false [(.sc (.int Go.IntKind.i64 (1))), (.sc (.int Go.IntKind.i64 (1))), (.sc (.int Go.IntKind.i64 (1))), (.sc (.int Go.IntKind.i64 (1)))])])], [(.ret (.sc (.int Go.IntKind.i64 (0))))]⟩
noncomputable def F5 : Abs.FTab := F4.memo [m5]
theorem c5 (w : World) : Abs.memOk (Abs.Env.of Tryz.prog w) F4 1000 m5 = true := by kernel_rfl
theorem o5 (w : World) : Abs.FOk (Abs.Env.of Tryz.prog w) F5 := Abs.FOk.memo rfl (o4 w) (c5 w)

/-- A call of function 70. -/
def m6 : Abs.Mem :=
  ⟨70, [(.agg [(.sc (.int Go.IntKind.i64 (1))), (.data 1 false [(.sc (.int Go.IntKind.i64 (1))), (.sc (.int Go.IntKind.i64 (1))), (.sc (.int Go.IntKind.i64 (1))), (.sc (.int Go.IntKind.i64 (1)))])]), (.sc (.bool true)), (.func (.func 97) [] [])], [(.ret (.tuple [(.agg [(.sc (.int Go.IntKind.i64 (1))), (.data 1 false [(.sc (.int Go.IntKind.i64 (1))), (.sc (.int Go.IntKind.i64 (1))), (.sc (.int Go.IntKind.i64 (1099511627776))), (.sc (.int Go.IntKind.i64 (1)))])]), (.sc (.int Go.IntKind.i64 (0)))]))]⟩
noncomputable def F6 : Abs.FTab := F5.memo [m6]
theorem c6 (w : World) : Abs.memOk (Abs.Env.of Tryz.prog w) F5 1000 m6 = true := by kernel_rfl
theorem o6 (w : World) : Abs.FOk (Abs.Env.of Tryz.prog w) F6 := Abs.FOk.memo rfl (o5 w) (c6 w)

/-- A call of function 59. -/
def m7 : Abs.Mem :=
  ⟨59, [(.agg [(.sc (.int Go.IntKind.i64 (1))), (.data 1 false [(.sc (.int Go.IntKind.i64 (1))), (.sc (.int Go.IntKind.i64 (1))), (.sc (.int Go.IntKind.i64 (1099511627776))), (.sc (.int Go.IntKind.i64 (1)))])])], [(.ret (.sc (.int Go.IntKind.i64 (0))))]⟩
noncomputable def F7 : Abs.FTab := F6.memo [m7]
theorem c7 (w : World) : Abs.memOk (Abs.Env.of Tryz.prog w) F6 1000 m7 = true := by kernel_rfl
theorem o7 (w : World) : Abs.FOk (Abs.Env.of Tryz.prog w) F7 := Abs.FOk.memo rfl (o6 w) (c7 w)

/-- A call of function 26. -/
def m8 : Abs.Mem :=
  ⟨26, [(.agg [(.sc (.int Go.IntKind.i64 (1))), (.data 1 false [(.sc (.int Go.IntKind.i64 (1))), (.sc (.int Go.IntKind.i64 (1))), (.sc (.int Go.IntKind.i64 (1099511627776))), (.sc (.int Go.IntKind.i64 (1)))])]), (.data 3 false [(.agg [(.sc (.int Go.IntKind.i64 (1))), (.sc (.int Go.IntKind.i64 (0))), (.sc (.int Go.IntKind.i64 (5)))])])], [(.ret (.tuple [(.agg [(.sc (.int Go.IntKind.i64 (1))), (.data 1 false [(.sc (.int Go.IntKind.i64 (1))), (.sc (.int Go.IntKind.i64 (1))), (.sc (.int Go.IntKind.i64 (5))), (.sc (.int Go.IntKind.i64 (1)))])]), (.sc (.int Go.IntKind.i64 (0)))]))]⟩
noncomputable def F8 : Abs.FTab := F7.memo [m8]
theorem c8 (w : World) : Abs.memOk (Abs.Env.of Tryz.prog w) F7 1000 m8 = true := by kernel_rfl
theorem o8 (w : World) : Abs.FOk (Abs.Env.of Tryz.prog w) F8 := Abs.FOk.memo rfl (o7 w) (c8 w)

/-- A call of function 53. -/
def m9 : Abs.Mem :=
  ⟨53, [(.agg [(.sc (.int Go.IntKind.i64 (1))), (.data 1 false [(.sc (.int Go.IntKind.i64 (1))), (.sc (.int Go.IntKind.i64 (1))), (.sc (.int Go.IntKind.i64 (1))), (.sc (.int Go.IntKind.i64 (1)))])]), (.iptr [(.sc (.int Go.IntKind.i64 (1))), (.sc (.slice none 0 0)), (.sc (.slice none 0 0)), (.sc (.slice none 0 0)), (.data 3 false [(.agg [(.sc (.int Go.IntKind.i64 (0))), (.data 3 false [(.agg [(.sc (.int Go.IntKind.i64 (0))), (.data 4 false [(.agg [(.sc (.int Go.IntKind.i64 (1))), (.sc (.bool false)), (.sc (.bool false)), (.sc (.int Go.IntKind.i64 (2)))])]), (.sc (.int Go.IntKind.i64 (0)))]), (.agg [(.sc (.int Go.IntKind.i64 (0))), (.sc (.slice none 0 0)), (.sc (.int Go.IntKind.i64 (0)))])]), (.data 13 false [(.agg [(.sc (.int Go.IntKind.i64 (0))), (.sc (.int Go.IntKind.i64 (1))), (.data 4 false [(.agg [(.sc (.int Go.IntKind.i64 (1))), (.sc (.bool true)), (.sc (.bool false)), (.sc (.int Go.IntKind.i64 (1)))])]), (.sc (.int Go.IntKind.i64 (0))), (.sc (.string ⟨#[]⟩)), (.sc (.int Go.IntKind.i64 (0))), (.sc (.slice none 0 0)), (.sc (.int Go.IntKind.i64 (-1))), (.sc (.bool false)), (.sc (.slice none 0 0)), (.data 2 false [(.agg [(.sc (.int Go.IntKind.i64 (1))), (.sc (.int Go.IntKind.i64 (0)))])]), (.sc (.int Go.IntKind.i64 (0))), (.sc (.int Go.IntKind.i64 (0)))]), (.agg [(.sc (.int Go.IntKind.i64 (1))), (.sc (.int Go.IntKind.i64 (1))), (.data 4 false [(.agg [(.sc (.int Go.IntKind.i64 (1))), (.sc (.bool true)), (.sc (.bool true)), (.sc (.int Go.IntKind.i64 (3)))])]), (.sc (.int Go.IntKind.i64 (0))), (.sc (.string ⟨#[]⟩)), (.sc (.int Go.IntKind.i64 (0))), (.sc (.slice none 0 0)), (.sc (.int Go.IntKind.i64 (-1))), (.sc (.bool false)), (.sc (.slice none 0 0)), (.sc (.slice none 0 0)), (.sc (.int Go.IntKind.i64 (0))), (.sc (.int Go.IntKind.i64 (0)))])])])])]), (.iptr [(.data 1 false [(.sc (.int Go.IntKind.i64 (0)))]), (.sc (.slice none 0 0))])], [(.ret (.tuple [(.agg [(.sc (.int Go.IntKind.i64 (1))), (.data 1 false [(.sc (.int Go.IntKind.i64 (1))), (.sc (.int Go.IntKind.i64 (1))), (.sc (.int Go.IntKind.i64 (5))), (.sc (.int Go.IntKind.i64 (1)))])]), (.sc (.int Go.IntKind.i64 (0)))]))]⟩
noncomputable def F9 : Abs.FTab := F8.memo [m9]
theorem c9 (w : World) : Abs.memOk (Abs.Env.of Tryz.prog w) F8 1000 m9 = true := by kernel_rfl
theorem o9 (w : World) : Abs.FOk (Abs.Env.of Tryz.prog w) F9 := Abs.FOk.memo rfl (o8 w) (c9 w)

/-- A call of function 11. -/
def m10 : Abs.Mem :=
  ⟨11, [(.agg [(.sc (.int Go.IntKind.i64 (1))), (.sc (.slice none 0 0)), (.sc (.slice none 0 0)), (.sc (.slice none 0 0)), (.data 3 false [(.agg [(.sc (.int Go.IntKind.i64 (0))), (.data 3 false [(.agg [(.sc (.int Go.IntKind.i64 (0))), (.data 4 false [(.agg [(.sc (.int Go.IntKind.i64 (1))), (.sc (.bool false)), (.sc (.bool false)), (.sc (.int Go.IntKind.i64 (2)))])]), (.sc (.int Go.IntKind.i64 (0)))]), (.agg [(.sc (.int Go.IntKind.i64 (0))), (.sc (.slice none 0 0)), (.sc (.int Go.IntKind.i64 (0)))])]), (.data 13 false [(.agg [(.sc (.int Go.IntKind.i64 (0))), (.sc (.int Go.IntKind.i64 (1))), (.data 4 false [(.agg [(.sc (.int Go.IntKind.i64 (1))), (.sc (.bool true)), (.sc (.bool false)), (.sc (.int Go.IntKind.i64 (1)))])]), (.sc (.int Go.IntKind.i64 (0))), (.sc (.string ⟨#[]⟩)), (.sc (.int Go.IntKind.i64 (0))), (.sc (.slice none 0 0)), (.sc (.int Go.IntKind.i64 (-1))), (.sc (.bool false)), (.sc (.slice none 0 0)), (.data 2 false [(.agg [(.sc (.int Go.IntKind.i64 (1))), (.sc (.int Go.IntKind.i64 (0)))])]), (.sc (.int Go.IntKind.i64 (0))), (.sc (.int Go.IntKind.i64 (0)))]), (.agg [(.sc (.int Go.IntKind.i64 (1))), (.sc (.int Go.IntKind.i64 (1))), (.data 4 false [(.agg [(.sc (.int Go.IntKind.i64 (1))), (.sc (.bool true)), (.sc (.bool true)), (.sc (.int Go.IntKind.i64 (3)))])]), (.sc (.int Go.IntKind.i64 (0))), (.sc (.string ⟨#[]⟩)), (.sc (.int Go.IntKind.i64 (0))), (.sc (.slice none 0 0)), (.sc (.int Go.IntKind.i64 (-1))), (.sc (.bool false)), (.sc (.slice none 0 0)), (.sc (.slice none 0 0)), (.sc (.int Go.IntKind.i64 (0))), (.sc (.int Go.IntKind.i64 (0)))])])])])]), (.agg [(.sc (.int Go.IntKind.i64 (1))), (.sc (.bool false)), (.sc (.slice none 0 0)), (.sc (.int Go.IntKind.i64 (10)))]), (.agg [(.data 1 false [(.sc (.int Go.IntKind.i64 (0)))]), (.sc (.slice none 0 0)), (.sc (.int Go.IntKind.i64 (1))), (.data 1 false [(.sc (.int Go.IntKind.i64 (1))), (.sc (.int Go.IntKind.i64 (1))), (.sc (.int Go.IntKind.i64 (5))), (.sc (.int Go.IntKind.i64 (1)))])])], [(.ret (.tuple [(.agg [(.data 1 false [(.sc (.int Go.IntKind.i64 (0)))]), (.data 1 true []), (.sc (.int Go.IntKind.i64 (1))), (.data 1 false [(.sc (.int Go.IntKind.i64 (1))), (.sc (.int Go.IntKind.i64 (1))), (.sc (.int Go.IntKind.i64 (5))), (.sc (.int Go.IntKind.i64 (1)))])]), (.sc (.int Go.IntKind.i64 (0)))]))]⟩
noncomputable def F10 : Abs.FTab := F9.memo [m10]
theorem c10 (w : World) : Abs.memOk (Abs.Env.of Tryz.prog w) F9 1000 m10 = true := by kernel_rfl
theorem o10 (w : World) : Abs.FOk (Abs.Env.of Tryz.prog w) F10 := Abs.FOk.memo rfl (o9 w) (c10 w)

/-- A call of function 72. -/
def m11 : Abs.Mem :=
  ⟨72, [(.iptr [(.sc (.int Go.IntKind.i64 (1))), (.sc (.slice none 0 0)), (.sc (.slice none 0 0)), (.sc (.slice none 0 0)), (.data 3 false [(.agg [(.sc (.int Go.IntKind.i64 (0))), (.data 3 false [(.agg [(.sc (.int Go.IntKind.i64 (0))), (.data 4 false [(.agg [(.sc (.int Go.IntKind.i64 (1))), (.sc (.bool false)), (.sc (.bool false)), (.sc (.int Go.IntKind.i64 (2)))])]), (.sc (.int Go.IntKind.i64 (0)))]), (.agg [(.sc (.int Go.IntKind.i64 (0))), (.sc (.slice none 0 0)), (.sc (.int Go.IntKind.i64 (0)))])]), (.data 13 false [(.agg [(.sc (.int Go.IntKind.i64 (0))), (.sc (.int Go.IntKind.i64 (1))), (.data 4 false [(.agg [(.sc (.int Go.IntKind.i64 (1))), (.sc (.bool true)), (.sc (.bool false)), (.sc (.int Go.IntKind.i64 (1)))])]), (.sc (.int Go.IntKind.i64 (0))), (.sc (.string ⟨#[]⟩)), (.sc (.int Go.IntKind.i64 (0))), (.sc (.slice none 0 0)), (.sc (.int Go.IntKind.i64 (-1))), (.sc (.bool false)), (.sc (.slice none 0 0)), (.data 2 false [(.agg [(.sc (.int Go.IntKind.i64 (1))), (.sc (.int Go.IntKind.i64 (0)))])]), (.sc (.int Go.IntKind.i64 (0))), (.sc (.int Go.IntKind.i64 (0)))]), (.agg [(.sc (.int Go.IntKind.i64 (1))), (.sc (.int Go.IntKind.i64 (1))), (.data 4 false [(.agg [(.sc (.int Go.IntKind.i64 (1))), (.sc (.bool true)), (.sc (.bool true)), (.sc (.int Go.IntKind.i64 (3)))])]), (.sc (.int Go.IntKind.i64 (0))), (.sc (.string ⟨#[]⟩)), (.sc (.int Go.IntKind.i64 (0))), (.sc (.slice none 0 0)), (.sc (.int Go.IntKind.i64 (-1))), (.sc (.bool false)), (.sc (.slice none 0 0)), (.sc (.slice none 0 0)), (.sc (.int Go.IntKind.i64 (0))), (.sc (.int Go.IntKind.i64 (0)))])])])]), (.sc (.slice none 0 0))]), (.agg [(.data 1 false [(.sc (.int Go.IntKind.i64 (0)))]), (.data 1 true [])])], [(.ret (.tuple [(.data 7 false [(.agg [(.data 2 false [(.agg [(.sc (.int Go.IntKind.i64 (0))), (.sc (.int Go.IntKind.i64 (0)))])]), (.data 1 false [(.sc (.int Go.IntKind.i64 (1)))]), (.data 1 false []), (.data 4 false [(.agg [(.sc (.int Go.IntKind.i64 (1))), (.sc (.bool true)), (.sc (.bool false)), (.sc (.int Go.IntKind.i64 (1)))])]), (.data 2 false [(.agg [(.sc (.int Go.IntKind.i64 (1))), (.sc (.int Go.IntKind.i64 (0)))])]), (.sc (.int Go.IntKind.i64 (0))), (.sc (.int Go.IntKind.i64 (0)))])]), (.sc (.int Go.IntKind.i64 (0)))]))]⟩
noncomputable def F11 : Abs.FTab := F10.memo [m11]
theorem c11 (w : World) : Abs.memOk (Abs.Env.of Tryz.prog w) F10 1000 m11 = true := by kernel_rfl
theorem o11 (w : World) : Abs.FOk (Abs.Env.of Tryz.prog w) F11 := Abs.FOk.memo rfl (o10 w) (c11 w)

/-- A call of function 59. -/
def m12 : Abs.Mem :=
  ⟨59, [(.agg [(.sc (.int Go.IntKind.i64 (1))), (.data 1 false [(.sc (.int Go.IntKind.i64 (1))), (.sc (.int Go.IntKind.i64 (1))), (.sc (.int Go.IntKind.i64 (5))), (.sc (.int Go.IntKind.i64 (1)))])])], [(.ret (.sc (.int Go.IntKind.i64 (0))))]⟩
noncomputable def F12 : Abs.FTab := F11.memo [m12]
theorem c12 (w : World) : Abs.memOk (Abs.Env.of Tryz.prog w) F11 1000 m12 = true := by kernel_rfl
theorem o12 (w : World) : Abs.FOk (Abs.Env.of Tryz.prog w) F12 := Abs.FOk.memo rfl (o11 w) (c12 w)

/-- A call of function 26. -/
def m13 : Abs.Mem :=
  ⟨26, [(.agg [(.sc (.int Go.IntKind.i64 (1))), (.data 1 false [(.sc (.int Go.IntKind.i64 (1))), (.sc (.int Go.IntKind.i64 (1))), (.sc (.int Go.IntKind.i64 (5))), (.sc (.int Go.IntKind.i64 (1)))])]), (.data 3 false [(.agg [(.sc (.int Go.IntKind.i64 (1))), (.sc (.int Go.IntKind.i64 (0))), (.sc (.int Go.IntKind.i64 (5)))])])], [(.ret (.tuple [(.agg [(.sc (.int Go.IntKind.i64 (1))), (.data 1 false [(.sc (.int Go.IntKind.i64 (1))), (.sc (.int Go.IntKind.i64 (1))), (.sc (.int Go.IntKind.i64 (5))), (.sc (.int Go.IntKind.i64 (1)))])]), (.sc (.int Go.IntKind.i64 (0)))]))]⟩
noncomputable def F13 : Abs.FTab := F12.memo [m13]
theorem c13 (w : World) : Abs.memOk (Abs.Env.of Tryz.prog w) F12 1000 m13 = true := by kernel_rfl
theorem o13 (w : World) : Abs.FOk (Abs.Env.of Tryz.prog w) F13 := Abs.FOk.memo rfl (o12 w) (c13 w)

/-- A call of function 30. -/
def m14 : Abs.Mem :=
  ⟨30, [(.agg [(.sc (.int Go.IntKind.i64 (1))), (.sc (.slice none 0 0)), (.sc (.slice none 0 0)), (.sc (.slice none 0 0)), (.data 3 false [(.agg [(.sc (.int Go.IntKind.i64 (0))), (.data 3 false [(.agg [(.sc (.int Go.IntKind.i64 (0))), (.data 4 false [(.agg [(.sc (.int Go.IntKind.i64 (1))), (.sc (.bool false)), (.sc (.bool false)), (.sc (.int Go.IntKind.i64 (2)))])]), (.sc (.int Go.IntKind.i64 (0)))]), (.agg [(.sc (.int Go.IntKind.i64 (0))), (.sc (.slice none 0 0)), (.sc (.int Go.IntKind.i64 (0)))])]), (.data 13 false [(.agg [(.sc (.int Go.IntKind.i64 (0))), (.sc (.int Go.IntKind.i64 (1))), (.data 4 false [(.agg [(.sc (.int Go.IntKind.i64 (1))), (.sc (.bool true)), (.sc (.bool false)), (.sc (.int Go.IntKind.i64 (1)))])]), (.sc (.int Go.IntKind.i64 (0))), (.sc (.string ⟨#[]⟩)), (.sc (.int Go.IntKind.i64 (0))), (.sc (.slice none 0 0)), (.sc (.int Go.IntKind.i64 (-1))), (.sc (.bool false)), (.sc (.slice none 0 0)), (.data 2 false [(.agg [(.sc (.int Go.IntKind.i64 (1))), (.sc (.int Go.IntKind.i64 (0)))])]), (.sc (.int Go.IntKind.i64 (0))), (.sc (.int Go.IntKind.i64 (0)))]), (.agg [(.sc (.int Go.IntKind.i64 (1))), (.sc (.int Go.IntKind.i64 (1))), (.data 4 false [(.agg [(.sc (.int Go.IntKind.i64 (1))), (.sc (.bool true)), (.sc (.bool true)), (.sc (.int Go.IntKind.i64 (3)))])]), (.sc (.int Go.IntKind.i64 (0))), (.sc (.string ⟨#[]⟩)), (.sc (.int Go.IntKind.i64 (0))), (.sc (.slice none 0 0)), (.sc (.int Go.IntKind.i64 (-1))), (.sc (.bool false)), (.sc (.slice none 0 0)), (.sc (.slice none 0 0)), (.sc (.int Go.IntKind.i64 (0))), (.sc (.int Go.IntKind.i64 (0)))])])])])]), (.agg [(.data 1 false [(.sc (.int Go.IntKind.i64 (0)))]), (.data 1 true []), (.sc (.int Go.IntKind.i64 (1))), (.data 1 false [(.sc (.int Go.IntKind.i64 (1))), (.sc (.int Go.IntKind.i64 (1))), (.sc (.int Go.IntKind.i64 (5))), (.sc (.int Go.IntKind.i64 (1)))])])], [(.ret (.sc (.int Go.IntKind.i64 (0))))]⟩
noncomputable def F14 : Abs.FTab := F13.memo [m14]
theorem c14 (w : World) : Abs.memOk (Abs.Env.of Tryz.prog w) F13 1000 m14 = true := by kernel_rfl
theorem o14 (w : World) : Abs.FOk (Abs.Env.of Tryz.prog w) F14 := Abs.FOk.memo rfl (o13 w) (c14 w)

end Go.Proofs.YtjoeogkdhafhdaaGreat.explorePaths
