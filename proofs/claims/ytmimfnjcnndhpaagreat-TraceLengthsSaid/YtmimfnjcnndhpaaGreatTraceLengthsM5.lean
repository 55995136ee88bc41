/-
  Runs of functions that the law TraceLengths makes, computed by the executor of the abstract layer: part 5. Each is a fact about one call; the statement is proved in the last text.
-/
import Derived.Test.YtmimfnjcnndhpaaGreatTraceLengthsM4
import Derived.KernelRfl
namespace Go.Proofs.YtmimfnjcnndhpaaGreat.traceLengths
open Go
/-- A call of function 67. -/
def m95 : Abs.Mem :=
  ⟨67, [(.agg [(.sc (.int Go.IntKind.i64 (2))), (.data 1 false [(.sc (.int Go.IntKind.i64 (1))), (.sc (.int Go.IntKind.i64 (1))), (.sc (.int Go.IntKind.i64 (1))), (.sc (.int Go.IntKind.i64 (5))), (.sc (.int Go.IntKind.i64 (1))), (.sc (.int Go.IntKind.i64 (1))), (.sc (.int Go.IntKind.i64 (5))), (.sc (.int Go.IntKind.i64 (1))), (.sc (.int Go.IntKind.i64 (1)))])]), (.data 3 false [(.agg [(.sc (.int Go.IntKind.i64 (0))), (.sc (.int Go.IntKind.i64 (1))), (.sc (.int Go.IntKind.i64 (-1)))])])], [(.ret (.tuple [(.agg [(.sc (.int Go.IntKind.i64 (2))), (.data 1 false [(.sc (.int Go.IntKind.i64 (1))), (.sc (.int Go.IntKind.i64 (-1))), (.sc (.int Go.IntKind.i64 (-1))), (.sc (.int Go.IntKind.i64 (5))), (.sc (.int Go.IntKind.i64 (1))), (.sc (.int Go.IntKind.i64 (1))), (.sc (.int Go.IntKind.i64 (5))), (.sc (.int Go.IntKind.i64 (1))), (.sc (.int Go.IntKind.i64 (1)))])]), (.sc (.int Go.IntKind.i64 (0)))]))]⟩
noncomputable def F95 : Abs.FTab := F94.memo [m95]
theorem c95 (w : World) : Abs.memOk (Abs.Env.of Tryz.prog w) F94 1000 m95 = true := by kernel_rfl
theorem o95 (w : World) : Abs.FOk (Abs.Env.of Tryz.prog w) F95 := Abs.FOk.memo rfl (o94 w) (c95 w)

/-- A call of function 211. -/
def m96 : Abs.Mem :=
  ⟨211, [(.sc (.int Go.IntKind.i64 (2))), (.data 1 false [(.sc (.int Go.IntKind.i64 (1))), (.sc (.int Go.IntKind.i64 (-1))), (.sc (.int Go.IntKind.i64 (-1))), (.sc (.int Go.IntKind.i64 (5))), (.sc (.int Go.IntKind.i64 (1))), (.sc (.int Go.IntKind.i64 (1))), (.sc (.int Go.IntKind.i64 (5))), (.sc (.int Go.IntKind.i64 (1))), (.sc (.int Go.IntKind.i64 (1)))])], [(.ret (.sc (.bool true)))]⟩
noncomputable def F96 : Abs.FTab := F95.memo [m96]
theorem c96 (w : World) : Abs.memOk (Abs.Env.of Tryz.prog w) F95 1000 m96 = true := by kernel_rfl
theorem o96 (w : World) : Abs.FOk (Abs.Env.of Tryz.prog w) F96 := Abs.FOk.memo rfl (o95 w) (c96 w)

/-- A call of function 131. -/
def m97 : Abs.Mem :=
  ⟨131, [(.agg [(.sc (.int Go.IntKind.i64 (2))), (.data 1 false [(.sc (.int Go.IntKind.i64 (1))), (.sc (.int Go.IntKind.i64 (-1))), (.sc (.int Go.IntKind.i64 (-1))), (.sc (.int Go.IntKind.i64 (5))), (.sc (.int Go.IntKind.i64 (1))), (.sc (.int Go.IntKind.i64 (1))), (.sc (.int Go.IntKind.i64 (5))), (.sc (.int Go.IntKind.i64 (1))), (.sc (.int Go.IntKind.i64 (1)))])])], [(.ret (.sc (.int Go.IntKind.i64 (0))))]⟩
noncomputable def F97 : Abs.FTab := F96.memo [m97]
theorem c97 (w : World) : Abs.memOk (Abs.Env.of Tryz.prog w) F96 1000 m97 = true := by kernel_rfl
theorem o97 (w : World) : Abs.FOk (Abs.Env.of Tryz.prog w) F97 := Abs.FOk.memo rfl (o96 w) (c97 w)

/-- A call of function 130. -/
def m98 : Abs.Mem :=
  ⟨130, [(.agg [(.sc (.int Go.IntKind.i64 (2))), (.data 1 false [(.sc (.int Go.IntKind.i64 (1))), (.sc (.int Go.IntKind.i64 (-1))), (.sc (.int Go.IntKind.i64 (-1))), (.sc (.int Go.IntKind.i64 (5))), (.sc (.int Go.IntKind.i64 (1))), (.sc (.int Go.IntKind.i64 (1))), (.sc (.int Go.IntKind.i64 (5))), (.sc (.int Go.IntKind.i64 (1))), (.sc (.int Go.IntKind.i64 (1)))])]), (.sc (.int Go.IntKind.i64 (1))), (.sc (.int Go.IntKind.i64 (0)))], [(.ret (.tuple [(.agg [(.sc (.int Go.IntKind.i64 (2))), (.data 1 false [(.sc (.int Go.IntKind.i64 (1))), (.sc (.int Go.IntKind.i64 (1))), (.sc (.int Go.IntKind.i64 (-1))), (.sc (.int Go.IntKind.i64 (1))), (.sc (.int Go.IntKind.i64 (1))), (.sc (.int Go.IntKind.i64 (-1))), (.sc (.int Go.IntKind.i64 (5))), (.sc (.int Go.IntKind.i64 (5))), (.sc (.int Go.IntKind.i64 (1)))])]), (.sc (.int Go.IntKind.i64 (0)))]))]⟩
noncomputable def F98 : Abs.FTab := F97.memo [m98]
theorem c98 (w : World) : Abs.memOk (Abs.Env.of Tryz.prog w) F97 1000 m98 = true := by kernel_rfl
theorem o98 (w : World) : Abs.FOk (Abs.Env.of Tryz.prog w) F98 := Abs.FOk.memo rfl (o97 w) (c98 w)

/-- A call of function 211. -/
def m99 : Abs.Mem :=
  ⟨211, [(.sc (.int Go.IntKind.i64 (2))), (.data 1 false [(.sc (.int Go.IntKind.i64 (1))), (.sc (.int Go.IntKind.i64 (1))), (.sc (.int Go.IntKind.i64 (-1))), (.sc (.int Go.IntKind.i64 (1))), (.sc (.int Go.IntKind.i64 (1))), (.sc (.int Go.IntKind.i64 (-1))), (.sc (.int Go.IntKind.i64 (5))), (.sc (.int Go.IntKind.i64 (5))), (.sc (.int Go.IntKind.i64 (1)))])], [(.ret (.sc (.bool true)))]⟩
noncomputable def F99 : Abs.FTab := F98.memo [m99]
theorem c99 (w : World) : Abs.memOk (Abs.Env.of Tryz.prog w) F98 1000 m99 = true := by kernel_rfl
theorem o99 (w : World) : Abs.FOk (Abs.Env.of Tryz.prog w) F99 := Abs.FOk.memo rfl (o98 w) (c99 w)

/-- A call of function 131. -/
def m100 : Abs.Mem :=
  ⟨131, [(.agg [(.sc (.int Go.IntKind.i64 (2))), (.data 1 false [(.sc (.int Go.IntKind.i64 (1))), (.sc (.int Go.IntKind.i64 (1))), (.sc (.int Go.IntKind.i64 (-1))), (.sc (.int Go.IntKind.i64 (1))), (.sc (.int Go.IntKind.i64 (1))), (.sc (.int Go.IntKind.i64 (-1))), (.sc (.int Go.IntKind.i64 (5))), (.sc (.int Go.IntKind.i64 (5))), (.sc (.int Go.IntKind.i64 (1)))])])], [(.ret (.sc (.int Go.IntKind.i64 (0))))]⟩
noncomputable def F100 : Abs.FTab := F99.memo [m100]
theorem c100 (w : World) : Abs.memOk (Abs.Env.of Tryz.prog w) F99 1000 m100 = true := by kernel_rfl
theorem o100 (w : World) : Abs.FOk (Abs.Env.of Tryz.prog w) F100 := Abs.FOk.memo rfl (o99 w) (c100 w)

/-- A call of function 67. -/
def m101 : Abs.Mem :=
  ⟨67, [(.agg [(.sc (.int Go.IntKind.i64 (2))), (.data 1 false [(.sc (.int Go.IntKind.i64 (1))), (.sc (.int Go.IntKind.i64 (1))), (.sc (.int Go.IntKind.i64 (-1))), (.sc (.int Go.IntKind.i64 (1))), (.sc (.int Go.IntKind.i64 (1))), (.sc (.int Go.IntKind.i64 (-1))), (.sc (.int Go.IntKind.i64 (5))), (.sc (.int Go.IntKind.i64 (5))), (.sc (.int Go.IntKind.i64 (1)))])]), (.sc (.slice none 0 0))], [(.ret (.tuple [(.agg [(.sc (.int Go.IntKind.i64 (2))), (.data 1 false [(.sc (.int Go.IntKind.i64 (1))), (.sc (.int Go.IntKind.i64 (1))), (.sc (.int Go.IntKind.i64 (-1))), (.sc (.int Go.IntKind.i64 (1))), (.sc (.int Go.IntKind.i64 (1))), (.sc (.int Go.IntKind.i64 (-1))), (.sc (.int Go.IntKind.i64 (5))), (.sc (.int Go.IntKind.i64 (5))), (.sc (.int Go.IntKind.i64 (1)))])]), (.sc (.int Go.IntKind.i64 (0)))]))]⟩
noncomputable def F101 : Abs.FTab := F100.memo [m101]
theorem c101 (w : World) : Abs.memOk (Abs.Env.of Tryz.prog w) F100 1000 m101 = true := by kernel_rfl
theorem o101 (w : World) : Abs.FOk (Abs.Env.of Tryz.prog w) F101 := Abs.FOk.memo rfl (o100 w) (c101 w)

/-- A call of function 59. -/
def m102 : Abs.Mem :=
  ⟨59, [(.iptr [(.sc (.int Go.IntKind.i64 (2))), (.sc (.slice none 0 0)), (.sc (.slice none 0 0)), (.sc (.slice none 0 0)), (.data 3 false [(.agg [(.sc (.int Go.IntKind.i64 (0))), (.data 3 false [(.agg [(.sc (.int Go.IntKind.i64 (0))), (.data 4 false [(.agg [(.sc (.int Go.IntKind.i64 (1))), (.sc (.bool false)), (.sc (.bool false)), (.sc (.int Go.IntKind.i64 (2)))])]), (.sc (.int Go.IntKind.i64 (0)))]), (.agg [(.sc (.int Go.IntKind.i64 (0))), (.sc (.slice none 0 0)), (.sc (.int Go.IntKind.i64 (0)))])]), (.data 13 false [(.agg [(.sc (.int Go.IntKind.i64 (0))), (.sc (.int Go.IntKind.i64 (1))), (.data 4 false [(.agg [(.sc (.int Go.IntKind.i64 (1))), (.sc (.bool true)), (.sc (.bool false)), (.sc (.int Go.IntKind.i64 (1)))])]), (.sc (.int Go.IntKind.i64 (0))), (.sc (.string ⟨#[]⟩)), (.sc (.int Go.IntKind.i64 (0))), (.sc (.slice none 0 0)), (.sc (.int Go.IntKind.i64 (-1))), (.sc (.bool false)), (.sc (.slice none 0 0)), (.data 2 false [(.agg [(.sc (.int Go.IntKind.i64 (1))), (.sc (.int Go.IntKind.i64 (0)))])]), (.sc (.int Go.IntKind.i64 (0))), (.sc (.int Go.IntKind.i64 (0)))]), (.agg [(.sc (.int Go.IntKind.i64 (1))), (.sc (.int Go.IntKind.i64 (1))), (.data 4 false [(.agg [(.sc (.int Go.IntKind.i64 (1))), (.sc (.bool true)), (.sc (.bool true)), (.sc (.int Go.IntKind.i64 (3)))])]), (.sc (.int Go.IntKind.i64 (0))), (.sc (.string ⟨#[]⟩)), (.sc (.int Go.IntKind.i64 (0))), (.sc (.slice none 0 0)), (.sc (.int Go.IntKind.i64 (-1))), (.sc (.bool false)), (.sc (.slice none 0 0)), (.sc (.slice none 0 0)), (.sc (.int Go.IntKind.i64 (0))), (.sc (.int Go.IntKind.i64 (0)))])])])]), (.sc (.slice none 0 0))]), (.agg [(.data 1 false [(.sc (.int Go.IntKind.i64 (1)))]), (.data 1 false [])])], [(.ret (.sc (.bool false)))]⟩
noncomputable def F102 : Abs.FTab := F101.memo [m102]
theorem c102 (w : World) : Abs.memOk (Abs.Env.of Tryz.prog w) F101 1000 m102 = true := by kernel_rfl
theorem o102 (w : World) : Abs.FOk (Abs.Env.of Tryz.prog w) F102 := Abs.FOk.memo rfl (o101 w) (c102 w)

/-- A call of function 133. -/
def m103 : Abs.Mem :=
  ⟨133, [(.agg [(.sc (.int Go.IntKind.i64 (2))), (.data 1 false [(.sc (.int Go.IntKind.i64 (1))), (.sc (.int Go.IntKind.i64 (1))), (.sc (.int Go.IntKind.i64 (-1))), (.sc (.int Go.IntKind.i64 (1))), (.sc (.int Go.IntKind.i64 (1))), (.sc (.int Go.IntKind.i64 (-1))), (.sc (.int Go.IntKind.i64 (5))), (.sc (.int Go.IntKind.i64 (5))), (.sc (.int Go.IntKind.i64 (1)))])]), (.sc (.bool true)), (.func (.func 199) [] [])], [(.ret (.tuple [(.agg [(.sc (.int Go.IntKind.i64 (2))), (.data 1 false [(.sc (.int Go.IntKind.i64 (1))), (.sc (.int Go.IntKind.i64 (1))), (.sc (.int Go.IntKind.i64 (-1))), (.sc (.int Go.IntKind.i64 (1099511627776))), (.sc (.int Go.IntKind.i64 (1))), (.sc (.int Go.IntKind.i64 (-1))), (.sc (.int Go.IntKind.i64 (1099511627776))), (.sc (.int Go.IntKind.i64 (5))), (.sc (.int Go.IntKind.i64 (1)))])]), (.sc (.int Go.IntKind.i64 (0)))]))]⟩
noncomputable def F103 : Abs.FTab := F102.memo [m103]
theorem c103 (w : World) : Abs.memOk (Abs.Env.of Tryz.prog w) F102 1000 m103 = true := by kernel_rfl
theorem o103 (w : World) : Abs.FOk (Abs.Env.of Tryz.prog w) F103 := Abs.FOk.memo rfl (o102 w) (c103 w)

/-- A call of function 211. -/
def m104 : Abs.Mem :=
  ⟨211, [(.sc (.int Go.IntKind.i64 (2))), (.data 1 false [(.sc (.int Go.IntKind.i64 (1))), (.sc (.int Go.IntKind.i64 (1))), (.sc (.int Go.IntKind.i64 (-1))), (.sc (.int Go.IntKind.i64 (1099511627776))), (.sc (.int Go.IntKind.i64 (1))), (.sc (.int Go.IntKind.i64 (-1))), (.sc (.int Go.IntKind.i64 (1099511627776))), (.sc (.int Go.IntKind.i64 (5))), (.sc (.int Go.IntKind.i64 (1)))])], [(.ret (.sc (.bool true)))]⟩
noncomputable def F104 : Abs.FTab := F103.memo [m104]
theorem c104 (w : World) : Abs.memOk (Abs.Env.of Tryz.prog w) F103 1000 m104 = true := by kernel_rfl
theorem o104 (w : World) : Abs.FOk (Abs.Env.of Tryz.prog w) F104 := Abs.FOk.memo rfl (o103 w) (c104 w)

/-- A call of function 131. -/
def m105 : Abs.Mem :=
  ⟨131, [(.agg [(.sc (.int Go.IntKind.i64 (2))), (.data 1 false [(.sc (.int Go.IntKind.i64 (1))), (.sc (.int Go.IntKind.i64 (1))), (.sc (.int Go.IntKind.i64 (-1))), (.sc (.int Go.IntKind.i64 (1099511627776))), (.sc (.int Go.IntKind.i64 (1))), (.sc (.int Go.IntKind.i64 (-1))), (.sc (.int Go.IntKind.i64 (1099511627776))), (.sc (.int Go.IntKind.i64 (5))), (.sc (.int Go.IntKind.i64 (1)))])])], [(.ret (.sc (.int Go.IntKind.i64 (0))))]⟩
noncomputable def F105 : Abs.FTab := F104.memo [m105]
theorem c105 (w : World) : Abs.memOk (Abs.Env.of Tryz.prog w) F104 1000 m105 = true := by kernel_rfl
theorem o105 (w : World) : Abs.FOk (Abs.Env.of Tryz.prog w) F105 := Abs.FOk.memo rfl (o104 w) (c105 w)

/-- A call of function 67. -/
def m106 : Abs.Mem :=
  ⟨67, [(.agg [(.sc (.int Go.IntKind.i64 (2))), (.data 1 false [(.sc (.int Go.IntKind.i64 (1))), (.sc (.int Go.IntKind.i64 (1))), (.sc (.int Go.IntKind.i64 (-1))), (.sc (.int Go.IntKind.i64 (1099511627776))), (.sc (.int Go.IntKind.i64 (1))), (.sc (.int Go.IntKind.i64 (-1))), (.sc (.int Go.IntKind.i64 (1099511627776))), (.sc (.int Go.IntKind.i64 (5))), (.sc (.int Go.IntKind.i64 (1)))])]), (.sc (.slice none 0 0))], [(.ret (.tuple [(.agg [(.sc (.int Go.IntKind.i64 (2))), (.data 1 false [(.sc (.int Go.IntKind.i64 (1))), (.sc (.int Go.IntKind.i64 (1))), (.sc (.int Go.IntKind.i64 (-1))), (.sc (.int Go.IntKind.i64 (1099511627776))), (.sc (.int Go.IntKind.i64 (1))), (.sc (.int Go.IntKind.i64 (-1))), (.sc (.int Go.IntKind.i64 (1099511627776))), (.sc (.int Go.IntKind.i64 (5))), (.sc (.int Go.IntKind.i64 (1)))])]), (.sc (.int Go.IntKind.i64 (0)))]))]⟩
noncomputable def F106 : Abs.FTab := F105.memo [m106]
theorem c106 (w : World) : Abs.memOk (Abs.Env.of Tryz.prog w) F105 1000 m106 = true := by kernel_rfl
theorem o106 (w : World) : Abs.FOk (Abs.Env.of Tryz.prog w) F106 := Abs.FOk.memo rfl (o105 w) (c106 w)

/-- A call of function 119. -/
def m107 : Abs.Mem :=
  ⟨119, [(.agg [(.sc (.int Go.IntKind.i64 (2))), (.data 1 false [(.sc (.int Go.IntKind.i64 (1))), (.sc (.int Go.IntKind.i64 (1))), (.sc (.int Go.IntKind.i64 (-1))), (.sc (.int Go.IntKind.i64 (1))), (.sc (.int Go.IntKind.i64 (1))), (.sc (.int Go.IntKind.i64 (-1))), (.sc (.int Go.IntKind.i64 (5))), (.sc (.int Go.IntKind.i64 (5))), (.sc (.int Go.IntKind.i64 (1)))])]), (.iptr [(.sc (.int Go.IntKind.i64 (2))), (.sc (.slice none 0 0)), (.sc (.slice none 0 0)), (.sc (.slice none 0 0)), (.data 3 false [(.agg [(.sc (.int Go.IntKind.i64 (0))), (.data 3 false [(.agg [(.sc (.int Go.IntKind.i64 (0))), (.data 4 false [(.agg [(.sc (.int Go.IntKind.i64 (1))), (.sc (.bool false)), (.sc (.bool false)), (.sc (.int Go.IntKind.i64 (2)))])]), (.sc (.int Go.IntKind.i64 (0)))]), (.agg [(.sc (.int Go.IntKind.i64 (0))), (.sc (.slice none 0 0)), (.sc (.int Go.IntKind.i64 (0)))])]), (.data 13 false [(.agg [(.sc (.int Go.IntKind.i64 (0))), (.sc (.int Go.IntKind.i64 (1))), (.data 4 false [(.agg [(.sc (.int Go.IntKind.i64 (1))), (.sc (.bool true)), (.sc (.bool false)), (.sc (.int Go.IntKind.i64 (1)))])]), (.sc (.int Go.IntKind.i64 (0))), (.sc (.string ⟨#[]⟩)), (.sc (.int Go.IntKind.i64 (0))), (.sc (.slice none 0 0)), (.sc (.int Go.IntKind.i64 (-1))), (.sc (.bool false)), (.sc (.slice none 0 0)), (.data 2 false [(.agg [(.sc (.int Go.IntKind.i64 (1))), (.sc (.int Go.IntKind.i64 (0)))])]), (.sc (.int Go.IntKind.i64 (0))), (.sc (.int Go.IntKind.i64 (0)))]), (.agg [(.sc (.int Go.IntKind.i64 (1))), (.sc (.int Go.IntKind.i64 (1))), (.data 4 false [(.agg [(.sc (.int Go.IntKind.i64 (1))), (.sc (.bool true)), (.sc (.bool true)), (.sc (.int Go.IntKind.i64 (3)))])]), (.sc (.int Go.IntKind.i64 (0))), (.sc (.string ⟨#[]⟩)), (.sc (.int Go.IntKind.i64 (0))), (.sc (.slice none 0 0)), (.sc (.int Go.IntKind.i64 (-1))), (.sc (.bool false)), (.sc (.slice none 0 0)), (.sc (.slice none 0 0)), (.sc (.int Go.IntKind.i64 (0))), (.sc (.int Go.IntKind.i64 (0)))])])])])]), (.iptr [(.data 1 false [(.sc (.int Go.IntKind.i64 (1)))]), (.data 1 false [])])], [(.ret (.tuple [(.agg [(.sc (.int Go.IntKind.i64 (2))), (.data 1 false [(.sc (.int Go.IntKind.i64 (1))), (.sc (.int Go.IntKind.i64 (1))), (.sc (.int Go.IntKind.i64 (-1))), (.sc (.int Go.IntKind.i64 (1099511627776))), (.sc (.int Go.IntKind.i64 (1))), (.sc (.int Go.IntKind.i64 (-1))), (.sc (.int Go.IntKind.i64 (1099511627776))), (.sc (.int Go.IntKind.i64 (5))), (.sc (.int Go.IntKind.i64 (1)))])]), (.sc (.int Go.IntKind.i64 (0)))]))]⟩
noncomputable def F107 : Abs.FTab := F106.memo [m107]
theorem c107 (w : World) : Abs.memOk (Abs.Env.of Tryz.prog w) F106 1000 m107 = true := by kernel_rfl
theorem o107 (w : World) : Abs.FOk (Abs.Env.of Tryz.prog w) F107 := Abs.FOk.memo rfl (o106 w) (c107 w)

/-- A call of function 55. -/
def m108 : Abs.Mem :=
  ⟨55, [(.agg [(.sc (.int Go.IntKind.i64 (2))), (.data 1 false [(.sc (.int Go.IntKind.i64 (1))), (.sc (.int Go.IntKind.i64 (1))), (.sc (.int Go.IntKind.i64 (1))), (.sc (.int Go.IntKind.i64 (5))), (.sc (.int Go.IntKind.i64 (1))), (.sc (.int Go.IntKind.i64 (1))), (.sc (.int Go.IntKind.i64 (5))), (.sc (.int Go.IntKind.i64 (1))), (.sc (.int Go.IntKind.i64 (1)))])]), (.data 1 true [(.func (.func 128) [] [(.iptr [(.data 4 false [(.agg [(.sc (.int Go.IntKind.i64 (1))), (.sc (.bool true)), (.sc (.bool false)), (.sc (.int Go.IntKind.i64 (1)))])])])]), (.func (.func 129) [] [(.iptr [(.data 2 false [(.agg [(.sc (.int Go.IntKind.i64 (1))), (.sc (.int Go.IntKind.i64 (0)))])])])]), (.func (.func 128) [] [(.iptr [(.sc (.slice none 0 0))])]), (.func (.func 119) [] [(.iptr [(.sc (.int Go.IntKind.i64 (2))), (.sc (.slice none 0 0)), (.sc (.slice none 0 0)), (.sc (.slice none 0 0)), (.data 3 false [(.agg [(.sc (.int Go.IntKind.i64 (0))), (.data 3 false [(.agg [(.sc (.int Go.IntKind.i64 (0))), (.data 4 false [(.agg [(.sc (.int Go.IntKind.i64 (1))), (.sc (.bool false)), (.sc (.bool false)), (.sc (.int Go.IntKind.i64 (2)))])]), (.sc (.int Go.IntKind.i64 (0)))]), (.agg [(.sc (.int Go.IntKind.i64 (0))), (.sc (.slice none 0 0)), (.sc (.int Go.IntKind.i64 (0)))])]), (.data 13 false [(.agg [(.sc (.int Go.IntKind.i64 (0))), (.sc (.int Go.IntKind.i64 (1))), (.data 4 false [(.agg [(.sc (.int Go.IntKind.i64 (1))), (.sc (.bool true)), (.sc (.bool false)), (.sc (.int Go.IntKind.i64 (1)))])]), (.sc (.int Go.IntKind.i64 (0))), (.sc (.string ⟨#[]⟩)), (.sc (.int Go.IntKind.i64 (0))), (.sc (.slice none 0 0)), (.sc (.int Go.IntKind.i64 (-1))), (.sc (.bool false)), (.sc (.slice none 0 0)), (.data 2 false [(.agg [(.sc (.int Go.IntKind.i64 (1))), (.sc (.int Go.IntKind.i64 (0)))])]), (.sc (.int Go.IntKind.i64 (0))), (.sc (.int Go.IntKind.i64 (0)))]), (.agg [(.sc (.int Go.IntKind.i64 (1))), (.sc (.int Go.IntKind.i64 (1))), (.data 4 false [(.agg [(.sc (.int Go.IntKind.i64 (1))), (.sc (.bool true)), (.sc (.bool true)), (.sc (.int Go.IntKind.i64 (3)))])]), (.sc (.int Go.IntKind.i64 (0))), (.sc (.string ⟨#[]⟩)), (.sc (.int Go.IntKind.i64 (0))), (.sc (.slice none 0 0)), (.sc (.int Go.IntKind.i64 (-1))), (.sc (.bool false)), (.sc (.slice none 0 0)), (.sc (.slice none 0 0)), (.sc (.int Go.IntKind.i64 (0))), (.sc (.int Go.IntKind.i64 (0)))])])])])]), (.iptr [(.data 1 false [(.sc (.int Go.IntKind.i64 (1)))]), (.data 1 false [])])])])], [(.ret (.tuple [(.agg [(.sc (.int Go.IntKind.i64 (2))), (.data 1 false [(.sc (.int Go.IntKind.i64 (1))), (.sc (.int Go.IntKind.i64 (1))), (.sc (.int Go.IntKind.i64 (-1))), (.sc (.int Go.IntKind.i64 (1099511627776))), (.sc (.int Go.IntKind.i64 (1))), (.sc (.int Go.IntKind.i64 (-1))), (.sc (.int Go.IntKind.i64 (1099511627776))), (.sc (.int Go.IntKind.i64 (5))), (.sc (.int Go.IntKind.i64 (1)))])]), (.sc (.int Go.IntKind.i64 (0)))]))]⟩
noncomputable def F108 : Abs.FTab := F107.memo [m108]
theorem c108 (w : World) : Abs.memOk (Abs.Env.of Tryz.prog w) F107 1000 m108 = true := by kernel_rfl
theorem o108 (w : World) : Abs.FOk (Abs.Env.of Tryz.prog w) F108 := Abs.FOk.memo rfl (o107 w) (c108 w)

end Go.Proofs.YtmimfnjcnndhpaaGreat.traceLengths
