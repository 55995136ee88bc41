/-
  Runs of functions that the law TraceKnown makes, computed by the executor of the abstract layer: part 4. Each is a fact about one call; the statement is proved in the last text.
-/
import Derived.Test.YtmimfnjcnndhpaaGreatTraceKnownM3
import Derived.KernelRfl
namespace Go.Proofs.YtmimfnjcnndhpaaGreat.traceKnown
open Go
/-- A call of function 118. -/
def m81 : Abs.Mem :=
  ⟨118, [(.sc (.int Go.IntKind.i64 (2))), (.sc (.int Go.IntKind.i64 (1)))], [(.ret (.tuple [(.agg [(.sc (.int Go.IntKind.i64 (2))), (.data 1 false [(.sc (.int Go.IntKind.i64 (1))), (.sc (.int Go.IntKind.i64 (1))), (.sc (.int Go.IntKind.i64 (1))), (.sc (.int Go.IntKind.i64 (1))), (.sc (.int Go.IntKind.i64 (1))), (.sc (.int Go.IntKind.i64 (1))), (.sc (.int Go.IntKind.i64 (1))), (.sc (.int Go.IntKind.i64 (1))), (.sc (.int Go.IntKind.i64 (1)))])]), (.sc (.int Go.IntKind.i64 (0)))]))]⟩
noncomputable def F81 : Abs.FTab := F80.memo [m81]
theorem c81 (w : World) : Abs.memOk (Abs.Env.of Tryz.prog w) F80 1000 m81 = true := by kernel_rfl
theorem o81 (w : World) : Abs.FOk (Abs.Env.of Tryz.prog w) F81 := Abs.FOk.memo rfl (o80 w) (c81 w)

/-- A call of function 59. -/
def m82 : Abs.Mem :=
  ⟨59, [(.iptr [(.sc (.int Go.IntKind.i64 (2))), (.sc (.slice none 0 0)), (.sc (.slice none 0 0)), (.sc (.slice none 0 0)), (.data 3 false [(.agg [(.sc (.int Go.IntKind.i64 (0))), (.data 3 false [(.agg [(.sc (.int Go.IntKind.i64 (0))), (.data 4 false [(.agg [(.sc (.int Go.IntKind.i64 (1))), (.sc (.bool false)), (.sc (.bool false)), (.sc (.int Go.IntKind.i64 (2)))])]), (.sc (.int Go.IntKind.i64 (0)))]), (.agg [(.sc (.int Go.IntKind.i64 (0))), (.sc (.slice none 0 0)), (.sc (.int Go.IntKind.i64 (0)))])]), (.data 13 false [(.agg [(.sc (.int Go.IntKind.i64 (0))), (.sc (.int Go.IntKind.i64 (1))), (.data 4 false [(.agg [(.sc (.int Go.IntKind.i64 (1))), (.sc (.bool true)), (.sc (.bool false)), (.sc (.int Go.IntKind.i64 (1)))])]), (.sc (.int Go.IntKind.i64 (0))), (.sc (.string ⟨#[]⟩)), (.sc (.int Go.IntKind.i64 (0))), (.sc (.slice none 0 0)), (.sc (.int Go.IntKind.i64 (-1))), (.sc (.bool false)), (.sc (.slice none 0 0)), (.data 2 false [(.agg [(.sc (.int Go.IntKind.i64 (1))), (.sc (.int Go.IntKind.i64 (0)))])]), (.sc (.int Go.IntKind.i64 (0))), (.sc (.int Go.IntKind.i64 (0)))]), (.agg [(.sc (.int Go.IntKind.i64 (1))), (.sc (.int Go.IntKind.i64 (1))), (.data 4 false [(.agg [(.sc (.int Go.IntKind.i64 (1))), (.sc (.bool true)), (.sc (.bool true)), (.sc (.int Go.IntKind.i64 (3)))])]), (.sc (.int Go.IntKind.i64 (0))), (.sc (.string ⟨#[]⟩)), (.sc (.int Go.IntKind.i64 (0))), (.sc (.slice none 0 0)), (.sc (.int Go.IntKind.i64 (-1))), (.sc (.bool false)), (.sc (.slice none 0 0)), (.sc (.slice none 0 0)), (.sc (.int Go.IntKind.i64 (0))), (.sc (.int Go.IntKind.i64 (0)))])])])]), (.sc (.slice none 0 0))]), (.agg [(.data 1 false [(.sc (.int Go.IntKind.i64 (0)))]), (.sc (.slice none 0 0))])], [(.ret (.sc (.bool false)))]⟩
noncomputable def F82 : Abs.FTab := F81.memo [m82]
theorem c82 (w : World) : Abs.memOk (Abs.Env.of Tryz.prog w) F81 1000 m82 = true := by kernel_rfl
theorem o82 (w : World) : Abs.FOk (Abs.Env.of Tryz.prog w) F82 := Abs.FOk.memo rfl (o81 w) (c82 w)

/-- A call of function 211. -/
def m83 : Abs.Mem :=
  ⟨211, [(.sc (.int Go.IntKind.i64 (2))), (.data 1 false [(.sc (.int Go.IntKind.i64 (1))), (.sc (.int Go.IntKind.i64 (1))), (.sc (.int Go.IntKind.i64 (1))), (.sc (.int Go.IntKind.i64 (1))), (.sc (.int Go.IntKind.i64 (1))), (.sc (.int Go.IntKind.i64 (1))), (.sc (.int Go.IntKind.i64 (1))), (.sc (.int Go.IntKind.i64 (1))), (.sc (.int Go.IntKind.i64 (1)))])], [(.ret (.sc (.bool true)))]⟩
noncomputable def F83 : Abs.FTab := F82.memo [m83]
theorem c83 (w : World) : Abs.memOk (Abs.Env.of Tryz.prog w) F82 1000 m83 = true := by kernel_rfl
theorem o83 (w : World) : Abs.FOk (Abs.Env.of Tryz.prog w) F83 := Abs.FOk.memo rfl (o82 w) (c83 w)

/-- A call of function 131. -/
def m84 : Abs.Mem :=
  ⟨131, [(.agg [(.sc (.int Go.IntKind.i64 (2))), (.data 1 false [(.sc (.int Go.IntKind.i64 (1))), (.sc (.int Go.IntKind.i64 (1))), (.sc (.int Go.IntKind.i64 (1))), (.sc (.int Go.IntKind.i64 (1))), (.sc (.int Go.IntKind.i64 (1))), (.sc (.int Go.IntKind.i64 (1))), (.sc (.int Go.IntKind.i64 (1))), (.sc (.int Go.IntKind.i64 (1))), (.sc (.int Go.IntKind.i64 (1)))])])], [(.ret (.sc (.int Go.IntKind.i64 (0))))]⟩
noncomputable def F84 : Abs.FTab := F83.memo [m84]
theorem c84 (w : World) : Abs.memOk (Abs.Env.of Tryz.prog w) F83 1000 m84 = true := by kernel_rfl
theorem o84 (w : World) : Abs.FOk (Abs.Env.of Tryz.prog w) F84 := Abs.FOk.memo rfl (o83 w) (c84 w)

/-- A call of function 133. -/
def m85 : Abs.Mem :=
  ⟨133, [(.agg [(.sc (.int Go.IntKind.i64 (2))), (.data 1 false [(.sc (.int Go.IntKind.i64 (1))), (.sc (.int Go.IntKind.i64 (1))), (.sc (.int Go.IntKind.i64 (1))), (.sc (.int Go.IntKind.i64 (1))), (.sc (.int Go.IntKind.i64 (1))), (.sc (.int Go.IntKind.i64 (1))), (.sc (.int Go.IntKind.i64 (1))), (.sc (.int Go.IntKind.i64 (1))), (.sc (.int Go.IntKind.i64 (1)))])]), (.sc (.bool true)), (.func (.func 199) [] [])], [(.ret (.tuple [(.agg [(.sc (.int Go.IntKind.i64 (2))), (.data 1 false [(.sc (.int Go.IntKind.i64 (1))), (.sc (.int Go.IntKind.i64 (1))), (.sc (.int Go.IntKind.i64 (1))), (.sc (.int Go.IntKind.i64 (1099511627776))), (.sc (.int Go.IntKind.i64 (1))), (.sc (.int Go.IntKind.i64 (1))), (.sc (.int Go.IntKind.i64 (1099511627776))), (.sc (.int Go.IntKind.i64 (1))), (.sc (.int Go.IntKind.i64 (1)))])]), (.sc (.int Go.IntKind.i64 (0)))]))]⟩
noncomputable def F85 : Abs.FTab := F84.memo [m85]
theorem c85 (w : World) : Abs.memOk (Abs.Env.of Tryz.prog w) F84 1000 m85 = true := by kernel_rfl
theorem o85 (w : World) : Abs.FOk (Abs.Env.of Tryz.prog w) F85 := Abs.FOk.memo rfl (o84 w) (c85 w)

/-- A call of function 211. -/
def m86 : Abs.Mem :=
  ⟨211, [(.sc (.int Go.IntKind.i64 (2))), (.data 1 false [(.sc (.int Go.IntKind.i64 (1))), (.sc (.int Go.IntKind.i64 (1))), (.sc (.int Go.IntKind.i64 (1))), (.sc (.int Go.IntKind.i64 (1099511627776))), (.sc (.int Go.IntKind.i64 (1))), (.sc (.int Go.IntKind.i64 (1))), (.sc (.int Go.IntKind.i64 (1099511627776))), (.sc (.int Go.IntKind.i64 (1))), (.sc (.int Go.IntKind.i64 (1)))])], [(.ret (.sc (.bool true)))]⟩
noncomputable def F86 : Abs.FTab := F85.memo [m86]
theorem c86 (w : World) : Abs.memOk (Abs.Env.of Tryz.prog w) F85 1000 m86 = true := by kernel_rfl
theorem o86 (w : World) : Abs.FOk (Abs.Env.of Tryz.prog w) F86 := Abs.FOk.memo rfl (o85 w) (c86 w)

/-- A call of function 131. -/
def m87 : Abs.Mem :=
  ⟨131, [(.agg [(.sc (.int Go.IntKind.i64 (2))), (.data 1 false [(.sc (.int Go.IntKind.i64 (1))), (.sc (.int Go.IntKind.i64 (1))), (.sc (.int Go.IntKind.i64 (1))), (.sc (.int Go.IntKind.i64 (1099511627776))), (.sc (.int Go.IntKind.i64 (1))), (.sc (.int Go.IntKind.i64 (1))), (.sc (.int Go.IntKind.i64 (1099511627776))), (.sc (.int Go.IntKind.i64 (1))), (.sc (.int Go.IntKind.i64 (1)))])])], [(.ret (.sc (.int Go.IntKind.i64 (0))))]⟩
noncomputable def F87 : Abs.FTab := F86.memo [m87]
theorem c87 (w : World) : Abs.memOk (Abs.Env.of Tryz.prog w) F86 1000 m87 = true := by kernel_rfl
theorem o87 (w : World) : Abs.FOk (Abs.Env.of Tryz.prog w) F87 := Abs.FOk.memo rfl (o86 w) (c87 w)

/-- A call of function 67. -/
def m88 : Abs.Mem :=
  ⟨67, [(.agg [(.sc (.int Go.IntKind.i64 (2))), (.data 1 false [(.sc (.int Go.IntKind.i64 (1))), (.sc (.int Go.IntKind.i64 (1))), (.sc (.int Go.IntKind.i64 (1))), (.sc (.int Go.IntKind.i64 (1099511627776))), (.sc (.int Go.IntKind.i64 (1))), (.sc (.int Go.IntKind.i64 (1))), (.sc (.int Go.IntKind.i64 (1099511627776))), (.sc (.int Go.IntKind.i64 (1))), (.sc (.int Go.IntKind.i64 (1)))])]), (.data 3 false [(.agg [(.sc (.int Go.IntKind.i64 (1))), (.sc (.int Go.IntKind.i64 (0))), (.sc (.int Go.IntKind.i64 (5)))])])], [(.ret (.tuple [(.agg [(.sc (.int Go.IntKind.i64 (2))), (.data 1 false [(.sc (.int Go.IntKind.i64 (1))), (.sc (.int Go.IntKind.i64 (1))), (.sc (.int Go.IntKind.i64 (1))), (.sc (.int Go.IntKind.i64 (5))), (.sc (.int Go.IntKind.i64 (1))), (.sc (.int Go.IntKind.i64 (1))), (.sc (.int Go.IntKind.i64 (5))), (.sc (.int Go.IntKind.i64 (1))), (.sc (.int Go.IntKind.i64 (1)))])]), (.sc (.int Go.IntKind.i64 (0)))]))]⟩
noncomputable def F88 : Abs.FTab := F87.memo [m88]
theorem c88 (w : World) : Abs.memOk (Abs.Env.of Tryz.prog w) F87 1000 m88 = true := by kernel_rfl
theorem o88 (w : World) : Abs.FOk (Abs.Env.of Tryz.prog w) F88 := Abs.FOk.memo rfl (o87 w) (c88 w)

/-- A call of function 119. -/
def m89 : Abs.Mem :=
  ⟨119, [(.agg [(.sc (.int Go.IntKind.i64 (2))), (.data 1 false [(.sc (.int Go.IntKind.i64 (1))), (.sc (.int Go.IntKind.i64 (1))), (.sc (.int Go.IntKind.i64 (1))), (.sc (.int Go.IntKind.i64 (1))), (.sc (.int Go.IntKind.i64 (1))), (.sc (.int Go.IntKind.i64 (1))), (.sc (.int Go.IntKind.i64 (1))), (.sc (.int Go.IntKind.i64 (1))), (.sc (.int Go.IntKind.i64 (1)))])]), (.iptr [(.sc (.int Go.IntKind.i64 (2))), (.sc (.slice none 0 0)), (.sc (.slice none 0 0)), (.sc (.slice none 0 0)), (.data 3 false [(.agg [(.sc (.int Go.IntKind.i64 (0))), (.data 3 false [(.agg [(.sc (.int Go.IntKind.i64 (0))), (.data 4 false [(.agg [(.sc (.int Go.IntKind.i64 (1))), (.sc (.bool false)), (.sc (.bool false)), (.sc (.int Go.IntKind.i64 (2)))])]), (.sc (.int Go.IntKind.i64 (0)))]), (.agg [(.sc (.int Go.IntKind.i64 (0))), (.sc (.slice none 0 0)), (.sc (.int Go.IntKind.i64 (0)))])]), (.data 13 false [(.agg [(.sc (.int Go.IntKind.i64 (0))), (.sc (.int Go.IntKind.i64 (1))), (.data 4 false [(.agg [(.sc (.int Go.IntKind.i64 (1))), (.sc (.bool true)), (.sc (.bool false)), (.sc (.int Go.IntKind.i64 (1)))])]), (.sc (.int Go.IntKind.i64 (0))), (.sc (.string ⟨#[]⟩)), (.sc (.int Go.IntKind.i64 (0))), (.sc (.slice none 0 0)), (.sc (.int Go.IntKind.i64 (-1))), (.sc (.bool false)), (.sc (.slice none 0 0)), (.data 2 false [(.agg [(.sc (.int Go.IntKind.i64 (1))), (.sc (.int Go.IntKind.i64 (0)))])]), (.sc (.int Go.IntKind.i64 (0))), (.sc (.int Go.IntKind.i64 (0)))]), (.agg [(.sc (.int Go.IntKind.i64 (1))), (.sc (.int Go.IntKind.i64 (1))), (.data 4 false [(.agg [(.sc (.int Go.IntKind.i64 (1))), (.sc (.bool true)), (.sc (.bool true)), (.sc (.int Go.IntKind.i64 (3)))])]), (.sc (.int Go.IntKind.i64 (0))), (.sc (.string ⟨#[]⟩)), (.sc (.int Go.IntKind.i64 (0))), (.sc (.slice none 0 0)), (.sc (.int Go.IntKind.i64 (-1))), (.sc (.bool false)), (.sc (.slice none 0 0)), (.sc (.slice none 0 0)), (.sc (.int Go.IntKind.i64 (0))), (.sc (.int Go.IntKind.i64 (0)))])])])])]), (.iptr [(.data 1 false [(.sc (.int Go.IntKind.i64 (0)))]), (.sc (.slice none 0 0))])], [(.ret (.tuple [(.agg [(.sc (.int Go.IntKind.i64 (2))), (.data 1 false [(.sc (.int Go.IntKind.i64 (1))), (.sc (.int Go.IntKind.i64 (1))), (.sc (.int Go.IntKind.i64 (1))), (.sc (.int Go.IntKind.i64 (5))), (.sc (.int Go.IntKind.i64 (1))), (.sc (.int Go.IntKind.i64 (1))), (.sc (.int Go.IntKind.i64 (5))), (.sc (.int Go.IntKind.i64 (1))), (.sc (.int Go.IntKind.i64 (1)))])]), (.sc (.int Go.IntKind.i64 (0)))]))]⟩
noncomputable def F89 : Abs.FTab := F88.memo [m89]
theorem c89 (w : World) : Abs.memOk (Abs.Env.of Tryz.prog w) F88 1000 m89 = true := by kernel_rfl
theorem o89 (w : World) : Abs.FOk (Abs.Env.of Tryz.prog w) F89 := Abs.FOk.memo rfl (o88 w) (c89 w)

/-- A call of function 21. -/
def m90 : Abs.Mem :=
  ⟨21, [(.agg [(.sc (.int Go.IntKind.i64 (2))), (.sc (.slice none 0 0)), (.sc (.slice none 0 0)), (.sc (.slice none 0 0)), (.data 3 false [(.agg [(.sc (.int Go.IntKind.i64 (0))), (.data 3 false [(.agg [(.sc (.int Go.IntKind.i64 (0))), (.data 4 false [(.agg [(.sc (.int Go.IntKind.i64 (1))), (.sc (.bool false)), (.sc (.bool false)), (.sc (.int Go.IntKind.i64 (2)))])]), (.sc (.int Go.IntKind.i64 (0)))]), (.agg [(.sc (.int Go.IntKind.i64 (0))), (.sc (.slice none 0 0)), (.sc (.int Go.IntKind.i64 (0)))])]), (.data 13 false [(.agg [(.sc (.int Go.IntKind.i64 (0))), (.sc (.int Go.IntKind.i64 (1))), (.data 4 false [(.agg [(.sc (.int Go.IntKind.i64 (1))), (.sc (.bool true)), (.sc (.bool false)), (.sc (.int Go.IntKind.i64 (1)))])]), (.sc (.int Go.IntKind.i64 (0))), (.sc (.string ⟨#[]⟩)), (.sc (.int Go.IntKind.i64 (0))), (.sc (.slice none 0 0)), (.sc (.int Go.IntKind.i64 (-1))), (.sc (.bool false)), (.sc (.slice none 0 0)), (.data 2 false [(.agg [(.sc (.int Go.IntKind.i64 (1))), (.sc (.int Go.IntKind.i64 (0)))])]), (.sc (.int Go.IntKind.i64 (0))), (.sc (.int Go.IntKind.i64 (0)))]), (.agg [(.sc (.int Go.IntKind.i64 (1))), (.sc (.int Go.IntKind.i64 (1))), (.data 4 false [(.agg [(.sc (.int Go.IntKind.i64 (1))), (.sc (.bool true)), (.sc (.bool true)), (.sc (.int Go.IntKind.i64 (3)))])]), (.sc (.int Go.IntKind.i64 (0))), (.sc (.string ⟨#[]⟩)), (.sc (.int Go.IntKind.i64 (0))), (.sc (.slice none 0 0)), (.sc (.int Go.IntKind.i64 (-1))), (.sc (.bool false)), (.sc (.slice none 0 0)), (.sc (.slice none 0 0)), (.sc (.int Go.IntKind.i64 (0))), (.sc (.int Go.IntKind.i64 (0)))])])])])])], [(.ret (.tuple [(.agg [(.data 1 false [(.sc (.int Go.IntKind.i64 (0)))]), (.sc (.slice none 0 0)), (.sc (.int Go.IntKind.i64 (2))), (.data 1 false [(.sc (.int Go.IntKind.i64 (1))), (.sc (.int Go.IntKind.i64 (1))), (.sc (.int Go.IntKind.i64 (1))), (.sc (.int Go.IntKind.i64 (5))), (.sc (.int Go.IntKind.i64 (1))), (.sc (.int Go.IntKind.i64 (1))), (.sc (.int Go.IntKind.i64 (5))), (.sc (.int Go.IntKind.i64 (1))), (.sc (.int Go.IntKind.i64 (1)))])]), (.sc (.int Go.IntKind.i64 (0)))]))]⟩
noncomputable def F90 : Abs.FTab := F89.memo [m90]
theorem c90 (w : World) : Abs.memOk (Abs.Env.of Tryz.prog w) F89 1000 m90 = true := by kernel_rfl
theorem o90 (w : World) : Abs.FOk (Abs.Env.of Tryz.prog w) F90 := Abs.FOk.memo rfl (o89 w) (c90 w)

/-- A call of function 211. -/
def m91 : Abs.Mem :=
  ⟨211, [(.sc (.int Go.IntKind.i64 (2))), (.data 1 false [(.sc (.int Go.IntKind.i64 (1))), (.sc (.int Go.IntKind.i64 (1))), (.sc (.int Go.IntKind.i64 (1))), (.sc (.int Go.IntKind.i64 (5))), (.sc (.int Go.IntKind.i64 (1))), (.sc (.int Go.IntKind.i64 (1))), (.sc (.int Go.IntKind.i64 (5))), (.sc (.int Go.IntKind.i64 (1))), (.sc (.int Go.IntKind.i64 (1)))])], [(.ret (.sc (.bool true)))]⟩
noncomputable def F91 : Abs.FTab := F90.memo [m91]
theorem c91 (w : World) : Abs.memOk (Abs.Env.of Tryz.prog w) F90 1000 m91 = true := by kernel_rfl
theorem o91 (w : World) : Abs.FOk (Abs.Env.of Tryz.prog w) F91 := Abs.FOk.memo rfl (o90 w) (c91 w)

/-- A call of function 131. -/
def m92 : Abs.Mem :=
  ⟨131, [(.agg [(.sc (.int Go.IntKind.i64 (2))), (.data 1 false [(.sc (.int Go.IntKind.i64 (1))), (.sc (.int Go.IntKind.i64 (1))), (.sc (.int Go.IntKind.i64 (1))), (.sc (.int Go.IntKind.i64 (5))), (.sc (.int Go.IntKind.i64 (1))), (.sc (.int Go.IntKind.i64 (1))), (.sc (.int Go.IntKind.i64 (5))), (.sc (.int Go.IntKind.i64 (1))), (.sc (.int Go.IntKind.i64 (1)))])])], [(.ret (.sc (.int Go.IntKind.i64 (0))))]⟩
noncomputable def F92 : Abs.FTab := F91.memo [m92]
theorem c92 (w : World) : Abs.memOk (Abs.Env.of Tryz.prog w) F91 1000 m92 = true := by kernel_rfl
theorem o92 (w : World) : Abs.FOk (Abs.Env.of Tryz.prog w) F92 := Abs.FOk.memo rfl (o91 w) (c92 w)

end Go.Proofs.YtmimfnjcnndhpaaGreat.traceKnown
