/-
  Runs of functions that the law RegionKnown makes, computed by the executor of the abstract layer: part 1. Each is a fact about one call; the statement is proved in the last text.
-/
import Derived.Test.YtmimfnjcnndhpaaGreatDoorProg
import Derived.Test.YtmimfnjcnndhpaaGreatDoorAbsMm
import Derived.KernelRfl
namespace Go.Proofs.YtmimfnjcnndhpaaGreatDoor.regionKnown
open Go
noncomputable def F0 : Abs.FTab := Abs.ftabZ Tryz.prog [115, 125, 151, 161, 162, 188, 58, 71] [33] [58, 71]
theorem o0 (w : World) : Abs.FOk (Abs.Env.of Tryz.prog w) F0 := Abs.ftabZ_ok Tryz.prog [115, 125, 151, 161, 162, 188, 58, 71] [33] [58, 71] w

/-- A call of function 24. -/
def m1 : Abs.Mem :=
  ⟨24, [(.agg [(.sc (.int Go.IntKind.i64 (5))), (.sc (.int Go.IntKind.i64 (2)))])], [(.ret (.sc (.bool true)))]⟩
noncomputable def F1 : Abs.FTab := F0.memo [m1]
theorem c1 (w : World) : Abs.memOk (Abs.Env.of Tryz.prog w) F0 1000 m1 = true := by kernel_rfl
theorem o1 (w : World) : Abs.FOk (Abs.Env.of Tryz.prog w) F1 := Abs.FOk.memo rfl (o0 w) (c1 w)

/-- A call of function 24. -/
def m2 : Abs.Mem :=
  ⟨24, [(.agg [(.sc (.int Go.IntKind.i64 (1))), (.sc (.int Go.IntKind.i64 (2)))])], [(.ret (.sc (.bool true)))]⟩
noncomputable def F2 : Abs.FTab := F1.memo [m2]
theorem c2 (w : World) : Abs.memOk (Abs.Env.of Tryz.prog w) F1 1000 m2 = true := by kernel_rfl
theorem o2 (w : World) : Abs.FOk (Abs.Env.of Tryz.prog w) F2 := Abs.FOk.memo rfl (o1 w) (c2 w)

/-- A call of function 24. -/
def m3 : Abs.Mem :=
  ⟨24, [(.agg [(.sc (.int Go.IntKind.i64 (2))), (.sc (.int Go.IntKind.i64 (1)))])], [(.ret (.sc (.bool true)))]⟩
noncomputable def F3 : Abs.FTab := F2.memo [m3]
theorem c3 (w : World) : Abs.memOk (Abs.Env.of Tryz.prog w) F2 1000 m3 = true := by kernel_rfl
theorem o3 (w : World) : Abs.FOk (Abs.Env.of Tryz.prog w) F3 := Abs.FOk.memo rfl (o2 w) (c3 w)

/-- A call of function 24. -/
def m4 : Abs.Mem :=
  ⟨24, [(.agg [(.sc (.int Go.IntKind.i64 (1))), (.sc (.int Go.IntKind.i64 (1)))])], [(.ret (.sc (.bool true)))]⟩
noncomputable def F4 : Abs.FTab := F3.memo [m4]
theorem c4 (w : World) : Abs.memOk (Abs.Env.of Tryz.prog w) F3 1000 m4 = true := by kernel_rfl
theorem o4 (w : World) : Abs.FOk (Abs.Env.of Tryz.prog w) F4 := Abs.FOk.memo rfl (o3 w) (c4 w)

/-- A call of function 121. -/
def m5 : Abs.Mem :=
  ⟨121, [(.sc (.slice none 0 0)), (.sc (.slice none 0 0))], [(.ret (.tuple [(.sc (.int Go.IntKind.i64 (0))), (.sc (.int Go.IntKind.i64 (0)))]))]⟩
noncomputable def F5 : Abs.FTab := F4.memo [m5]
theorem c5 (w : World) : Abs.memOk (Abs.Env.of Tryz.prog w) F4 1000 m5 = true := by kernel_rfl
theorem o5 (w : World) : Abs.FOk (Abs.Env.of Tryz.prog w) F5 := Abs.FOk.memo rfl (o4 w) (c5 w)

/-- A call of function 51. -/
def m6 : Abs.Mem :=
  ⟨51, [(.agg [(.sc (.int Go.IntKind.i64 (1))), (.sc (.slice none 0 0)), (.sc (.slice none 0 0)), (.sc (.slice none 0 0)), (.data 3 false [(.agg [(.sc (.int Go.IntKind.i64 (0))), (.data 3 false [(.agg [(.sc (.int Go.IntKind.i64 (0))), (.data 4 false [(.agg [(.sc (.int Go.IntKind.i64 (1))), (.sc (.bool false)), (.sc (.bool false)), (.sc (.int Go.IntKind.i64 (2)))])]), (.sc (.int Go.IntKind.i64 (0)))]), (.agg [(.sc (.int Go.IntKind.i64 (0))), (.sc (.slice none 0 0)), (.sc (.int Go.IntKind.i64 (0)))])]), (.data 13 false [(.agg [(.sc (.int Go.IntKind.i64 (0))), (.sc (.int Go.IntKind.i64 (1))), (.data 4 false [(.agg [(.sc (.int Go.IntKind.i64 (1))), (.sc (.bool true)), (.sc (.bool false)), (.sc (.int Go.IntKind.i64 (1)))])]), (.sc (.int Go.IntKind.i64 (0))), (.sc (.string ⟨#[]⟩)), (.sc (.int Go.IntKind.i64 (0))), (.sc (.slice none 0 0)), (.sc (.int Go.IntKind.i64 (-1))), (.sc (.bool false)), (.sc (.slice none 0 0)), (.data 2 false [(.agg [(.sc (.int Go.IntKind.i64 (1))), (.sc (.int Go.IntKind.i64 (0)))])]), (.sc (.int Go.IntKind.i64 (0))), (.sc (.int Go.IntKind.i64 (0)))]), (.agg [(.sc (.int Go.IntKind.i64 (1))), (.sc (.int Go.IntKind.i64 (1))), (.data 4 false [(.agg [(.sc (.int Go.IntKind.i64 (1))), (.sc (.bool true)), (.sc (.bool true)), (.sc (.int Go.IntKind.i64 (3)))])]), (.sc (.int Go.IntKind.i64 (0))), (.sc (.string ⟨#[]⟩)), (.sc (.int Go.IntKind.i64 (0))), (.sc (.slice none 0 0)), (.sc (.int Go.IntKind.i64 (-1))), (.sc (.bool false)), (.sc (.slice none 0 0)), (.sc (.slice none 0 0)), (.sc (.int Go.IntKind.i64 (0))), (.sc (.int Go.IntKind.i64 (0)))])])])])])], [(.ret (.sc (.int Go.IntKind.i64 (0))))]⟩
noncomputable def F6 : Abs.FTab := F5.memo [m6]
theorem c6 (w : World) : Abs.memOk (Abs.Env.of Tryz.prog w) F5 1000 m6 = true := by kernel_rfl
theorem o6 (w : World) : Abs.FOk (Abs.Env.of Tryz.prog w) F6 := Abs.FOk.memo rfl (o5 w) (c6 w)

/-- A call of function 54. -/
def m7 : Abs.Mem :=
  ⟨54, [(.agg [(.sc (.int Go.IntKind.i64 (1))), (.sc (.int Go.IntKind.i64 (0))), (.sc (.int Go.IntKind.i64 (1))), (.sc (.int Go.IntKind.i64 (0))), (.sc (.string ⟨#[]⟩)), (.sc (.int Go.IntKind.i64 (0))), (.sc (.slice none 0 0)), (.sc (.int Go.IntKind.i64 (0))), (.sc (.bool false)), (.sc (.bool false)), (.sc (.int Go.IntKind.i64 (0))), (.sc (.slice none 0 0))])], [(.ret (.sc (.bool true)))]⟩
noncomputable def F7 : Abs.FTab := F6.memo [m7]
theorem c7 (w : World) : Abs.memOk (Abs.Env.of Tryz.prog w) F6 1000 m7 = true := by kernel_rfl
theorem o7 (w : World) : Abs.FOk (Abs.Env.of Tryz.prog w) F7 := Abs.FOk.memo rfl (o6 w) (c7 w)

/-- A call of function 54. -/
def m8 : Abs.Mem :=
  ⟨54, [(.agg [(.sc (.int Go.IntKind.i64 (0))), (.sc (.int Go.IntKind.i64 (0))), (.sc (.int Go.IntKind.i64 (0))), (.sc (.int Go.IntKind.i64 (0))), (.sc (.string ⟨#[]⟩)), (.sc (.int Go.IntKind.i64 (0))), (.sc (.slice none 0 0)), (.sc (.int Go.IntKind.i64 (0))), (.sc (.bool false)), (.sc (.bool false)), (.sc (.int Go.IntKind.i64 (0))), (.sc (.slice none 0 0))])], [(.ret (.sc (.bool true)))]⟩
noncomputable def F8 : Abs.FTab := F7.memo [m8]
theorem c8 (w : World) : Abs.memOk (Abs.Env.of Tryz.prog w) F7 1000 m8 = true := by kernel_rfl
theorem o8 (w : World) : Abs.FOk (Abs.Env.of Tryz.prog w) F8 := Abs.FOk.memo rfl (o7 w) (c8 w)

/-- A call of function 29. -/
def m9 : Abs.Mem :=
  ⟨29, [(.agg [(.sc (.int Go.IntKind.i64 (1))), (.sc (.slice none 0 0)), (.sc (.slice none 0 0)), (.sc (.slice none 0 0)), (.data 3 false [(.agg [(.sc (.int Go.IntKind.i64 (0))), (.data 3 false [(.agg [(.sc (.int Go.IntKind.i64 (0))), (.data 4 false [(.agg [(.sc (.int Go.IntKind.i64 (1))), (.sc (.bool false)), (.sc (.bool false)), (.sc (.int Go.IntKind.i64 (2)))])]), (.sc (.int Go.IntKind.i64 (0)))]), (.agg [(.sc (.int Go.IntKind.i64 (0))), (.sc (.slice none 0 0)), (.sc (.int Go.IntKind.i64 (0)))])]), (.data 13 false [(.agg [(.sc (.int Go.IntKind.i64 (0))), (.sc (.int Go.IntKind.i64 (1))), (.data 4 false [(.agg [(.sc (.int Go.IntKind.i64 (1))), (.sc (.bool true)), (.sc (.bool false)), (.sc (.int Go.IntKind.i64 (1)))])]), (.sc (.int Go.IntKind.i64 (0))), (.sc (.string ⟨#[]⟩)), (.sc (.int Go.IntKind.i64 (0))), (.sc (.slice none 0 0)), (.sc (.int Go.IntKind.i64 (-1))), (.sc (.bool false)), (.sc (.slice none 0 0)), (.data 2 false [(.agg [(.sc (.int Go.IntKind.i64 (1))), (.sc (.int Go.IntKind.i64 (0)))])]), (.sc (.int Go.IntKind.i64 (0))), (.sc (.int Go.IntKind.i64 (0)))]), (.agg [(.sc (.int Go.IntKind.i64 (1))), (.sc (.int Go.IntKind.i64 (1))), (.data 4 false [(.agg [(.sc (.int Go.IntKind.i64 (1))), (.sc (.bool true)), (.sc (.bool true)), (.sc (.int Go.IntKind.i64 (3)))])]), (.sc (.int Go.IntKind.i64 (0))), (.sc (.string ⟨#[]⟩)), (.sc (.int Go.IntKind.i64 (0))), (.sc (.slice none 0 0)), (.sc (.int Go.IntKind.i64 (-1))), (.sc (.bool false)), (.sc (.slice none 0 0)), (.sc (.slice none 0 0)), (.sc (.int Go.IntKind.i64 (0))), (.sc (.int Go.IntKind.i64 (0)))])])])])]), (.agg [(.sc (.int Go.IntKind.i64 (4))), (.sc (.bool false)), (.sc (.int Go.IntKind.i64 (1))), (.sc (.int Go.IntKind.i64 (0))), (.sc (.int Go.IntKind.i64 (1))), (.sc (.int Go.IntKind.i64 (0))), (.sc (.string ⟨#[]⟩)), (.sc (.int Go.IntKind.i64 (0))), (.sc (.slice none 0 0)), (.sc (.int Go.IntKind.i64 (0))), (.sc (.bool false)), (.sc (.bool false)), (.sc (.int Go.IntKind.i64 (0))), (.sc (.slice none 0 0)), (.sc (.int Go.IntKind.i64 (0))), (.sc (.int Go.IntKind.i64 (0))), (.sc (.int Go.IntKind.i64 (0))), (.sc (.int Go.IntKind.i64 (0))), (.sc (.string ⟨#[]⟩)), (.sc (.int Go.IntKind.i64 (0))), (.sc (.slice none 0 0)), (.sc (.int Go.IntKind.i64 (0))), (.sc (.bool false)), (.sc (.bool false)), (.sc (.int Go.IntKind.i64 (0))), (.sc (.slice none 0 0))])], [(.ret (.sc (.int Go.IntKind.i64 (0))))]⟩
noncomputable def F9 : Abs.FTab := F8.memo [m9]
theorem c9 (w : World) : Abs.memOk (Abs.Env.of Tryz.prog w) F8 1000 m9 = true := by kernel_rfl
theorem o9 (w : World) : Abs.FOk (Abs.Env.of Tryz.prog w) F9 := Abs.FOk.memo rfl (o8 w) (c9 w)

/-- A call of function 30. -/
def m10 : Abs.Mem :=
  ⟨30, [(.agg [(.sc (.int Go.IntKind.i64 (1))), (.sc (.slice none 0 0)), (.sc (.slice none 0 0)), (.sc (.slice none 0 0)), (.data 3 false [(.agg [(.sc (.int Go.IntKind.i64 (0))), (.data 3 false [(.agg [(.sc (.int Go.IntKind.i64 (0))), (.data 4 false [(.agg [(.sc (.int Go.IntKind.i64 (1))), (.sc (.bool false)), (.sc (.bool false)), (.sc (.int Go.IntKind.i64 (2)))])]), (.sc (.int Go.IntKind.i64 (0)))]), (.agg [(.sc (.int Go.IntKind.i64 (0))), (.sc (.slice none 0 0)), (.sc (.int Go.IntKind.i64 (0)))])]), (.data 13 false [(.agg [(.sc (.int Go.IntKind.i64 (0))), (.sc (.int Go.IntKind.i64 (1))), (.data 4 false [(.agg [(.sc (.int Go.IntKind.i64 (1))), (.sc (.bool true)), (.sc (.bool false)), (.sc (.int Go.IntKind.i64 (1)))])]), (.sc (.int Go.IntKind.i64 (0))), (.sc (.string ⟨#[]⟩)), (.sc (.int Go.IntKind.i64 (0))), (.sc (.slice none 0 0)), (.sc (.int Go.IntKind.i64 (-1))), (.sc (.bool false)), (.sc (.slice none 0 0)), (.data 2 false [(.agg [(.sc (.int Go.IntKind.i64 (1))), (.sc (.int Go.IntKind.i64 (0)))])]), (.sc (.int Go.IntKind.i64 (0))), (.sc (.int Go.IntKind.i64 (0)))]), (.agg [(.sc (.int Go.IntKind.i64 (1))), (.sc (.int Go.IntKind.i64 (1))), (.data 4 false [(.agg [(.sc (.int Go.IntKind.i64 (1))), (.sc (.bool true)), (.sc (.bool true)), (.sc (.int Go.IntKind.i64 (3)))])]), (.sc (.int Go.IntKind.i64 (0))), (.sc (.string ⟨#[]⟩)), (.sc (.int Go.IntKind.i64 (0))), (.sc (.slice none 0 0)), (.sc (.int Go.IntKind.i64 (-1))), (.sc (.bool false)), (.sc (.slice none 0 0)), (.sc (.slice none 0 0)), (.sc (.int Go.IntKind.i64 (0))), (.sc (.int Go.IntKind.i64 (0)))])])])])]), (.agg [(.sc (.int Go.IntKind.i64 (4))), (.sc (.bool false)), (.sc (.int Go.IntKind.i64 (1))), (.sc (.int Go.IntKind.i64 (0))), (.sc (.int Go.IntKind.i64 (1))), (.sc (.int Go.IntKind.i64 (0))), (.sc (.string ⟨#[]⟩)), (.sc (.int Go.IntKind.i64 (0))), (.sc (.slice none 0 0)), (.sc (.int Go.IntKind.i64 (0))), (.sc (.bool false)), (.sc (.bool false)), (.sc (.int Go.IntKind.i64 (0))), (.sc (.slice none 0 0)), (.sc (.int Go.IntKind.i64 (0))), (.sc (.int Go.IntKind.i64 (0))), (.sc (.int Go.IntKind.i64 (0))), (.sc (.int Go.IntKind.i64 (0))), (.sc (.string ⟨#[]⟩)), (.sc (.int Go.IntKind.i64 (0))), (.sc (.slice none 0 0)), (.sc (.int Go.IntKind.i64 (0))), (.sc (.bool false)), (.sc (.bool false)), (.sc (.int Go.IntKind.i64 (0))), (.sc (.slice none 0 0))])], [(.ret (.data 1 false [(.sc (.int Go.IntKind.i64 (3)))]))]⟩
noncomputable def F10 : Abs.FTab := F9.memo [m10]
theorem c10 (w : World) : Abs.memOk (Abs.Env.of Tryz.prog w) F9 1000 m10 = true := by kernel_rfl
theorem o10 (w : World) : Abs.FOk (Abs.Env.of Tryz.prog w) F10 := Abs.FOk.memo rfl (o9 w) (c10 w)

/-- A call of function 99. -/
def m11 : Abs.Mem :=
  ⟨99, [(.sc (.int Go.IntKind.i64 (0))), (.sc (.int Go.IntKind.i64 (36)))], [(.ret (.sc (.string ⟨#[48]⟩)))]⟩
noncomputable def F11 : Abs.FTab := F10.memo [m11]
theorem c11 (w : World) : Abs.memOk (Abs.Env.of Tryz.prog w) F10 1000 m11 = true := by kernel_rfl
theorem o11 (w : World) : Abs.FOk (Abs.Env.of Tryz.prog w) F11 := Abs.FOk.memo rfl (o10 w) (c11 w)

/-- A call of function 58. -/
def m12 : Abs.Mem :=
  ⟨58, [(.agg [(.data 1 false [(.sc (.int Go.IntKind.i64 (0)))]), (.sc (.slice none 0 0))]), (.agg [(.data 1 false [(.sc (.int Go.IntKind.i64 (0)))]), (.data 1 false [(.sc (.int Go.IntKind.i64 (0)))])])], [(.ret (.sc (.string ⟨#[48, 32, 48, 32, 48, 32]⟩)))]⟩
noncomputable def F12 : Abs.FTab := F11.memoT [m12]
theorem c12 (w : World) : Abs.memOkT (Abs.Env.of Tryz.prog w) F11 1000 m12 = true := by kernel_rfl
theorem o12 (w : World) : Abs.FOk (Abs.Env.of Tryz.prog w) F12 := Abs.FOk.memoT rfl (o11 w) (c12 w)

/-- A call of function 133. -/
def m13 : Abs.Mem :=
  ⟨133, [(.iptr [(.sc (.int Go.IntKind.i64 (1))), (.sc (.slice none 0 0)), (.sc (.slice none 0 0)), (.sc (.slice none 0 0)), (.data 3 false [(.agg [(.sc (.int Go.IntKind.i64 (0))), (.data 3 false [(.agg [(.sc (.int Go.IntKind.i64 (0))), (.data 4 false [(.agg [(.sc (.int Go.IntKind.i64 (1))), (.sc (.bool false)), (.sc (.bool false)), (.sc (.int Go.IntKind.i64 (2)))])]), (.sc (.int Go.IntKind.i64 (0)))]), (.agg [(.sc (.int Go.IntKind.i64 (0))), (.sc (.slice none 0 0)), (.sc (.int Go.IntKind.i64 (0)))])]), (.data 13 false [(.agg [(.sc (.int Go.IntKind.i64 (0))), (.sc (.int Go.IntKind.i64 (1))), (.data 4 false [(.agg [(.sc (.int Go.IntKind.i64 (1))), (.sc (.bool true)), (.sc (.bool false)), (.sc (.int Go.IntKind.i64 (1)))])]), (.sc (.int Go.IntKind.i64 (0))), (.sc (.string ⟨#[]⟩)), (.sc (.int Go.IntKind.i64 (0))), (.sc (.slice none 0 0)), (.sc (.int Go.IntKind.i64 (-1))), (.sc (.bool false)), (.sc (.slice none 0 0)), (.data 2 false [(.agg [(.sc (.int Go.IntKind.i64 (1))), (.sc (.int Go.IntKind.i64 (0)))])]), (.sc (.int Go.IntKind.i64 (0))), (.sc (.int Go.IntKind.i64 (0)))]), (.agg [(.sc (.int Go.IntKind.i64 (1))), (.sc (.int Go.IntKind.i64 (1))), (.data 4 false [(.agg [(.sc (.int Go.IntKind.i64 (1))), (.sc (.bool true)), (.sc (.bool true)), (.sc (.int Go.IntKind.i64 (3)))])]), (.sc (.int Go.IntKind.i64 (0))), (.sc (.string ⟨#[]⟩)), (.sc (.int Go.IntKind.i64 (0))), (.sc (.slice none 0 0)), (.sc (.int Go.IntKind.i64 (-1))), (.sc (.bool false)), (.sc (.slice none 0 0)), (.sc (.slice none 0 0)), (.sc (.int Go.IntKind.i64 (0))), (.sc (.int Go.IntKind.i64 (0)))])])])]), (.sc (.slice none 0 0))]), (.agg [(.data 1 false [(.sc (.int Go.IntKind.i64 (0)))]), (.sc (.slice none 0 0))])], [(.ret (.data 1 false [(.data 1 false [(.sc (.int Go.IntKind.i64 (0)))])]))]⟩
noncomputable def F13 : Abs.FTab := F12.memo [m13]
theorem c13 (w : World) : Abs.memOk (Abs.Env.of Tryz.prog w) F12 1000 m13 = true := by kernel_rfl
theorem o13 (w : World) : Abs.FOk (Abs.Env.of Tryz.prog w) F13 := Abs.FOk.memo rfl (o12 w) (c13 w)

/-- A call of function 103. -/
def m14 : Abs.Mem :=
  ⟨103, [(.iptr [(.sc (.int Go.IntKind.i64 (1))), (.sc (.slice none 0 0)), (.sc (.slice none 0 0)), (.sc (.slice none 0 0)), (.data 3 false [(.agg [(.sc (.int Go.IntKind.i64 (0))), (.data 3 false [(.agg [(.sc (.int Go.IntKind.i64 (0))), (.data 4 false [(.agg [(.sc (.int Go.IntKind.i64 (1))), (.sc (.bool false)), (.sc (.bool false)), (.sc (.int Go.IntKind.i64 (2)))])]), (.sc (.int Go.IntKind.i64 (0)))]), (.agg [(.sc (.int Go.IntKind.i64 (0))), (.sc (.slice none 0 0)), (.sc (.int Go.IntKind.i64 (0)))])]), (.data 13 false [(.agg [(.sc (.int Go.IntKind.i64 (0))), (.sc (.int Go.IntKind.i64 (1))), (.data 4 false [(.agg [(.sc (.int Go.IntKind.i64 (1))), (.sc (.bool true)), (.sc (.bool false)), (.sc (.int Go.IntKind.i64 (1)))])]), (.sc (.int Go.IntKind.i64 (0))), (.sc (.string ⟨#[]⟩)), (.sc (.int Go.IntKind.i64 (0))), (.sc (.slice none 0 0)), (.sc (.int Go.IntKind.i64 (-1))), (.sc (.bool false)), (.sc (.slice none 0 0)), (.data 2 false [(.agg [(.sc (.int Go.IntKind.i64 (1))), (.sc (.int Go.IntKind.i64 (0)))])]), (.sc (.int Go.IntKind.i64 (0))), (.sc (.int Go.IntKind.i64 (0)))]), (.agg [(.sc (.int Go.IntKind.i64 (1))), (.sc (.int Go.IntKind.i64 (1))), (.data 4 false [(.agg [(.sc (.int Go.IntKind.i64 (1))), (.sc (.bool true)), (.sc (.bool true)), (.sc (.int Go.IntKind.i64 (3)))])]), (.sc (.int Go.IntKind.i64 (0))), (.sc (.string ⟨#[]⟩)), (.sc (.int Go.IntKind.i64 (0))), (.sc (.slice none 0 0)), (.sc (.int Go.IntKind.i64 (-1))), (.sc (.bool false)), (.sc (.slice none 0 0)), (.sc (.slice none 0 0)), (.sc (.int Go.IntKind.i64 (0))), (.sc (.int Go.IntKind.i64 (0)))])])])]), (.sc (.slice none 0 0))]), (.agg [(.data 1 false [(.sc (.int Go.IntKind.i64 (0)))]), (.sc (.slice none 0 0))])], [(.ret (.sc (.bool false)))]⟩
noncomputable def F14 : Abs.FTab := F13.memo [m14]
theorem c14 (w : World) : Abs.memOk (Abs.Env.of Tryz.prog w) F13 1000 m14 = true := by kernel_rfl
theorem o14 (w : World) : Abs.FOk (Abs.Env.of Tryz.prog w) F14 := Abs.FOk.memo rfl (o13 w) (c14 w)

/-- A call of function 65. -/
def m15 : Abs.Mem :=
  ⟨65, [(.agg [(.sc (.int Go.IntKind.i64 (1))), (.sc (.slice none 0 0)), (.sc (.slice none 0 0)), (.sc (.slice none 0 0)), (.data 3 false [(.agg [(.sc (.int Go.IntKind.i64 (0))), (.data 3 false [(.agg [(.sc (.int Go.IntKind.i64 (0))), (.data 4 false [(.agg [(.sc (.int Go.IntKind.i64 (1))), (.sc (.bool false)), (.sc (.bool false)), (.sc (.int Go.IntKind.i64 (2)))])]), (.sc (.int Go.IntKind.i64 (0)))]), (.agg [(.sc (.int Go.IntKind.i64 (0))), (.sc (.slice none 0 0)), (.sc (.int Go.IntKind.i64 (0)))])]), (.data 13 false [(.agg [(.sc (.int Go.IntKind.i64 (0))), (.sc (.int Go.IntKind.i64 (1))), (.data 4 false [(.agg [(.sc (.int Go.IntKind.i64 (1))), (.sc (.bool true)), (.sc (.bool false)), (.sc (.int Go.IntKind.i64 (1)))])]), (.sc (.int Go.IntKind.i64 (0))), (.sc (.string ⟨#[]⟩)), (.sc (.int Go.IntKind.i64 (0))), (.sc (.slice none 0 0)), (.sc (.int Go.IntKind.i64 (-1))), (.sc (.bool false)), (.sc (.slice none 0 0)), (.data 2 false [(.agg [(.sc (.int Go.IntKind.i64 (1))), (.sc (.int Go.IntKind.i64 (0)))])]), (.sc (.int Go.IntKind.i64 (0))), (.sc (.int Go.IntKind.i64 (0)))]), (.agg [(.sc (.int Go.IntKind.i64 (1))), (.sc (.int Go.IntKind.i64 (1))), (.data 4 false [(.agg [(.sc (.int Go.IntKind.i64 (1))), (.sc (.bool true)), (.sc (.bool true)), (.sc (.int Go.IntKind.i64 (3)))])]), (.sc (.int Go.IntKind.i64 (0))), (.sc (.string ⟨#[]⟩)), (.sc (.int Go.IntKind.i64 (0))), (.sc (.slice none 0 0)), (.sc (.int Go.IntKind.i64 (-1))), (.sc (.bool false)), (.sc (.slice none 0 0)), (.sc (.slice none 0 0)), (.sc (.int Go.IntKind.i64 (0))), (.sc (.int Go.IntKind.i64 (0)))])])])])]), (.agg [(.data 1 false [(.sc (.int Go.IntKind.i64 (0)))]), (.sc (.slice none 0 0))])], [(.ret (.tuple [(.sc (.bool false)), (.sc (.int Go.IntKind.i64 (0)))]))]⟩
noncomputable def F15 : Abs.FTab := F14.memo [m15]
theorem c15 (w : World) : Abs.memOk (Abs.Env.of Tryz.prog w) F14 1000 m15 = true := by kernel_rfl
theorem o15 (w : World) : Abs.FOk (Abs.Env.of Tryz.prog w) F15 := Abs.FOk.memo rfl (o14 w) (c15 w)

/-- A call of function 66. -/
def m16 : Abs.Mem :=
  ⟨66, [(.agg [(.sc (.int Go.IntKind.i64 (1))), (.sc (.slice none 0 0)), (.sc (.slice none 0 0)), (.sc (.slice none 0 0)), (.data 3 false [(.agg [(.sc (.int Go.IntKind.i64 (0))), (.data 3 false [(.agg [(.sc (.int Go.IntKind.i64 (0))), (.data 4 false [(.agg [(.sc (.int Go.IntKind.i64 (1))), (.sc (.bool false)), (.sc (.bool false)), (.sc (.int Go.IntKind.i64 (2)))])]), (.sc (.int Go.IntKind.i64 (0)))]), (.agg [(.sc (.int Go.IntKind.i64 (0))), (.sc (.slice none 0 0)), (.sc (.int Go.IntKind.i64 (0)))])]), (.data 13 false [(.agg [(.sc (.int Go.IntKind.i64 (0))), (.sc (.int Go.IntKind.i64 (1))), (.data 4 false [(.agg [(.sc (.int Go.IntKind.i64 (1))), (.sc (.bool true)), (.sc (.bool false)), (.sc (.int Go.IntKind.i64 (1)))])]), (.sc (.int Go.IntKind.i64 (0))), (.sc (.string ⟨#[]⟩)), (.sc (.int Go.IntKind.i64 (0))), (.sc (.slice none 0 0)), (.sc (.int Go.IntKind.i64 (-1))), (.sc (.bool false)), (.sc (.slice none 0 0)), (.data 2 false [(.agg [(.sc (.int Go.IntKind.i64 (1))), (.sc (.int Go.IntKind.i64 (0)))])]), (.sc (.int Go.IntKind.i64 (0))), (.sc (.int Go.IntKind.i64 (0)))]), (.agg [(.sc (.int Go.IntKind.i64 (1))), (.sc (.int Go.IntKind.i64 (1))), (.data 4 false [(.agg [(.sc (.int Go.IntKind.i64 (1))), (.sc (.bool true)), (.sc (.bool true)), (.sc (.int Go.IntKind.i64 (3)))])]), (.sc (.int Go.IntKind.i64 (0))), (.sc (.string ⟨#[]⟩)), (.sc (.int Go.IntKind.i64 (0))), (.sc (.slice none 0 0)), (.sc (.int Go.IntKind.i64 (-1))), (.sc (.bool false)), (.sc (.slice none 0 0)), (.sc (.slice none 0 0)), (.sc (.int Go.IntKind.i64 (0))), (.sc (.int Go.IntKind.i64 (0)))])])])])]), (.agg [(.data 1 false [(.sc (.int Go.IntKind.i64 (0)))]), (.sc (.slice none 0 0))])], [(.ret (.tuple [(.data 4 false [(.agg [(.sc (.int Go.IntKind.i64 (1))), (.sc (.bool false)), (.sc (.bool false)), (.sc (.int Go.IntKind.i64 (2)))])]), (.sc (.int Go.IntKind.i64 (0)))]))]⟩
noncomputable def F16 : Abs.FTab := F15.memo [m16]
theorem c16 (w : World) : Abs.memOk (Abs.Env.of Tryz.prog w) F15 1000 m16 = true := by kernel_rfl
theorem o16 (w : World) : Abs.FOk (Abs.Env.of Tryz.prog w) F16 := Abs.FOk.memo rfl (o15 w) (c16 w)

/-- A call of function 105. -/
def m17 : Abs.Mem :=
  ⟨105, [(.iptr [(.sc (.int Go.IntKind.i64 (1))), (.sc (.slice none 0 0)), (.sc (.slice none 0 0)), (.sc (.slice none 0 0)), (.data 3 false [(.agg [(.sc (.int Go.IntKind.i64 (0))), (.data 3 false [(.agg [(.sc (.int Go.IntKind.i64 (0))), (.data 4 false [(.agg [(.sc (.int Go.IntKind.i64 (1))), (.sc (.bool false)), (.sc (.bool false)), (.sc (.int Go.IntKind.i64 (2)))])]), (.sc (.int Go.IntKind.i64 (0)))]), (.agg [(.sc (.int Go.IntKind.i64 (0))), (.sc (.slice none 0 0)), (.sc (.int Go.IntKind.i64 (0)))])]), (.data 13 false [(.agg [(.sc (.int Go.IntKind.i64 (0))), (.sc (.int Go.IntKind.i64 (1))), (.data 4 false [(.agg [(.sc (.int Go.IntKind.i64 (1))), (.sc (.bool true)), (.sc (.bool false)), (.sc (.int Go.IntKind.i64 (1)))])]), (.sc (.int Go.IntKind.i64 (0))), (.sc (.string ⟨#[]⟩)), (.sc (.int Go.IntKind.i64 (0))), (.sc (.slice none 0 0)), (.sc (.int Go.IntKind.i64 (-1))), (.sc (.bool false)), (.sc (.slice none 0 0)), (.data 2 false [(.agg [(.sc (.int Go.IntKind.i64 (1))), (.sc (.int Go.IntKind.i64 (0)))])]), (.sc (.int Go.IntKind.i64 (0))), (.sc (.int Go.IntKind.i64 (0)))]), (.agg [(.sc (.int Go.IntKind.i64 (1))), (.sc (.int Go.IntKind.i64 (1))), (.data 4 false [(.agg [(.sc (.int Go.IntKind.i64 (1))), (.sc (.bool true)), (.sc (.bool true)), (.sc (.int Go.IntKind.i64 (3)))])]), (.sc (.int Go.IntKind.i64 (0))), (.sc (.string ⟨#[]⟩)), (.sc (.int Go.IntKind.i64 (0))), (.sc (.slice none 0 0)), (.sc (.int Go.IntKind.i64 (-1))), (.sc (.bool false)), (.sc (.slice none 0 0)), (.sc (.slice none 0 0)), (.sc (.int Go.IntKind.i64 (0))), (.sc (.int Go.IntKind.i64 (0)))])])])]), (.sc (.slice none 0 0))]), (.agg [(.data 1 false [(.sc (.int Go.IntKind.i64 (0)))]), (.sc (.slice none 0 0))])], [(.ret (.tuple [(.data 7 false [(.agg [(.data 2 false [(.agg [(.sc (.int Go.IntKind.i64 (0))), (.sc (.int Go.IntKind.i64 (0)))])]), (.data 1 false [(.sc (.int Go.IntKind.i64 (1)))]), (.sc (.slice none 0 0)), (.data 4 false [(.agg [(.sc (.int Go.IntKind.i64 (1))), (.sc (.bool true)), (.sc (.bool false)), (.sc (.int Go.IntKind.i64 (1)))])]), (.data 2 false [(.agg [(.sc (.int Go.IntKind.i64 (1))), (.sc (.int Go.IntKind.i64 (0)))])]), (.sc (.int Go.IntKind.i64 (0))), (.sc (.int Go.IntKind.i64 (0)))])]), (.sc (.int Go.IntKind.i64 (0)))]))]⟩
noncomputable def F17 : Abs.FTab := F16.memo [m17]
theorem c17 (w : World) : Abs.memOk (Abs.Env.of Tryz.prog w) F16 1000 m17 = true := by kernel_rfl
theorem o17 (w : World) : Abs.FOk (Abs.Env.of Tryz.prog w) F17 := Abs.FOk.memo rfl (o16 w) (c17 w)

/-- A call of function 67. -/
def m18 : Abs.Mem :=
  ⟨67, [(.agg [(.sc (.int Go.IntKind.i64 (1))), (.sc (.slice none 0 0)), (.sc (.slice none 0 0)), (.sc (.slice none 0 0)), (.data 3 false [(.agg [(.sc (.int Go.IntKind.i64 (0))), (.data 3 false [(.agg [(.sc (.int Go.IntKind.i64 (0))), (.data 4 false [(.agg [(.sc (.int Go.IntKind.i64 (1))), (.sc (.bool false)), (.sc (.bool false)), (.sc (.int Go.IntKind.i64 (2)))])]), (.sc (.int Go.IntKind.i64 (0)))]), (.agg [(.sc (.int Go.IntKind.i64 (0))), (.sc (.slice none 0 0)), (.sc (.int Go.IntKind.i64 (0)))])]), (.data 13 false [(.agg [(.sc (.int Go.IntKind.i64 (0))), (.sc (.int Go.IntKind.i64 (1))), (.data 4 false [(.agg [(.sc (.int Go.IntKind.i64 (1))), (.sc (.bool true)), (.sc (.bool false)), (.sc (.int Go.IntKind.i64 (1)))])]), (.sc (.int Go.IntKind.i64 (0))), (.sc (.string ⟨#[]⟩)), (.sc (.int Go.IntKind.i64 (0))), (.sc (.slice none 0 0)), (.sc (.int Go.IntKind.i64 (-1))), (.sc (.bool false)), (.sc (.slice none 0 0)), (.data 2 false [(.agg [(.sc (.int Go.IntKind.i64 (1))), (.sc (.int Go.IntKind.i64 (0)))])]), (.sc (.int Go.IntKind.i64 (0))), (.sc (.int Go.IntKind.i64 (0)))]), (.agg [(.sc (.int Go.IntKind.i64 (1))), (.sc (.int Go.IntKind.i64 (1))), (.data 4 false [(.agg [(.sc (.int Go.IntKind.i64 (1))), (.sc (.bool true)), (.sc (.bool true)), (.sc (.int Go.IntKind.i64 (3)))])]), (.sc (.int Go.IntKind.i64 (0))), (.sc (.string ⟨#[]⟩)), (.sc (.int Go.IntKind.i64 (0))), (.sc (.slice none 0 0)), (.sc (.int Go.IntKind.i64 (-1))), (.sc (.bool false)), (.sc (.slice none 0 0)), (.sc (.slice none 0 0)), (.sc (.int Go.IntKind.i64 (0))), (.sc (.int Go.IntKind.i64 (0)))])])])])]), (.agg [(.data 1 false [(.sc (.int Go.IntKind.i64 (0)))]), (.sc (.slice none 0 0))])], [(.ret (.tuple [(.data 7 false [(.agg [(.data 2 false [(.agg [(.sc (.int Go.IntKind.i64 (0))), (.sc (.int Go.IntKind.i64 (0)))])]), (.data 1 false [(.sc (.int Go.IntKind.i64 (1)))]), (.sc (.slice none 0 0)), (.data 4 false [(.agg [(.sc (.int Go.IntKind.i64 (1))), (.sc (.bool true)), (.sc (.bool false)), (.sc (.int Go.IntKind.i64 (1)))])]), (.data 2 false [(.agg [(.sc (.int Go.IntKind.i64 (1))), (.sc (.int Go.IntKind.i64 (0)))])]), (.sc (.int Go.IntKind.i64 (0))), (.sc (.int Go.IntKind.i64 (0)))])]), (.sc (.int Go.IntKind.i64 (0)))]))]⟩
noncomputable def F18 : Abs.FTab := F17.memo [m18]
theorem c18 (w : World) : Abs.memOk (Abs.Env.of Tryz.prog w) F17 1000 m18 = true := by kernel_rfl
theorem o18 (w : World) : Abs.FOk (Abs.Env.of Tryz.prog w) F18 := Abs.FOk.memo rfl (o17 w) (c18 w)

/-- A call of function 99. -/
def m19 : Abs.Mem :=
  ⟨99, [(.sc (.int Go.IntKind.i64 (1))), (.sc (.int Go.IntKind.i64 (36)))], [(.ret (.sc (.string ⟨#[49]⟩)))]⟩
noncomputable def F19 : Abs.FTab := F18.memo [m19]
theorem c19 (w : World) : Abs.memOk (Abs.Env.of Tryz.prog w) F18 1000 m19 = true := by kernel_rfl
theorem o19 (w : World) : Abs.FOk (Abs.Env.of Tryz.prog w) F19 := Abs.FOk.memo rfl (o18 w) (c19 w)

/-- A call of function 58. -/
def m20 : Abs.Mem :=
  ⟨58, [(.agg [(.data 1 false [(.sc (.int Go.IntKind.i64 (0)))]), (.sc (.slice none 0 0))]), (.agg [(.data 1 false [(.sc (.int Go.IntKind.i64 (0)))]), (.data 1 false [(.sc (.int Go.IntKind.i64 (1)))])])], [(.ret (.sc (.string ⟨#[48, 32, 48, 32, 49, 32]⟩)))]⟩
noncomputable def F20 : Abs.FTab := F19.memoT [m20]
theorem c20 (w : World) : Abs.memOkT (Abs.Env.of Tryz.prog w) F19 1000 m20 = true := by kernel_rfl
theorem o20 (w : World) : Abs.FOk (Abs.Env.of Tryz.prog w) F20 := Abs.FOk.memoT rfl (o19 w) (c20 w)

/-- A call of function 58. -/
def m21 : Abs.Mem :=
  ⟨58, [(.agg [(.data 1 false [(.sc (.int Go.IntKind.i64 (0)))]), (.sc (.slice none 0 0))]), (.agg [(.data 1 false [(.sc (.int Go.IntKind.i64 (1)))]), (.data 1 false [(.sc (.int Go.IntKind.i64 (0)))])])], [(.ret (.sc (.string ⟨#[48, 32, 49, 32, 48, 32]⟩)))]⟩
noncomputable def F21 : Abs.FTab := F20.memoT [m21]
theorem c21 (w : World) : Abs.memOkT (Abs.Env.of Tryz.prog w) F20 1000 m21 = true := by kernel_rfl
theorem o21 (w : World) : Abs.FOk (Abs.Env.of Tryz.prog w) F21 := Abs.FOk.memoT rfl (o20 w) (c21 w)

/-- A call of function 58. -/
def m22 : Abs.Mem :=
  ⟨58, [(.agg [(.data 1 false [(.sc (.int Go.IntKind.i64 (0)))]), (.sc (.slice none 0 0))]), (.agg [(.data 1 false [(.sc (.int Go.IntKind.i64 (1)))]), (.data 1 false [(.sc (.int Go.IntKind.i64 (1)))])])], [(.ret (.sc (.string ⟨#[48, 32, 49, 32, 49, 32]⟩)))]⟩
noncomputable def F22 : Abs.FTab := F21.memoT [m22]
theorem c22 (w : World) : Abs.memOkT (Abs.Env.of Tryz.prog w) F21 1000 m22 = true := by kernel_rfl
theorem o22 (w : World) : Abs.FOk (Abs.Env.of Tryz.prog w) F22 := Abs.FOk.memoT rfl (o21 w) (c22 w)

/-- A call of function 66. -/
def m23 : Abs.Mem :=
  ⟨66, [(.agg [(.sc (.int Go.IntKind.i64 (1))), (.sc (.slice none 0 0)), (.sc (.slice none 0 0)), (.sc (.slice none 0 0)), (.data 3 false [(.agg [(.sc (.int Go.IntKind.i64 (0))), (.data 3 false [(.agg [(.sc (.int Go.IntKind.i64 (0))), (.data 4 false [(.agg [(.sc (.int Go.IntKind.i64 (1))), (.sc (.bool false)), (.sc (.bool false)), (.sc (.int Go.IntKind.i64 (2)))])]), (.sc (.int Go.IntKind.i64 (0)))]), (.agg [(.sc (.int Go.IntKind.i64 (0))), (.sc (.slice none 0 0)), (.sc (.int Go.IntKind.i64 (0)))])]), (.data 13 false [(.agg [(.sc (.int Go.IntKind.i64 (0))), (.sc (.int Go.IntKind.i64 (1))), (.data 4 false [(.agg [(.sc (.int Go.IntKind.i64 (1))), (.sc (.bool true)), (.sc (.bool false)), (.sc (.int Go.IntKind.i64 (1)))])]), (.sc (.int Go.IntKind.i64 (0))), (.sc (.string ⟨#[]⟩)), (.sc (.int Go.IntKind.i64 (0))), (.sc (.slice none 0 0)), (.sc (.int Go.IntKind.i64 (-1))), (.sc (.bool false)), (.sc (.slice none 0 0)), (.data 2 false [(.agg [(.sc (.int Go.IntKind.i64 (1))), (.sc (.int Go.IntKind.i64 (0)))])]), (.sc (.int Go.IntKind.i64 (0))), (.sc (.int Go.IntKind.i64 (0)))]), (.agg [(.sc (.int Go.IntKind.i64 (1))), (.sc (.int Go.IntKind.i64 (1))), (.data 4 false [(.agg [(.sc (.int Go.IntKind.i64 (1))), (.sc (.bool true)), (.sc (.bool true)), (.sc (.int Go.IntKind.i64 (3)))])]), (.sc (.int Go.IntKind.i64 (0))), (.sc (.string ⟨#[]⟩)), (.sc (.int Go.IntKind.i64 (0))), (.sc (.slice none 0 0)), (.sc (.int Go.IntKind.i64 (-1))), (.sc (.bool false)), (.sc (.slice none 0 0)), (.sc (.slice none 0 0)), (.sc (.int Go.IntKind.i64 (0))), (.sc (.int Go.IntKind.i64 (0)))])])])])]), (.agg [(.data 1 false [(.sc (.int Go.IntKind.i64 (1)))]), (.sc (.slice none 0 0))])], [(.ret (.tuple [(.sc (.slice none 0 0)), (.sc (.int Go.IntKind.i64 (0)))]))]⟩
noncomputable def F23 : Abs.FTab := F22.memo [m23]
theorem c23 (w : World) : Abs.memOk (Abs.Env.of Tryz.prog w) F22 1000 m23 = true := by kernel_rfl
theorem o23 (w : World) : Abs.FOk (Abs.Env.of Tryz.prog w) F23 := Abs.FOk.memo rfl (o22 w) (c23 w)

/-- A call of function 58. -/
def m24 : Abs.Mem :=
  ⟨58, [(.agg [(.data 1 false [(.sc (.int Go.IntKind.i64 (1)))]), (.sc (.slice none 0 0))]), (.agg [(.data 1 false [(.sc (.int Go.IntKind.i64 (0)))]), (.data 1 false [(.sc (.int Go.IntKind.i64 (0)))])])], [(.ret (.sc (.string ⟨#[49, 32, 48, 32, 48, 32]⟩)))]⟩
noncomputable def F24 : Abs.FTab := F23.memoT [m24]
theorem c24 (w : World) : Abs.memOkT (Abs.Env.of Tryz.prog w) F23 1000 m24 = true := by kernel_rfl
theorem o24 (w : World) : Abs.FOk (Abs.Env.of Tryz.prog w) F24 := Abs.FOk.memoT rfl (o23 w) (c24 w)

/-- A call of function 99. -/
def m25 : Abs.Mem :=
  ⟨99, [(.sc (.int Go.IntKind.i64 (2))), (.sc (.int Go.IntKind.i64 (36)))], [(.ret (.sc (.string ⟨#[50]⟩)))]⟩
noncomputable def F25 : Abs.FTab := F24.memo [m25]
theorem c25 (w : World) : Abs.memOk (Abs.Env.of Tryz.prog w) F24 1000 m25 = true := by kernel_rfl
theorem o25 (w : World) : Abs.FOk (Abs.Env.of Tryz.prog w) F25 := Abs.FOk.memo rfl (o24 w) (c25 w)

/-- A call of function 58. -/
def m26 : Abs.Mem :=
  ⟨58, [(.agg [(.data 1 false [(.sc (.int Go.IntKind.i64 (0)))]), (.sc (.slice none 0 0))]), (.agg [(.data 1 false [(.sc (.int Go.IntKind.i64 (2)))]), (.data 1 false [(.sc (.int Go.IntKind.i64 (0)))])])], [(.ret (.sc (.string ⟨#[48, 32, 50, 32, 48, 32]⟩)))]⟩
noncomputable def F26 : Abs.FTab := F25.memoT [m26]
theorem c26 (w : World) : Abs.memOkT (Abs.Env.of Tryz.prog w) F25 1000 m26 = true := by kernel_rfl
theorem o26 (w : World) : Abs.FOk (Abs.Env.of Tryz.prog w) F26 := Abs.FOk.memoT rfl (o25 w) (c26 w)

/-- A call of function 133. -/
def m27 : Abs.Mem :=
  ⟨133, [(.iptr [(.sc (.int Go.IntKind.i64 (1))), (.sc (.slice none 0 0)), (.sc (.slice none 0 0)), (.sc (.slice none 0 0)), (.data 3 false [(.agg [(.sc (.int Go.IntKind.i64 (0))), (.data 3 false [(.agg [(.sc (.int Go.IntKind.i64 (0))), (.data 4 false [(.agg [(.sc (.int Go.IntKind.i64 (1))), (.sc (.bool false)), (.sc (.bool false)), (.sc (.int Go.IntKind.i64 (2)))])]), (.sc (.int Go.IntKind.i64 (0)))]), (.agg [(.sc (.int Go.IntKind.i64 (0))), (.sc (.slice none 0 0)), (.sc (.int Go.IntKind.i64 (0)))])]), (.data 13 false [(.agg [(.sc (.int Go.IntKind.i64 (0))), (.sc (.int Go.IntKind.i64 (1))), (.data 4 false [(.agg [(.sc (.int Go.IntKind.i64 (1))), (.sc (.bool true)), (.sc (.bool false)), (.sc (.int Go.IntKind.i64 (1)))])]), (.sc (.int Go.IntKind.i64 (0))), (.sc (.string ⟨#[]⟩)), (.sc (.int Go.IntKind.i64 (0))), (.sc (.slice none 0 0)), (.sc (.int Go.IntKind.i64 (-1))), (.sc (.bool false)), (.sc (.slice none 0 0)), (.data 2 false [(.agg [(.sc (.int Go.IntKind.i64 (1))), (.sc (.int Go.IntKind.i64 (0)))])]), (.sc (.int Go.IntKind.i64 (0))), (.sc (.int Go.IntKind.i64 (0)))]), (.agg [(.sc (.int Go.IntKind.i64 (1))), (.sc (.int Go.IntKind.i64 (1))), (.data 4 false [(.agg [(.sc (.int Go.IntKind.i64 (1))), (.sc (.bool true)), (.sc (.bool true)), (.sc (.int Go.IntKind.i64 (3)))])]), (.sc (.int Go.IntKind.i64 (0))), (.sc (.string ⟨#[]⟩)), (.sc (.int Go.IntKind.i64 (0))), (.sc (.slice none 0 0)), (.sc (.int Go.IntKind.i64 (-1))), (.sc (.bool false)), (.sc (.slice none 0 0)), (.sc (.slice none 0 0)), (.sc (.int Go.IntKind.i64 (0))), (.sc (.int Go.IntKind.i64 (0)))])])])]), (.sc (.slice none 0 0))]), (.agg [(.data 1 false [(.sc (.int Go.IntKind.i64 (1)))]), (.sc (.slice none 0 0))])], [(.ret (.data 1 false [(.data 1 false [(.sc (.int Go.IntKind.i64 (1)))])]))]⟩
noncomputable def F27 : Abs.FTab := F26.memo [m27]
theorem c27 (w : World) : Abs.memOk (Abs.Env.of Tryz.prog w) F26 1000 m27 = true := by kernel_rfl
theorem o27 (w : World) : Abs.FOk (Abs.Env.of Tryz.prog w) F27 := Abs.FOk.memo rfl (o26 w) (c27 w)

/-- A call of function 103. -/
def m28 : Abs.Mem :=
  ⟨103, [(.iptr [(.sc (.int Go.IntKind.i64 (1))), (.sc (.slice none 0 0)), (.sc (.slice none 0 0)), (.sc (.slice none 0 0)), (.data 3 false [(.agg [(.sc (.int Go.IntKind.i64 (0))), (.data 3 false [(.agg [(.sc (.int Go.IntKind.i64 (0))), (.data 4 false [(.agg [(.sc (.int Go.IntKind.i64 (1))), (.sc (.bool false)), (.sc (.bool false)), (.sc (.int Go.IntKind.i64 (2)))])]), (.sc (.int Go.IntKind.i64 (0)))]), (.agg [(.sc (.int Go.IntKind.i64 (0))), (.sc (.slice none 0 0)), (.sc (.int Go.IntKind.i64 (0)))])]), (.data 13 false [(.agg [(.sc (.int Go.IntKind.i64 (0))), (.sc (.int Go.IntKind.i64 (1))), (.data 4 false [(.agg [(.sc (.int Go.IntKind.i64 (1))), (.sc (.bool true)), (.sc (.bool false)), (.sc (.int Go.IntKind.i64 (1)))])]), (.sc (.int Go.IntKind.i64 (0))), (.sc (.string ⟨#[]⟩)), (.sc (.int Go.IntKind.i64 (0))), (.sc (.slice none 0 0)), (.sc (.int Go.IntKind.i64 (-1))), (.sc (.bool false)), (.sc (.slice none 0 0)), (.data 2 false [(.agg [(.sc (.int Go.IntKind.i64 (1))), (.sc (.int Go.IntKind.i64 (0)))])]), (.sc (.int Go.IntKind.i64 (0))), (.sc (.int Go.IntKind.i64 (0)))]), (.agg [(.sc (.int Go.IntKind.i64 (1))), (.sc (.int Go.IntKind.i64 (1))), (.data 4 false [(.agg [(.sc (.int Go.IntKind.i64 (1))), (.sc (.bool true)), (.sc (.bool true)), (.sc (.int Go.IntKind.i64 (3)))])]), (.sc (.int Go.IntKind.i64 (0))), (.sc (.string ⟨#[]⟩)), (.sc (.int Go.IntKind.i64 (0))), (.sc (.slice none 0 0)), (.sc (.int Go.IntKind.i64 (-1))), (.sc (.bool false)), (.sc (.slice none 0 0)), (.sc (.slice none 0 0)), (.sc (.int Go.IntKind.i64 (0))), (.sc (.int Go.IntKind.i64 (0)))])])])]), (.sc (.slice none 0 0))]), (.agg [(.data 1 false [(.sc (.int Go.IntKind.i64 (1)))]), (.sc (.slice none 0 0))])], [(.ret (.sc (.bool false)))]⟩
noncomputable def F28 : Abs.FTab := F27.memo [m28]
theorem c28 (w : World) : Abs.memOk (Abs.Env.of Tryz.prog w) F27 1000 m28 = true := by kernel_rfl
theorem o28 (w : World) : Abs.FOk (Abs.Env.of Tryz.prog w) F28 := Abs.FOk.memo rfl (o27 w) (c28 w)

/-- A call of function 65. -/
def m29 : Abs.Mem :=
  ⟨65, [(.agg [(.sc (.int Go.IntKind.i64 (1))), (.sc (.slice none 0 0)), (.sc (.slice none 0 0)), (.sc (.slice none 0 0)), (.data 3 false [(.agg [(.sc (.int Go.IntKind.i64 (0))), (.data 3 false [(.agg [(.sc (.int Go.IntKind.i64 (0))), (.data 4 false [(.agg [(.sc (.int Go.IntKind.i64 (1))), (.sc (.bool false)), (.sc (.bool false)), (.sc (.int Go.IntKind.i64 (2)))])]), (.sc (.int Go.IntKind.i64 (0)))]), (.agg [(.sc (.int Go.IntKind.i64 (0))), (.sc (.slice none 0 0)), (.sc (.int Go.IntKind.i64 (0)))])]), (.data 13 false [(.agg [(.sc (.int Go.IntKind.i64 (0))), (.sc (.int Go.IntKind.i64 (1))), (.data 4 false [(.agg [(.sc (.int Go.IntKind.i64 (1))), (.sc (.bool true)), (.sc (.bool false)), (.sc (.int Go.IntKind.i64 (1)))])]), (.sc (.int Go.IntKind.i64 (0))), (.sc (.string ⟨#[]⟩)), (.sc (.int Go.IntKind.i64 (0))), (.sc (.slice none 0 0)), (.sc (.int Go.IntKind.i64 (-1))), (.sc (.bool false)), (.sc (.slice none 0 0)), (.data 2 false [(.agg [(.sc (.int Go.IntKind.i64 (1))), (.sc (.int Go.IntKind.i64 (0)))])]), (.sc (.int Go.IntKind.i64 (0))), (.sc (.int Go.IntKind.i64 (0)))]), (.agg [(.sc (.int Go.IntKind.i64 (1))), (.sc (.int Go.IntKind.i64 (1))), (.data 4 false [(.agg [(.sc (.int Go.IntKind.i64 (1))), (.sc (.bool true)), (.sc (.bool true)), (.sc (.int Go.IntKind.i64 (3)))])]), (.sc (.int Go.IntKind.i64 (0))), (.sc (.string ⟨#[]⟩)), (.sc (.int Go.IntKind.i64 (0))), (.sc (.slice none 0 0)), (.sc (.int Go.IntKind.i64 (-1))), (.sc (.bool false)), (.sc (.slice none 0 0)), (.sc (.slice none 0 0)), (.sc (.int Go.IntKind.i64 (0))), (.sc (.int Go.IntKind.i64 (0)))])])])])]), (.agg [(.data 1 false [(.sc (.int Go.IntKind.i64 (1)))]), (.sc (.slice none 0 0))])], [(.ret (.tuple [(.sc (.bool false)), (.sc (.int Go.IntKind.i64 (0)))]))]⟩
noncomputable def F29 : Abs.FTab := F28.memo [m29]
theorem c29 (w : World) : Abs.memOk (Abs.Env.of Tryz.prog w) F28 1000 m29 = true := by kernel_rfl
theorem o29 (w : World) : Abs.FOk (Abs.Env.of Tryz.prog w) F29 := Abs.FOk.memo rfl (o28 w) (c29 w)

/-- A call of function 105. -/
def m30 : Abs.Mem :=
  ⟨105, [(.iptr [(.sc (.int Go.IntKind.i64 (1))), (.sc (.slice none 0 0)), (.sc (.slice none 0 0)), (.sc (.slice none 0 0)), (.data 3 false [(.agg [(.sc (.int Go.IntKind.i64 (0))), (.data 3 false [(.agg [(.sc (.int Go.IntKind.i64 (0))), (.data 4 false [(.agg [(.sc (.int Go.IntKind.i64 (1))), (.sc (.bool false)), (.sc (.bool false)), (.sc (.int Go.IntKind.i64 (2)))])]), (.sc (.int Go.IntKind.i64 (0)))]), (.agg [(.sc (.int Go.IntKind.i64 (0))), (.sc (.slice none 0 0)), (.sc (.int Go.IntKind.i64 (0)))])]), (.data 13 false [(.agg [(.sc (.int Go.IntKind.i64 (0))), (.sc (.int Go.IntKind.i64 (1))), (.data 4 false [(.agg [(.sc (.int Go.IntKind.i64 (1))), (.sc (.bool true)), (.sc (.bool false)), (.sc (.int Go.IntKind.i64 (1)))])]), (.sc (.int Go.IntKind.i64 (0))), (.sc (.string ⟨#[]⟩)), (.sc (.int Go.IntKind.i64 (0))), (.sc (.slice none 0 0)), (.sc (.int Go.IntKind.i64 (-1))), (.sc (.bool false)), (.sc (.slice none 0 0)), (.data 2 false [(.agg [(.sc (.int Go.IntKind.i64 (1))), (.sc (.int Go.IntKind.i64 (0)))])]), (.sc (.int Go.IntKind.i64 (0))), (.sc (.int Go.IntKind.i64 (0)))]), (.agg [(.sc (.int Go.IntKind.i64 (1))), (.sc (.int Go.IntKind.i64 (1))), (.data 4 false [(.agg [(.sc (.int Go.IntKind.i64 (1))), (.sc (.bool true)), (.sc (.bool true)), (.sc (.int Go.IntKind.i64 (3)))])]), (.sc (.int Go.IntKind.i64 (0))), (.sc (.string ⟨#[]⟩)), (.sc (.int Go.IntKind.i64 (0))), (.sc (.slice none 0 0)), (.sc (.int Go.IntKind.i64 (-1))), (.sc (.bool false)), (.sc (.slice none 0 0)), (.sc (.slice none 0 0)), (.sc (.int Go.IntKind.i64 (0))), (.sc (.int Go.IntKind.i64 (0)))])])])]), (.sc (.slice none 0 0))]), (.agg [(.data 1 false [(.sc (.int Go.IntKind.i64 (1)))]), (.sc (.slice none 0 0))])], [(.ret (.tuple [(.data 7 false [(.agg [(.data 2 false [(.agg [(.sc (.int Go.IntKind.i64 (0))), (.sc (.int Go.IntKind.i64 (1)))])]), (.data 1 false [(.sc (.int Go.IntKind.i64 (1)))]), (.sc (.slice none 0 0)), (.data 4 false [(.agg [(.sc (.int Go.IntKind.i64 (1))), (.sc (.bool true)), (.sc (.bool true)), (.sc (.int Go.IntKind.i64 (3)))])]), (.sc (.slice none 0 0)), (.sc (.int Go.IntKind.i64 (0))), (.sc (.int Go.IntKind.i64 (0)))])]), (.sc (.int Go.IntKind.i64 (0)))]))]⟩
noncomputable def F30 : Abs.FTab := F29.memo [m30]
theorem c30 (w : World) : Abs.memOk (Abs.Env.of Tryz.prog w) F29 1000 m30 = true := by kernel_rfl
theorem o30 (w : World) : Abs.FOk (Abs.Env.of Tryz.prog w) F30 := Abs.FOk.memo rfl (o29 w) (c30 w)

/-- A call of function 67. -/
def m31 : Abs.Mem :=
  ⟨67, [(.agg [(.sc (.int Go.IntKind.i64 (1))), (.sc (.slice none 0 0)), (.sc (.slice none 0 0)), (.sc (.slice none 0 0)), (.data 3 false [(.agg [(.sc (.int Go.IntKind.i64 (0))), (.data 3 false [(.agg [(.sc (.int Go.IntKind.i64 (0))), (.data 4 false [(.agg [(.sc (.int Go.IntKind.i64 (1))), (.sc (.bool false)), (.sc (.bool false)), (.sc (.int Go.IntKind.i64 (2)))])]), (.sc (.int Go.IntKind.i64 (0)))]), (.agg [(.sc (.int Go.IntKind.i64 (0))), (.sc (.slice none 0 0)), (.sc (.int Go.IntKind.i64 (0)))])]), (.data 13 false [(.agg [(.sc (.int Go.IntKind.i64 (0))), (.sc (.int Go.IntKind.i64 (1))), (.data 4 false [(.agg [(.sc (.int Go.IntKind.i64 (1))), (.sc (.bool true)), (.sc (.bool false)), (.sc (.int Go.IntKind.i64 (1)))])]), (.sc (.int Go.IntKind.i64 (0))), (.sc (.string ⟨#[]⟩)), (.sc (.int Go.IntKind.i64 (0))), (.sc (.slice none 0 0)), (.sc (.int Go.IntKind.i64 (-1))), (.sc (.bool false)), (.sc (.slice none 0 0)), (.data 2 false [(.agg [(.sc (.int Go.IntKind.i64 (1))), (.sc (.int Go.IntKind.i64 (0)))])]), (.sc (.int Go.IntKind.i64 (0))), (.sc (.int Go.IntKind.i64 (0)))]), (.agg [(.sc (.int Go.IntKind.i64 (1))), (.sc (.int Go.IntKind.i64 (1))), (.data 4 false [(.agg [(.sc (.int Go.IntKind.i64 (1))), (.sc (.bool true)), (.sc (.bool true)), (.sc (.int Go.IntKind.i64 (3)))])]), (.sc (.int Go.IntKind.i64 (0))), (.sc (.string ⟨#[]⟩)), (.sc (.int Go.IntKind.i64 (0))), (.sc (.slice none 0 0)), (.sc (.int Go.IntKind.i64 (-1))), (.sc (.bool false)), (.sc (.slice none 0 0)), (.sc (.slice none 0 0)), (.sc (.int Go.IntKind.i64 (0))), (.sc (.int Go.IntKind.i64 (0)))])])])])]), (.agg [(.data 1 false [(.sc (.int Go.IntKind.i64 (1)))]), (.sc (.slice none 0 0))])], [(.ret (.tuple [(.data 7 false [(.agg [(.data 2 false [(.agg [(.sc (.int Go.IntKind.i64 (0))), (.sc (.int Go.IntKind.i64 (1)))])]), (.data 1 false [(.sc (.int Go.IntKind.i64 (1)))]), (.sc (.slice none 0 0)), (.data 4 false [(.agg [(.sc (.int Go.IntKind.i64 (1))), (.sc (.bool true)), (.sc (.bool true)), (.sc (.int Go.IntKind.i64 (3)))])]), (.sc (.slice none 0 0)), (.sc (.int Go.IntKind.i64 (0))), (.sc (.int Go.IntKind.i64 (0)))])]), (.sc (.int Go.IntKind.i64 (0)))]))]⟩
noncomputable def F31 : Abs.FTab := F30.memo [m31]
theorem c31 (w : World) : Abs.memOk (Abs.Env.of Tryz.prog w) F30 1000 m31 = true := by kernel_rfl
theorem o31 (w : World) : Abs.FOk (Abs.Env.of Tryz.prog w) F31 := Abs.FOk.memo rfl (o30 w) (c31 w)

/-- A call of function 58. -/
def m32 : Abs.Mem :=
  ⟨58, [(.agg [(.data 1 false [(.sc (.int Go.IntKind.i64 (1)))]), (.sc (.slice none 0 0))]), (.agg [(.data 1 false [(.sc (.int Go.IntKind.i64 (0)))]), (.data 1 false [(.sc (.int Go.IntKind.i64 (1)))])])], [(.ret (.sc (.string ⟨#[49, 32, 48, 32, 49, 32]⟩)))]⟩
noncomputable def F32 : Abs.FTab := F31.memoT [m32]
theorem c32 (w : World) : Abs.memOkT (Abs.Env.of Tryz.prog w) F31 1000 m32 = true := by kernel_rfl
theorem o32 (w : World) : Abs.FOk (Abs.Env.of Tryz.prog w) F32 := Abs.FOk.memoT rfl (o31 w) (c32 w)

/-- A call of function 58. -/
def m33 : Abs.Mem :=
  ⟨58, [(.agg [(.data 1 false [(.sc (.int Go.IntKind.i64 (1)))]), (.sc (.slice none 0 0))]), (.agg [(.data 1 false [(.sc (.int Go.IntKind.i64 (1)))]), (.data 1 false [(.sc (.int Go.IntKind.i64 (0)))])])], [(.ret (.sc (.string ⟨#[49, 32, 49, 32, 48, 32]⟩)))]⟩
noncomputable def F33 : Abs.FTab := F32.memoT [m33]
theorem c33 (w : World) : Abs.memOkT (Abs.Env.of Tryz.prog w) F32 1000 m33 = true := by kernel_rfl
theorem o33 (w : World) : Abs.FOk (Abs.Env.of Tryz.prog w) F33 := Abs.FOk.memoT rfl (o32 w) (c33 w)

/-- A call of function 58. -/
def m34 : Abs.Mem :=
  ⟨58, [(.agg [(.data 1 false [(.sc (.int Go.IntKind.i64 (1)))]), (.sc (.slice none 0 0))]), (.agg [(.data 1 false [(.sc (.int Go.IntKind.i64 (1)))]), (.data 1 false [(.sc (.int Go.IntKind.i64 (1)))])])], [(.ret (.sc (.string ⟨#[49, 32, 49, 32, 49, 32]⟩)))]⟩
noncomputable def F34 : Abs.FTab := F33.memoT [m34]
theorem c34 (w : World) : Abs.memOkT (Abs.Env.of Tryz.prog w) F33 1000 m34 = true := by kernel_rfl
theorem o34 (w : World) : Abs.FOk (Abs.Env.of Tryz.prog w) F34 := Abs.FOk.memoT rfl (o33 w) (c34 w)

/-- A call of function 58. -/
def m35 : Abs.Mem :=
  ⟨58, [(.agg [(.data 1 false [(.sc (.int Go.IntKind.i64 (1)))]), (.sc (.slice none 0 0))]), (.agg [(.data 1 false [(.sc (.int Go.IntKind.i64 (2)))]), (.data 1 false [(.sc (.int Go.IntKind.i64 (0)))])])], [(.ret (.sc (.string ⟨#[49, 32, 50, 32, 48, 32]⟩)))]⟩
noncomputable def F35 : Abs.FTab := F34.memoT [m35]
theorem c35 (w : World) : Abs.memOkT (Abs.Env.of Tryz.prog w) F34 1000 m35 = true := by kernel_rfl
theorem o35 (w : World) : Abs.FOk (Abs.Env.of Tryz.prog w) F35 := Abs.FOk.memoT rfl (o34 w) (c35 w)

/-- A call of function 58. -/
def m36 : Abs.Mem :=
  ⟨58, [(.agg [(.data 1 false [(.sc (.int Go.IntKind.i64 (1)))]), (.sc (.slice none 0 0))]), (.agg [(.data 1 false [(.sc (.int Go.IntKind.i64 (2)))]), (.data 1 false [(.sc (.int Go.IntKind.i64 (1)))])])], [(.ret (.sc (.string ⟨#[49, 32, 50, 32, 49, 32]⟩)))]⟩
noncomputable def F36 : Abs.FTab := F35.memoT [m36]
theorem c36 (w : World) : Abs.memOkT (Abs.Env.of Tryz.prog w) F35 1000 m36 = true := by kernel_rfl
theorem o36 (w : World) : Abs.FOk (Abs.Env.of Tryz.prog w) F36 := Abs.FOk.memoT rfl (o35 w) (c36 w)

/-- A call of function 99. -/
def m37 : Abs.Mem :=
  ⟨99, [(.sc (.int Go.IntKind.i64 (3))), (.sc (.int Go.IntKind.i64 (36)))], [(.ret (.sc (.string ⟨#[51]⟩)))]⟩
noncomputable def F37 : Abs.FTab := F36.memo [m37]
theorem c37 (w : World) : Abs.memOk (Abs.Env.of Tryz.prog w) F36 1000 m37 = true := by kernel_rfl
theorem o37 (w : World) : Abs.FOk (Abs.Env.of Tryz.prog w) F37 := Abs.FOk.memo rfl (o36 w) (c37 w)

/-- A call of function 58. -/
def m38 : Abs.Mem :=
  ⟨58, [(.agg [(.data 1 false [(.sc (.int Go.IntKind.i64 (1)))]), (.sc (.slice none 0 0))]), (.agg [(.data 1 false [(.sc (.int Go.IntKind.i64 (3)))]), (.data 1 false [(.sc (.int Go.IntKind.i64 (0)))])])], [(.ret (.sc (.string ⟨#[49, 32, 51, 32, 48, 32]⟩)))]⟩
noncomputable def F38 : Abs.FTab := F37.memoT [m38]
theorem c38 (w : World) : Abs.memOkT (Abs.Env.of Tryz.prog w) F37 1000 m38 = true := by kernel_rfl
theorem o38 (w : World) : Abs.FOk (Abs.Env.of Tryz.prog w) F38 := Abs.FOk.memoT rfl (o37 w) (c38 w)

/-- A call of function 99. -/
def m39 : Abs.Mem :=
  ⟨99, [(.sc (.int Go.IntKind.i64 (4))), (.sc (.int Go.IntKind.i64 (36)))], [(.ret (.sc (.string ⟨#[52]⟩)))]⟩
noncomputable def F39 : Abs.FTab := F38.memo [m39]
theorem c39 (w : World) : Abs.memOk (Abs.Env.of Tryz.prog w) F38 1000 m39 = true := by kernel_rfl
theorem o39 (w : World) : Abs.FOk (Abs.Env.of Tryz.prog w) F39 := Abs.FOk.memo rfl (o38 w) (c39 w)

/-- A call of function 58. -/
def m40 : Abs.Mem :=
  ⟨58, [(.agg [(.data 1 false [(.sc (.int Go.IntKind.i64 (1)))]), (.sc (.slice none 0 0))]), (.agg [(.data 1 false [(.sc (.int Go.IntKind.i64 (4)))]), (.data 1 false [(.sc (.int Go.IntKind.i64 (0)))])])], [(.ret (.sc (.string ⟨#[49, 32, 52, 32, 48, 32]⟩)))]⟩
noncomputable def F40 : Abs.FTab := F39.memoT [m40]
theorem c40 (w : World) : Abs.memOkT (Abs.Env.of Tryz.prog w) F39 1000 m40 = true := by kernel_rfl
theorem o40 (w : World) : Abs.FOk (Abs.Env.of Tryz.prog w) F40 := Abs.FOk.memoT rfl (o39 w) (c40 w)

end Go.Proofs.YtmimfnjcnndhpaaGreatDoor.regionKnown
