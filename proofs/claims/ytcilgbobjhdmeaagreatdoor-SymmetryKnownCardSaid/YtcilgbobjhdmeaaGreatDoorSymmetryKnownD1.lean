/-
  What single calls that the law SymmetryKnown makes return (part 1), by the values of the abstract layer. It proves no statement by itself.
-/
import Derived.Test.YtcilgbobjhdmeaaGreatDoorProg
import Derived.Test.YtcilgbobjhdmeaaGreatDoorAbsG18
import Derived.Test.YtcilgbobjhdmeaaGreatDoorAbsG19
import Derived.KernelRfl
namespace Go.Proofs.YtcilgbobjhdmeaaGreatDoor.symmetryKnown
open Go
/-- The variables that are known. -/
def vs : List (Nat × List Abs.AVal) := [(0, [.data 3 false [(.agg [(.sc (.bool false)), (.sc (.bool false)), (.func (.func 366) [] [])]), (.agg [(.sc (.bool false)), (.sc (.bool true)), (.func (.func 367) [] [])]), (.agg [(.sc (.bool true)), (.sc (.bool false)), (.func (.func 368) [] [])]), (.agg [(.sc (.bool true)), (.sc (.bool true)), (.func (.func 369) [] [])])]]), (1, [(.sc (.int .u64 1)), (.sc (.int .u64 10)), (.sc (.int .u64 100)), (.sc (.int .u64 1000)), (.sc (.int .u64 10000)), (.sc (.int .u64 100000)), (.sc (.int .u64 1000000)), (.sc (.int .u64 10000000)), (.sc (.int .u64 100000000)), (.sc (.int .u64 1000000000)), (.sc (.int .u64 10000000000)), (.sc (.int .u64 100000000000)), (.sc (.int .u64 1000000000000)), (.sc (.int .u64 10000000000000)), (.sc (.int .u64 100000000000000)), (.sc (.int .u64 1000000000000000)), (.sc (.int .u64 10000000000000000)), (.sc (.int .u64 100000000000000000)), (.sc (.int .u64 1000000000000000000)), (.sc (.int .u64 10000000000000000000))])]
noncomputable def G : Nat → Abs.AVal := Abs.manyG vs
noncomputable def F00 : Abs.FTab := Abs.ftabZ Tryz.prog [4, 10, 22, 35, 36, 53, 58, 66, 74, 75, 82, 105, 115, 116, 140, 153, 160, 188, 197, 200, 293, 317, 5, 6, 9, 14, 15, 18, 20, 33, 59, 61, 62, 101, 104, 149, 165, 198] [] [5, 6, 9, 14, 15, 18, 20, 33, 59, 61, 62, 101, 104, 149, 165, 198]
def h0 : Abs.Mem := ⟨178, [.sc (.int .i64 (-1)), .sc (.int .i64 10)], [.ret (.sc (.string ⟨#[45, 49]⟩))]⟩
def h1 : Abs.Mem := ⟨149, [.data 1 false [.sc (.string ⟨#[40, 49, 32, 48, 32, 49, 32, 48, 102, 97, 108, 115, 101, 102, 97, 108, 115, 101, 48, 32, 48, 46, 46, 48, 46, 48, 32, 41]⟩), .sc (.string ⟨#[40, 49, 32, 49, 32, 49, 32, 48, 102, 97, 108, 115, 101, 102, 97, 108, 115, 101, 48, 32, 48, 46, 46, 48, 46, 48, 32, 41]⟩)], .sc (.string ⟨#[]⟩)], [.ret (.sc (.string ⟨#[40, 49, 32, 48, 32, 49, 32, 48, 102, 97, 108, 115, 101, 102, 97, 108, 115, 101, 48, 32, 48, 46, 46, 48, 46, 48, 32, 41, 40, 49, 32, 49, 32, 49, 32, 48, 102, 97, 108, 115, 101, 102, 97, 108, 115, 101, 48, 32, 48, 46, 46, 48, 46, 48, 32, 41]⟩))]⟩
def h2 : Abs.Mem := ⟨149, [.data 1 false [.sc (.string ⟨#[40, 49, 32, 48, 32, 49, 32, 48, 102, 97, 108, 115, 101, 102, 97, 108, 115, 101, 48, 32, 48, 46, 46, 48, 46, 48, 32, 41]⟩), .sc (.string ⟨#[40, 49, 32, 49, 32, 49, 32, 48, 102, 97, 108, 115, 101, 102, 97, 108, 115, 101, 48, 32, 48, 46, 46, 48, 46, 48, 32, 41]⟩)], .sc (.string ⟨#[]⟩)], [.ret (.sc (.string ⟨#[40, 49, 32, 48, 32, 49, 32, 48, 102, 97, 108, 115, 101, 102, 97, 108, 115, 101, 48, 32, 48, 46, 46, 48, 46, 48, 32, 41, 40, 49, 32, 49, 32, 49, 32, 48, 102, 97, 108, 115, 101, 102, 97, 108, 115, 101, 48, 32, 48, 46, 46, 48, 46, 48, 32, 41]⟩))]⟩
noncomputable def F0 : Abs.FTab := (((F00.memo [h0]).memo [h1]).memoT [h2])
def gm : Nat := 133499229530915811488988519800423831529011545620884111813184133067675592427009932017979246432616
def m1 : Abs.Mem :=
  ⟨138, [(.agg [(.sc (.int Go.IntKind.i64 (0))), (.sc (.int Go.IntKind.i64 (0))), (.sc (.bool false))])], [(.ret (.sc (.bool true)))]⟩
noncomputable def F1 : Abs.FTab := F0.memo [m1]
def m2 : Abs.Mem :=
  ⟨81, [(.sc (.slice none 0 0))], [(.ret (.sc (.bool true)))]⟩
noncomputable def F2 : Abs.FTab := F1.memo [m2]
def m3 : Abs.Mem :=
  ⟨37, [(.sc (.slice none 0 0))], [(.ret (.sc (.int Go.IntKind.i64 (0))))]⟩
noncomputable def F3 : Abs.FTab := F2.memo [m3]
def m4 : Abs.Mem :=
  ⟨38, [(.sc (.slice none 0 0)), (.sc (.slice none 0 0)), (.sc (.slice none 0 0)), (.sc (.slice none 0 0)), (.sc (.slice none 0 0))], [(.ret (.data 1 false []))]⟩
noncomputable def F4 : Abs.FTab := F3.memo [m4]
def m5 : Abs.Mem :=
  ⟨40, [(.data 1 false [])], [(.ret (.sc (.bool true)))]⟩
noncomputable def F5 : Abs.FTab := F4.memo [m5]
def m6 : Abs.Mem :=
  ⟨88, [(.sc (.slice none 0 0)), (.sc (.slice none 0 0))], [(.ret (.tuple [(.sc (.int Go.IntKind.i64 (0))), (.sc (.int Go.IntKind.i64 (0)))]))]⟩
noncomputable def F6 : Abs.FTab := F5.memo [m6]
def m7 : Abs.Mem :=
  ⟨44, [(.sc (.int Go.IntKind.i64 (0))), (.sc (.int Go.IntKind.i64 (2)))], [(.ret (.sc (.bool true)))]⟩
noncomputable def F7 : Abs.FTab := F6.memo [m7]
def m8 : Abs.Mem :=
  ⟨44, [(.sc (.int Go.IntKind.i64 (0))), (.sc (.int Go.IntKind.i64 (3)))], [(.ret (.sc (.bool true)))]⟩
noncomputable def F8 : Abs.FTab := F7.memo [m8]
def m9 : Abs.Mem :=
  ⟨46, [(.sc (.int Go.IntKind.i64 (0)))], [(.ret (.sc (.bool true)))]⟩
noncomputable def F9 : Abs.FTab := F8.memo [m9]
def m10 : Abs.Mem :=
  ⟨45, [(.sc (.int Go.IntKind.i64 (2)))], [(.ret (.sc (.bool true)))]⟩
noncomputable def F10 : Abs.FTab := F9.memo [m10]
def m11 : Abs.Mem :=
  ⟨44, [(.sc (.int Go.IntKind.i64 (1))), (.sc (.int Go.IntKind.i64 (2)))], [(.ret (.sc (.bool true)))]⟩
noncomputable def F11 : Abs.FTab := F10.memo [m11]
def m12 : Abs.Mem :=
  ⟨45, [(.sc (.int Go.IntKind.i64 (1)))], [(.ret (.sc (.bool true)))]⟩
noncomputable def F12 : Abs.FTab := F11.memo [m12]
def m13 : Abs.Mem :=
  ⟨48, [(.agg [(.sc (.int Go.IntKind.i64 (0))), (.sc (.string ⟨#[]⟩)), (.sc (.int Go.IntKind.i64 (0))), (.sc (.slice none 0 0))])], [(.ret (.sc (.bool true)))]⟩
noncomputable def F13 : Abs.FTab := F12.memo [m13]
def k1 : Abs.AVal := .data 4 false [(.agg [(.sc (.int Go.IntKind.i64 (1))), (.sc (.bool false)), (.sc (.bool false)), (.sc (.int Go.IntKind.i64 (2)))])]
def k2 : Abs.AVal := .agg [(.sc (.int Go.IntKind.i64 (0))), k1, (.sc (.int Go.IntKind.i64 (0)))]
def k3 : Abs.AVal := .data 3 false [k2, (.agg [(.sc (.int Go.IntKind.i64 (0))), (.sc (.slice none 0 0)), (.sc (.int Go.IntKind.i64 (0)))])]
def k4 : Abs.AVal := .data 4 false [(.agg [(.sc (.int Go.IntKind.i64 (1))), (.sc (.bool true)), (.sc (.bool false)), (.sc (.int Go.IntKind.i64 (1)))])]
def k5 : Abs.AVal := .agg [(.sc (.int Go.IntKind.i64 (0))), (.sc (.int Go.IntKind.i64 (1))), k4, (.sc (.int Go.IntKind.i64 (0))), (.sc (.string ⟨#[]⟩)), (.sc (.int Go.IntKind.i64 (0))), (.sc (.slice none 0 0)), (.sc (.int Go.IntKind.i64 (-1))), (.sc (.bool false)), (.sc (.slice none 0 0)), (.sc (.slice none 0 0)), (.sc (.int Go.IntKind.i64 (0))), (.sc (.int Go.IntKind.i64 (0)))]
def k6 : Abs.AVal := .data 13 false [k5]
def k7 : Abs.AVal := .agg [(.sc (.int Go.IntKind.i64 (0))), k3, k6]
def k8 : Abs.AVal := .data 4 false [(.agg [(.sc (.int Go.IntKind.i64 (2))), (.sc (.bool false)), (.sc (.bool false)), (.sc (.int Go.IntKind.i64 (2)))])]
def k9 : Abs.AVal := .agg [(.sc (.int Go.IntKind.i64 (0))), k8, (.sc (.int Go.IntKind.i64 (0)))]
def k10 : Abs.AVal := .data 3 false [k9, (.agg [(.sc (.int Go.IntKind.i64 (0))), (.sc (.slice none 0 0)), (.sc (.int Go.IntKind.i64 (0)))])]
def k11 : Abs.AVal := .data 4 false [(.agg [(.sc (.int Go.IntKind.i64 (2))), (.sc (.bool true)), (.sc (.bool false)), (.sc (.int Go.IntKind.i64 (1)))])]
def k12 : Abs.AVal := .agg [(.sc (.int Go.IntKind.i64 (0))), (.sc (.int Go.IntKind.i64 (1))), k11, (.sc (.int Go.IntKind.i64 (0))), (.sc (.string ⟨#[]⟩)), (.sc (.int Go.IntKind.i64 (0))), (.sc (.slice none 0 0)), (.sc (.int Go.IntKind.i64 (-1))), (.sc (.bool false)), (.sc (.slice none 0 0)), (.sc (.slice none 0 0)), (.sc (.int Go.IntKind.i64 (0))), (.sc (.int Go.IntKind.i64 (0)))]
def k13 : Abs.AVal := .data 13 false [k12]
def k14 : Abs.AVal := .agg [(.sc (.int Go.IntKind.i64 (0))), k10, k13]
def k15 : Abs.AVal := .data 3 false [k7, k14]
def k16 : Abs.AVal := .agg [(.sc (.int Go.IntKind.i64 (2))), (.sc (.slice none 0 0)), (.sc (.slice none 0 0)), (.sc (.slice none 0 0)), k15]
def m14 : Abs.Mem :=
  ⟨12, [k16], [(.ret (.sc (.int Go.IntKind.i64 (0))))]⟩
noncomputable def F14 : Abs.FTab := F13.memo [m14]
def m15 : Abs.Mem :=
  ⟨65, [(.sc (.int Go.IntKind.i64 (1)))], [(.ret (.sc (.bool true)))]⟩
noncomputable def F15 : Abs.FTab := F14.memo [m15]
def k17 : Abs.AVal := .data 1 false [(.sc (.int Go.IntKind.i64 (1))), (.sc (.int Go.IntKind.i64 (1))), (.sc (.int Go.IntKind.i64 (1))), (.sc (.int Go.IntKind.i64 (1))), (.sc (.int Go.IntKind.i64 (1))), (.sc (.int Go.IntKind.i64 (1))), (.sc (.int Go.IntKind.i64 (1))), (.sc (.int Go.IntKind.i64 (1))), (.sc (.int Go.IntKind.i64 (1)))]
def m16 : Abs.Mem :=
  ⟨112, [(.sc (.int Go.IntKind.i64 (2))), k17], [(.ret (.sc (.bool true)))]⟩
noncomputable def F16 : Abs.FTab := F15.memo [m16]
def m17 : Abs.Mem :=
  ⟨113, [(.sc (.int Go.IntKind.i64 (1))), (.sc (.int Go.IntKind.i64 (1)))], [(.ret (.sc (.int Go.IntKind.i64 (1))))]⟩
noncomputable def F17 : Abs.FTab := F16.memo [m17]
def m18 : Abs.Mem :=
  ⟨63, [k16], [(.ret (.iptr [(.sc (.int Go.IntKind.i64 (2))), (.sc (.slice none 0 0)), (.sc (.slice none 0 0)), (.sc (.slice none 0 0)), k15, (.sc (.slice none 0 0))]))]⟩
noncomputable def F18 : Abs.FTab := F17.memo [m18]
def m19 : Abs.Mem :=
  ⟨64, [(.iptr [(.sc (.int Go.IntKind.i64 (2))), (.sc (.slice none 0 0)), (.sc (.slice none 0 0)), (.sc (.slice none 0 0)), k15, (.sc (.slice none 0 0))]), (.agg [(.data 1 false [(.sc (.int Go.IntKind.i64 (1))), (.sc (.int Go.IntKind.i64 (0)))]), (.sc (.slice none 0 0))])], [(.ret (.tuple [k8, (.sc (.int Go.IntKind.i64 (0)))]))]⟩
noncomputable def F19 : Abs.FTab := F18.memo [m19]
def m20 : Abs.Mem :=
  ⟨21, [k16, (.agg [(.data 1 false [(.sc (.int Go.IntKind.i64 (1))), (.sc (.int Go.IntKind.i64 (0)))]), (.sc (.slice none 0 0))])], [(.ret (.tuple [k8, (.sc (.int Go.IntKind.i64 (0)))]))]⟩
noncomputable def F20 : Abs.FTab := F19.memo [m20]
def m21 : Abs.Mem :=
  ⟨23, [k8], [(.ret (.data 3 false [(.agg [(.sc (.int Go.IntKind.i64 (2))), (.sc (.int Go.IntKind.i64 (0))), (.sc (.int Go.IntKind.i64 (5)))])]))]⟩
noncomputable def F21 : Abs.FTab := F20.memo [m21]
def m22 : Abs.Mem :=
  ⟨65, [(.sc (.int Go.IntKind.i64 (5)))], [(.ret (.sc (.bool true)))]⟩
noncomputable def F22 : Abs.FTab := F21.memo [m22]
def m23 : Abs.Mem :=
  ⟨221, [(.sc (.int Go.IntKind.i64 (1)))], [(.ret (.sc (.string ⟨#[49]⟩)))]⟩
noncomputable def F23 : Abs.FTab := F22.memo [m23]
def m24 : Abs.Mem :=
  ⟨178, [(.sc (.int Go.IntKind.i64 (1))), (.sc (.int Go.IntKind.i64 (10)))], [(.ret (.sc (.string ⟨#[49]⟩)))]⟩
noncomputable def F24 : Abs.FTab := F23.memo [m24]
def m25 : Abs.Mem :=
  ⟨121, [(.sc (.int Go.IntKind.i64 (1))), (.sc (.int Go.IntKind.i64 (10)))], [(.ret (.sc (.string ⟨#[49]⟩)))]⟩
noncomputable def F25 : Abs.FTab := F24.memo [m25]
def m26 : Abs.Mem :=
  ⟨221, [(.sc (.int Go.IntKind.i64 (0)))], [(.ret (.sc (.string ⟨#[48]⟩)))]⟩
noncomputable def F26 : Abs.FTab := F25.memo [m26]
def m27 : Abs.Mem :=
  ⟨178, [(.sc (.int Go.IntKind.i64 (0))), (.sc (.int Go.IntKind.i64 (10)))], [(.ret (.sc (.string ⟨#[48]⟩)))]⟩
noncomputable def F27 : Abs.FTab := F26.memo [m27]
def m28 : Abs.Mem :=
  ⟨121, [(.sc (.int Go.IntKind.i64 (0))), (.sc (.int Go.IntKind.i64 (10)))], [(.ret (.sc (.string ⟨#[48]⟩)))]⟩
noncomputable def F28 : Abs.FTab := F27.memo [m28]
def m29 : Abs.Mem :=
  ⟨221, [(.sc (.int Go.IntKind.i64 (2)))], [(.ret (.sc (.string ⟨#[50]⟩)))]⟩
noncomputable def F29 : Abs.FTab := F28.memo [m29]
def m30 : Abs.Mem :=
  ⟨178, [(.sc (.int Go.IntKind.i64 (2))), (.sc (.int Go.IntKind.i64 (10)))], [(.ret (.sc (.string ⟨#[50]⟩)))]⟩
noncomputable def F30 : Abs.FTab := F29.memo [m30]
def m31 : Abs.Mem :=
  ⟨121, [(.sc (.int Go.IntKind.i64 (2))), (.sc (.int Go.IntKind.i64 (10)))], [(.ret (.sc (.string ⟨#[50]⟩)))]⟩
noncomputable def F31 : Abs.FTab := F30.memo [m31]
def m32 : Abs.Mem :=
  ⟨123, [(.sc (.bool false))], [(.ret (.sc (.string ⟨#[102, 97, 108, 115, 101]⟩)))]⟩
noncomputable def F32 : Abs.FTab := F31.memo [m32]
def m33 : Abs.Mem :=
  ⟨123, [(.sc (.bool true))], [(.ret (.sc (.string ⟨#[116, 114, 117, 101]⟩)))]⟩
noncomputable def F33 : Abs.FTab := F32.memo [m33]
def m34 : Abs.Mem :=
  ⟨130, [(.sc (.int Go.IntKind.i64 (1))), (.sc (.int Go.IntKind.i64 (1)))], [(.ret (.sc (.int Go.IntKind.i64 (0))))]⟩
noncomputable def F34 : Abs.FTab := F33.memo [m34]
def m35 : Abs.Mem :=
  ⟨130, [(.sc (.int Go.IntKind.i64 (0))), (.sc (.int Go.IntKind.i64 (0)))], [(.ret (.sc (.int Go.IntKind.i64 (0))))]⟩
noncomputable def F35 : Abs.FTab := F34.memo [m35]
def m36 : Abs.Mem :=
  ⟨71, [(.data 1 false [(.sc (.int Go.IntKind.i64 (1))), (.sc (.int Go.IntKind.i64 (0)))]), (.data 1 false [(.sc (.int Go.IntKind.i64 (1))), (.sc (.int Go.IntKind.i64 (0)))])], [(.ret (.sc (.int Go.IntKind.i64 (0))))]⟩
noncomputable def F36 : Abs.FTab := F35.memo [m36]
def m37 : Abs.Mem :=
  ⟨72, [(.sc (.slice none 0 0)), (.sc (.slice none 0 0))], [(.ret (.sc (.int Go.IntKind.i64 (0))))]⟩
noncomputable def F37 : Abs.FTab := F36.memo [m37]
def m38 : Abs.Mem :=
  ⟨132, [(.sc (.int Go.IntKind.i64 (1))), (.sc (.int Go.IntKind.i64 (1)))], [(.ret (.sc (.int Go.IntKind.i64 (0))))]⟩
noncomputable def F38 : Abs.FTab := F37.memo [m38]
def m39 : Abs.Mem :=
  ⟨73, [k17, k17], [(.ret (.sc (.int Go.IntKind.i64 (0))))]⟩
noncomputable def F39 : Abs.FTab := F38.memo [m39]
def m40 : Abs.Mem :=
  ⟨130, [(.sc (.int Go.IntKind.i64 (0))), (.sc (.int Go.IntKind.i64 (1)))], [(.ret (.sc (.int Go.IntKind.i64 (-1))))]⟩
noncomputable def F40 : Abs.FTab := F39.memo [m40]
def m41 : Abs.Mem :=
  ⟨71, [(.data 1 false [(.sc (.int Go.IntKind.i64 (0))), (.sc (.int Go.IntKind.i64 (1)))]), (.data 1 false [(.sc (.int Go.IntKind.i64 (1))), (.sc (.int Go.IntKind.i64 (0)))])], [(.ret (.sc (.int Go.IntKind.i64 (-1))))]⟩
noncomputable def F41 : Abs.FTab := F40.memo [m41]
def k18 : Abs.AVal := .agg [(.data 1 false [(.sc (.int Go.IntKind.i64 (0))), (.sc (.int Go.IntKind.i64 (1)))]), (.sc (.slice none 0 0)), (.sc (.int Go.IntKind.i64 (2))), k17]
def k19 : Abs.AVal := .agg [(.data 1 false [(.sc (.int Go.IntKind.i64 (1))), (.sc (.int Go.IntKind.i64 (0)))]), (.sc (.slice none 0 0)), (.sc (.int Go.IntKind.i64 (2))), k17]
def m42 : Abs.Mem :=
  ⟨33, [k18, k19], [(.ret (.sc (.bool true)))]⟩
noncomputable def F42 : Abs.FTab := F41.memoT [m42]
def m43 : Abs.Mem :=
  ⟨5, [k16, k19], [(.ret (.tuple [k18, (.sc (.int Go.IntKind.i64 (0)))]))]⟩
noncomputable def F43 : Abs.FTab := F42.memoT [m43]
def k20 : Abs.AVal := .data 4 false [(.agg [(.sc (.int Go.IntKind.i64 (2))), (.sc (.bool true)), (.sc (.bool false)), (.sc (.int Go.IntKind.i64 (2)))])]
def k21 : Abs.AVal := .agg [(.sc (.int Go.IntKind.i64 (0))), (.sc (.int Go.IntKind.i64 (1))), k20, (.sc (.int Go.IntKind.i64 (0))), (.sc (.string ⟨#[]⟩)), (.sc (.int Go.IntKind.i64 (0))), (.sc (.slice none 0 0)), (.sc (.int Go.IntKind.i64 (-1))), (.sc (.bool false)), (.sc (.slice none 0 0)), (.sc (.slice none 0 0)), (.sc (.int Go.IntKind.i64 (0))), (.sc (.int Go.IntKind.i64 (0)))]
def k22 : Abs.AVal := .data 13 false [k21]
def k23 : Abs.AVal := .agg [(.sc (.int Go.IntKind.i64 (0))), k10, k22]
def k24 : Abs.AVal := .data 3 false [k7, k23]
def k25 : Abs.AVal := .agg [(.sc (.int Go.IntKind.i64 (2))), (.sc (.slice none 0 0)), (.sc (.slice none 0 0)), (.sc (.slice none 0 0)), k24]
def m44 : Abs.Mem :=
  ⟨12, [k25], [(.ret (.sc (.int Go.IntKind.i64 (0))))]⟩
noncomputable def F44 : Abs.FTab := F43.memo [m44]
def m45 : Abs.Mem :=
  ⟨6, [k25], [(.ret (.tuple [(.sc (.slice none 0 0)), (.sc (.int Go.IntKind.i64 (0)))]))]⟩
noncomputable def F45 : Abs.FTab := F44.memoT [m45]
def m46 : Abs.Mem :=
  ⟨44, [(.sc (.int Go.IntKind.i64 (2))), (.sc (.int Go.IntKind.i64 (3)))], [(.ret (.sc (.bool true)))]⟩
noncomputable def F46 : Abs.FTab := F45.memo [m46]
def m47 : Abs.Mem :=
  ⟨45, [(.sc (.int Go.IntKind.i64 (0)))], [(.ret (.sc (.bool true)))]⟩
noncomputable def F47 : Abs.FTab := F46.memo [m47]
def m48 : Abs.Mem :=
  ⟨44, [(.sc (.int Go.IntKind.i64 (1))), (.sc (.int Go.IntKind.i64 (3)))], [(.ret (.sc (.bool true)))]⟩
noncomputable def F48 : Abs.FTab := F47.memo [m48]
def k26 : Abs.AVal := .agg [(.sc (.int Go.IntKind.i64 (0))), (.sc (.int Go.IntKind.i64 (1))), k4, (.sc (.int Go.IntKind.i64 (0))), (.sc (.string ⟨#[]⟩)), (.sc (.int Go.IntKind.i64 (0))), (.sc (.slice none 0 0)), (.sc (.int Go.IntKind.i64 (-1))), (.sc (.bool false)), (.sc (.slice none 0 0)), (.data 2 false [(.agg [(.sc (.int Go.IntKind.i64 (3))), (.sc (.int Go.IntKind.i64 (0)))])]), (.sc (.int Go.IntKind.i64 (0))), (.sc (.int Go.IntKind.i64 (0)))]
def k27 : Abs.AVal := .data 13 false [k26]
def k28 : Abs.AVal := .agg [(.sc (.int Go.IntKind.i64 (0))), k3, k27]
def k29 : Abs.AVal := .agg [(.sc (.int Go.IntKind.i64 (0))), (.sc (.int Go.IntKind.i64 (1))), k11, (.sc (.int Go.IntKind.i64 (0))), (.sc (.string ⟨#[]⟩)), (.sc (.int Go.IntKind.i64 (0))), (.sc (.slice none 0 0)), (.sc (.int Go.IntKind.i64 (-1))), (.sc (.bool false)), (.sc (.slice none 0 0)), (.data 2 false [(.agg [(.sc (.int Go.IntKind.i64 (3))), (.sc (.int Go.IntKind.i64 (0)))])]), (.sc (.int Go.IntKind.i64 (0))), (.sc (.int Go.IntKind.i64 (0)))]
def k30 : Abs.AVal := .data 13 false [k29]
def k31 : Abs.AVal := .agg [(.sc (.int Go.IntKind.i64 (0))), k10, k30]
def k32 : Abs.AVal := .data 3 false [k28, k31]
def k33 : Abs.AVal := .agg [(.sc (.int Go.IntKind.i64 (3))), (.sc (.slice none 0 0)), (.sc (.slice none 0 0)), (.sc (.slice none 0 0)), k32]
def m49 : Abs.Mem :=
  ⟨12, [k33], [(.ret (.sc (.int Go.IntKind.i64 (0))))]⟩
noncomputable def F49 : Abs.FTab := F48.memo [m49]
def m50 : Abs.Mem :=
  ⟨221, [(.sc (.int Go.IntKind.i64 (3)))], [(.ret (.sc (.string ⟨#[51]⟩)))]⟩
noncomputable def F50 : Abs.FTab := F49.memo [m50]
def m51 : Abs.Mem :=
  ⟨178, [(.sc (.int Go.IntKind.i64 (3))), (.sc (.int Go.IntKind.i64 (10)))], [(.ret (.sc (.string ⟨#[51]⟩)))]⟩
noncomputable def F51 : Abs.FTab := F50.memo [m51]
def m52 : Abs.Mem :=
  ⟨121, [(.sc (.int Go.IntKind.i64 (3))), (.sc (.int Go.IntKind.i64 (10)))], [(.ret (.sc (.string ⟨#[51]⟩)))]⟩
noncomputable def F52 : Abs.FTab := F51.memo [m52]
def m53 : Abs.Mem :=
  ⟨6, [k33], [(.ret (.tuple [(.data 1 false [(.data 1 false [(.sc (.int Go.IntKind.i64 (0))), (.sc (.int Go.IntKind.i64 (1)))])]), (.sc (.int Go.IntKind.i64 (0)))]))]⟩
noncomputable def F53 : Abs.FTab := F52.memoT [m53]
def m54 : Abs.Mem :=
  ⟨6, [k16], [(.ret (.tuple [(.data 1 false [(.data 1 false [(.sc (.int Go.IntKind.i64 (0))), (.sc (.int Go.IntKind.i64 (1)))])]), (.sc (.int Go.IntKind.i64 (0)))]))]⟩
noncomputable def F54 : Abs.FTab := F53.memoT [m54]
def m55 : Abs.Mem :=
  ⟨230, [(.sc (.int Go.IntKind.i64 (1)))], [(.ret (.sc (.int Go.IntKind.u64 (1))))]⟩
noncomputable def F55 : Abs.FTab := F54.memo [m55]
def m56 : Abs.Mem :=
  ⟨231, [(.sc (.int Go.IntKind.u64 (1))), (.sc (.int Go.IntKind.u64 (1)))], [(.ret (.sc (.int Go.IntKind.u64 (1))))]⟩
noncomputable def F56 : Abs.FTab := F55.memo [m56]
def m57 : Abs.Mem :=
  ⟨190, [(.agg [(.sc (.int Go.IntKind.i64 (1))), (.sc (.int Go.IntKind.i64 (1)))])], [(.ret (.sc (.bool true)))]⟩
noncomputable def F57 : Abs.FTab := F56.memo [m57]
def m58 : Abs.Mem :=
  ⟨230, [(.sc (.int Go.IntKind.i64 (0)))], [(.ret (.sc (.int Go.IntKind.u64 (0))))]⟩
noncomputable def F58 : Abs.FTab := F57.memo [m58]
def m59 : Abs.Mem :=
  ⟨231, [(.sc (.int Go.IntKind.u64 (0))), (.sc (.int Go.IntKind.u64 (1)))], [(.ret (.sc (.int Go.IntKind.u64 (1))))]⟩
noncomputable def F59 : Abs.FTab := F58.memo [m59]
def m60 : Abs.Mem :=
  ⟨190, [(.agg [(.sc (.int Go.IntKind.i64 (0))), (.sc (.int Go.IntKind.i64 (1)))])], [(.ret (.sc (.bool true)))]⟩
noncomputable def F60 : Abs.FTab := F59.memo [m60]
def m61 : Abs.Mem :=
  ⟨143, [(.agg [(.sc (.int Go.IntKind.i64 (1))), (.sc (.int Go.IntKind.i64 (1)))]), (.agg [(.sc (.int Go.IntKind.i64 (0))), (.sc (.int Go.IntKind.i64 (1)))])], [(.ret (.sc (.bool true)))]⟩
noncomputable def F61 : Abs.FTab := F60.memo [m61]
def m62 : Abs.Mem :=
  ⟨90, [(.agg [(.sc (.int Go.IntKind.i64 (1))), (.sc (.int Go.IntKind.i64 (1)))]), (.agg [(.sc (.int Go.IntKind.i64 (0))), (.sc (.int Go.IntKind.i64 (1)))])], [(.ret (.tuple [(.sc (.int Go.IntKind.i64 (1))), (.sc (.int Go.IntKind.i64 (0)))]))]⟩
noncomputable def F62 : Abs.FTab := F61.memo [m62]
def m63 : Abs.Mem :=
  ⟨230, [(.sc (.int Go.IntKind.i64 (5)))], [(.ret (.sc (.int Go.IntKind.u64 (5))))]⟩
noncomputable def F63 : Abs.FTab := F62.memo [m63]
def m64 : Abs.Mem :=
  ⟨231, [(.sc (.int Go.IntKind.u64 (5))), (.sc (.int Go.IntKind.u64 (2)))], [(.ret (.sc (.int Go.IntKind.u64 (1))))]⟩
noncomputable def F64 : Abs.FTab := F63.memo [m64]
def m65 : Abs.Mem :=
  ⟨190, [(.agg [(.sc (.int Go.IntKind.i64 (5))), (.sc (.int Go.IntKind.i64 (2)))])], [(.ret (.sc (.bool true)))]⟩
noncomputable def F65 : Abs.FTab := F64.memo [m65]
def m66 : Abs.Mem :=
  ⟨143, [(.agg [(.sc (.int Go.IntKind.i64 (5))), (.sc (.int Go.IntKind.i64 (2)))]), (.agg [(.sc (.int Go.IntKind.i64 (0))), (.sc (.int Go.IntKind.i64 (1)))])], [(.ret (.sc (.bool true)))]⟩
noncomputable def F66 : Abs.FTab := F65.memo [m66]
def m67 : Abs.Mem :=
  ⟨90, [(.agg [(.sc (.int Go.IntKind.i64 (5))), (.sc (.int Go.IntKind.i64 (2)))]), (.agg [(.sc (.int Go.IntKind.i64 (0))), (.sc (.int Go.IntKind.i64 (1)))])], [(.ret (.tuple [(.sc (.int Go.IntKind.i64 (1))), (.sc (.int Go.IntKind.i64 (0)))]))]⟩
noncomputable def F67 : Abs.FTab := F66.memo [m67]
def m68 : Abs.Mem :=
  ⟨64, [(.iptr [(.sc (.int Go.IntKind.i64 (2))), (.sc (.slice none 0 0)), (.sc (.slice none 0 0)), (.sc (.slice none 0 0)), k15, (.sc (.slice none 0 0))]), (.agg [(.data 1 false [(.sc (.int Go.IntKind.i64 (0))), (.sc (.int Go.IntKind.i64 (1)))]), (.sc (.slice none 0 0))])], [(.ret (.tuple [k1, (.sc (.int Go.IntKind.i64 (0)))]))]⟩
noncomputable def F68 : Abs.FTab := F67.memo [m68]
def m69 : Abs.Mem :=
  ⟨21, [k16, (.agg [(.data 1 false [(.sc (.int Go.IntKind.i64 (0))), (.sc (.int Go.IntKind.i64 (1)))]), (.sc (.slice none 0 0))])], [(.ret (.tuple [k1, (.sc (.int Go.IntKind.i64 (0)))]))]⟩
noncomputable def F69 : Abs.FTab := F68.memo [m69]
def m70 : Abs.Mem :=
  ⟨230, [(.sc (.int Go.IntKind.i64 (2)))], [(.ret (.sc (.int Go.IntKind.u64 (2))))]⟩
noncomputable def F70 : Abs.FTab := F69.memo [m70]
def m71 : Abs.Mem :=
  ⟨231, [(.sc (.int Go.IntKind.u64 (2))), (.sc (.int Go.IntKind.u64 (1)))], [(.ret (.sc (.int Go.IntKind.u64 (1))))]⟩
noncomputable def F71 : Abs.FTab := F70.memo [m71]
def m72 : Abs.Mem :=
  ⟨190, [(.agg [(.sc (.int Go.IntKind.i64 (2))), (.sc (.int Go.IntKind.i64 (1)))])], [(.ret (.sc (.bool true)))]⟩
noncomputable def F72 : Abs.FTab := F71.memo [m72]
def m73 : Abs.Mem :=
  ⟨143, [(.agg [(.sc (.int Go.IntKind.i64 (1))), (.sc (.int Go.IntKind.i64 (1)))]), (.agg [(.sc (.int Go.IntKind.i64 (2))), (.sc (.int Go.IntKind.i64 (1)))])], [(.ret (.sc (.bool true)))]⟩
noncomputable def F73 : Abs.FTab := F72.memo [m73]
def m74 : Abs.Mem :=
  ⟨90, [(.agg [(.sc (.int Go.IntKind.i64 (1))), (.sc (.int Go.IntKind.i64 (1)))]), (.agg [(.sc (.int Go.IntKind.i64 (2))), (.sc (.int Go.IntKind.i64 (1)))])], [(.ret (.tuple [(.sc (.int Go.IntKind.i64 (-1))), (.sc (.int Go.IntKind.i64 (0)))]))]⟩
noncomputable def F74 : Abs.FTab := F73.memo [m74]
def k34 : Abs.AVal := .data 2 false [(.agg [(.sc (.int Go.IntKind.i64 (1))), (.sc (.int Go.IntKind.i64 (1)))]), (.agg [(.sc (.int Go.IntKind.i64 (5))), (.sc (.int Go.IntKind.i64 (2)))])]
def m75 : Abs.Mem :=
  ⟨92, [k1, k34], [(.ret (.sc (.bool true)))]⟩
noncomputable def F75 : Abs.FTab := F74.memo [m75]
def k35 : Abs.AVal := .agg [(.data 1 false [(.sc (.int Go.IntKind.i64 (0))), (.sc (.int Go.IntKind.i64 (1)))]), (.sc (.slice none 0 0)), k34]
def m76 : Abs.Mem :=
  ⟨52, [k16, k35], [(.ret (.sc (.int Go.IntKind.i64 (0))))]⟩
noncomputable def F76 : Abs.FTab := F75.memo [m76]
def m77 : Abs.Mem :=
  ⟨14, [k16, k35, (.sc (.int Go.IntKind.i64 (0))), (.sc (.int Go.IntKind.i64 (1)))], [(.ret (.tuple [(.agg [(.data 1 false [(.sc (.int Go.IntKind.i64 (1))), (.sc (.int Go.IntKind.i64 (0)))]), (.sc (.slice none 0 0)), (.data 2 false [(.agg [(.sc (.int Go.IntKind.i64 (5))), (.sc (.int Go.IntKind.i64 (2)))]), (.agg [(.sc (.int Go.IntKind.i64 (1))), (.sc (.int Go.IntKind.i64 (1)))])])]), (.sc (.int Go.IntKind.i64 (0)))]))]⟩
noncomputable def F77 : Abs.FTab := F76.memoT [m77]
def k36 : Abs.AVal := .agg [(.sc (.int Go.IntKind.i64 (1))), (.sc (.int Go.IntKind.i64 (0))), (.sc (.int Go.IntKind.i64 (1))), (.sc (.int Go.IntKind.i64 (0))), (.sc (.string ⟨#[]⟩)), (.sc (.int Go.IntKind.i64 (0))), (.sc (.slice none 0 0)), (.sc (.int Go.IntKind.i64 (0))), (.sc (.bool false)), (.sc (.bool false)), (.sc (.int Go.IntKind.i64 (0))), (.sc (.slice none 0 0))]
def m78 : Abs.Mem :=
  ⟨144, [k36, (.sc (.int Go.IntKind.i64 (20)))], [(.ret (.tuple [(.sc (.int Go.IntKind.i64 (1))), (.sc (.int Go.IntKind.i64 (1)))]))]⟩
noncomputable def F78 : Abs.FTab := F77.memo [m78]
def m79 : Abs.Mem :=
  ⟨93, [k36], [(.ret (.sc (.bool true)))]⟩
noncomputable def F79 : Abs.FTab := F78.memo [m79]
def k37 : Abs.AVal := .agg [(.sc (.int Go.IntKind.i64 (0))), (.sc (.int Go.IntKind.i64 (0))), (.sc (.int Go.IntKind.i64 (0))), (.sc (.int Go.IntKind.i64 (0))), (.sc (.string ⟨#[]⟩)), (.sc (.int Go.IntKind.i64 (0))), (.sc (.slice none 0 0)), (.sc (.int Go.IntKind.i64 (0))), (.sc (.bool false)), (.sc (.bool false)), (.sc (.int Go.IntKind.i64 (0))), (.sc (.slice none 0 0))]
def m80 : Abs.Mem :=
  ⟨144, [k37, (.sc (.int Go.IntKind.i64 (20)))], [(.ret (.tuple [(.sc (.int Go.IntKind.i64 (1))), (.sc (.int Go.IntKind.i64 (1)))]))]⟩
noncomputable def F80 : Abs.FTab := F79.memo [m80]
def m81 : Abs.Mem :=
  ⟨93, [k37], [(.ret (.sc (.bool true)))]⟩
noncomputable def F81 : Abs.FTab := F80.memo [m81]
def m82 : Abs.Mem :=
  ⟨95, [k36], [(.ret (.sc (.bool true)))]⟩
noncomputable def F82 : Abs.FTab := F81.memo [m82]
def m83 : Abs.Mem :=
  ⟨94, [k16, k36], [(.ret (.sc (.bool true)))]⟩
noncomputable def F83 : Abs.FTab := F82.memo [m83]
def m84 : Abs.Mem :=
  ⟨95, [k37], [(.ret (.sc (.bool true)))]⟩
noncomputable def F84 : Abs.FTab := F83.memo [m84]
def m85 : Abs.Mem :=
  ⟨55, [k16, (.agg [(.sc (.int Go.IntKind.i64 (1))), (.sc (.bool false)), (.sc (.int Go.IntKind.i64 (1))), (.sc (.int Go.IntKind.i64 (0))), (.sc (.int Go.IntKind.i64 (1))), (.sc (.int Go.IntKind.i64 (0))), (.sc (.string ⟨#[]⟩)), (.sc (.int Go.IntKind.i64 (0))), (.sc (.slice none 0 0)), (.sc (.int Go.IntKind.i64 (0))), (.sc (.bool false)), (.sc (.bool false)), (.sc (.int Go.IntKind.i64 (0))), (.sc (.slice none 0 0)), (.sc (.int Go.IntKind.i64 (0))), (.sc (.int Go.IntKind.i64 (0))), (.sc (.int Go.IntKind.i64 (0))), (.sc (.int Go.IntKind.i64 (0))), (.sc (.string ⟨#[]⟩)), (.sc (.int Go.IntKind.i64 (0))), (.sc (.slice none 0 0)), (.sc (.int Go.IntKind.i64 (0))), (.sc (.bool false)), (.sc (.bool false)), (.sc (.int Go.IntKind.i64 (0))), (.sc (.slice none 0 0))])], [(.ret (.sc (.int Go.IntKind.i64 (0))))]⟩
noncomputable def F85 : Abs.FTab := F84.memo [m85]
def m86 : Abs.Mem :=
  ⟨147, [(.sc (.int Go.IntKind.i64 (1)))], [(.ret (.sc (.string ⟨#[49]⟩)))]⟩
noncomputable def F86 : Abs.FTab := F85.memo [m86]
def m87 : Abs.Mem :=
  ⟨147, [(.sc (.int Go.IntKind.i64 (0)))], [(.ret (.sc (.string ⟨#[48]⟩)))]⟩
noncomputable def F87 : Abs.FTab := F86.memo [m87]
def m88 : Abs.Mem :=
  ⟨242, [(.sc (.int Go.IntKind.u64 (0)))], [(.ret (.sc (.int Go.IntKind.i64 (0))))]⟩
noncomputable def F88 : Abs.FTab := F87.memo [m88]
def m89 : Abs.Mem :=
  ⟨232, [(.sc (.slice none 0 0)), (.sc (.int Go.IntKind.i64 (0))), (.sc (.int Go.IntKind.i64 (0)))], [(.ret (.tuple []))]⟩
noncomputable def F89 : Abs.FTab := F88.memo [m89]
def m90 : Abs.Mem :=
  ⟨192, [(.sc (.slice none 0 0)), (.sc (.int Go.IntKind.i64 (0))), (.sc (.int Go.IntKind.i64 (0))), (.sc (.int Go.IntKind.i64 (0)))], [(.ret (.tuple []))]⟩
noncomputable def F90 : Abs.FTab := F89.memo [m90]
def m91 : Abs.Mem :=
  ⟨148, [(.sc (.slice none 0 0))], [(.ret (.tuple []))]⟩
noncomputable def F91 : Abs.FTab := F90.memo [m91]
def m92 : Abs.Mem :=
  ⟨97, [k36], [(.ret (.sc (.string ⟨#[40, 49, 32, 48, 32, 49, 32, 48, 102, 97, 108, 115, 101, 102, 97, 108, 115, 101, 48, 32, 48, 46, 46, 48, 46, 48, 32, 41]⟩)))]⟩
noncomputable def F92 : Abs.FTab := F91.memo [m92]
def k38 : Abs.AVal := .agg [(.sc (.int Go.IntKind.i64 (1))), (.sc (.int Go.IntKind.i64 (1))), (.sc (.int Go.IntKind.i64 (1))), (.sc (.int Go.IntKind.i64 (0))), (.sc (.string ⟨#[]⟩)), (.sc (.int Go.IntKind.i64 (0))), (.sc (.slice none 0 0)), (.sc (.int Go.IntKind.i64 (0))), (.sc (.bool false)), (.sc (.bool false)), (.sc (.int Go.IntKind.i64 (0))), (.sc (.slice none 0 0))]
def m93 : Abs.Mem :=
  ⟨97, [k38], [(.ret (.sc (.string ⟨#[40, 49, 32, 49, 32, 49, 32, 48, 102, 97, 108, 115, 101, 102, 97, 108, 115, 101, 48, 32, 48, 46, 46, 48, 46, 48, 32, 41]⟩)))]⟩
noncomputable def F93 : Abs.FTab := F92.memo [m93]
def m94 : Abs.Mem :=
  ⟨15, [k16, k36], [(.ret (.tuple [(.sc (.bool false)), (.sc (.int Go.IntKind.i64 (0)))]))]⟩
noncomputable def F94 : Abs.FTab := F93.memoT [m94]
def k39 : Abs.AVal := .data 12 false [k36, k38]
def k40 : Abs.AVal := .agg [(.sc (.int Go.IntKind.i64 (7))), (.sc (.int Go.IntKind.i64 (0))), (.sc (.int Go.IntKind.i64 (0))), (.sc (.int Go.IntKind.i64 (0))), (.sc (.string ⟨#[]⟩)), (.sc (.int Go.IntKind.i64 (0))), (.sc (.slice none 0 0)), (.sc (.int Go.IntKind.i64 (0))), (.sc (.bool false)), (.sc (.bool false)), (.sc (.int Go.IntKind.i64 (0))), k39]
def m95 : Abs.Mem :=
  ⟨17, [k36, k38], [(.ret k40)]⟩
noncomputable def F95 : Abs.FTab := F94.memo [m95]
def m96 : Abs.Mem :=
  ⟨144, [k36, (.sc (.int Go.IntKind.i64 (19)))], [(.ret (.tuple [(.sc (.int Go.IntKind.i64 (1))), (.sc (.int Go.IntKind.i64 (1)))]))]⟩
noncomputable def F96 : Abs.FTab := F95.memo [m96]
def m97 : Abs.Mem :=
  ⟨144, [k38, (.sc (.int Go.IntKind.i64 (19)))], [(.ret (.tuple [(.sc (.int Go.IntKind.i64 (1))), (.sc (.int Go.IntKind.i64 (1)))]))]⟩
noncomputable def F97 : Abs.FTab := F96.memo [m97]
def m98 : Abs.Mem :=
  ⟨144, [k40, (.sc (.int Go.IntKind.i64 (20)))], [(.ret (.tuple [(.sc (.int Go.IntKind.i64 (3))), (.sc (.int Go.IntKind.i64 (2)))]))]⟩
noncomputable def F98 : Abs.FTab := F97.memo [m98]
def m99 : Abs.Mem :=
  ⟨93, [k40], [(.ret (.sc (.bool true)))]⟩
noncomputable def F99 : Abs.FTab := F98.memo [m99]
def m100 : Abs.Mem :=
  ⟨95, [k40], [(.ret (.sc (.bool true)))]⟩
noncomputable def F100 : Abs.FTab := F99.memo [m100]
def m101 : Abs.Mem :=
  ⟨95, [k38], [(.ret (.sc (.bool true)))]⟩
noncomputable def F101 : Abs.FTab := F100.memo [m101]
def m102 : Abs.Mem :=
  ⟨94, [k16, k38], [(.ret (.sc (.bool true)))]⟩
noncomputable def F102 : Abs.FTab := F101.memo [m102]
def m103 : Abs.Mem :=
  ⟨94, [k16, k40], [(.ret (.sc (.bool true)))]⟩
noncomputable def F103 : Abs.FTab := F102.memo [m103]
def m104 : Abs.Mem :=
  ⟨55, [k16, (.agg [(.sc (.int Go.IntKind.i64 (1))), (.sc (.bool false)), (.sc (.int Go.IntKind.i64 (7))), (.sc (.int Go.IntKind.i64 (0))), (.sc (.int Go.IntKind.i64 (0))), (.sc (.int Go.IntKind.i64 (0))), (.sc (.string ⟨#[]⟩)), (.sc (.int Go.IntKind.i64 (0))), (.sc (.slice none 0 0)), (.sc (.int Go.IntKind.i64 (0))), (.sc (.bool false)), (.sc (.bool false)), (.sc (.int Go.IntKind.i64 (0))), k39, (.sc (.int Go.IntKind.i64 (0))), (.sc (.int Go.IntKind.i64 (0))), (.sc (.int Go.IntKind.i64 (0))), (.sc (.int Go.IntKind.i64 (0))), (.sc (.string ⟨#[]⟩)), (.sc (.int Go.IntKind.i64 (0))), (.sc (.slice none 0 0)), (.sc (.int Go.IntKind.i64 (0))), (.sc (.bool false)), (.sc (.bool false)), (.sc (.int Go.IntKind.i64 (0))), (.sc (.slice none 0 0))])], [(.ret (.sc (.int Go.IntKind.i64 (0))))]⟩
noncomputable def F104 : Abs.FTab := F103.memo [m104]
def m105 : Abs.Mem :=
  ⟨221, [(.sc (.int Go.IntKind.i64 (7)))], [(.ret (.sc (.string ⟨#[55]⟩)))]⟩
noncomputable def F105 : Abs.FTab := F104.memo [m105]
def m106 : Abs.Mem :=
  ⟨178, [(.sc (.int Go.IntKind.i64 (7))), (.sc (.int Go.IntKind.i64 (10)))], [(.ret (.sc (.string ⟨#[55]⟩)))]⟩
noncomputable def F106 : Abs.FTab := F105.memo [m106]
def m107 : Abs.Mem :=
  ⟨147, [(.sc (.int Go.IntKind.i64 (7)))], [(.ret (.sc (.string ⟨#[55]⟩)))]⟩
noncomputable def F107 : Abs.FTab := F106.memo [m107]
def m108 : Abs.Mem :=
  ⟨242, [(.sc (.int Go.IntKind.u64 (2)))], [(.ret (.sc (.int Go.IntKind.i64 (2))))]⟩
noncomputable def F108 : Abs.FTab := F107.memo [m108]
def m109 : Abs.Mem :=
  ⟨238, [(.sc (.string ⟨#[40, 49, 32, 49, 32, 49, 32, 48, 102, 97, 108, 115, 101, 102, 97, 108, 115, 101, 48, 32, 48, 46, 46, 48, 46, 48, 32, 41]⟩)), (.sc (.string ⟨#[40, 49, 32, 48, 32, 49, 32, 48, 102, 97, 108, 115, 101, 102, 97, 108, 115, 101, 48, 32, 48, 46, 46, 48, 46, 48, 32, 41]⟩))], [(.ret (.sc (.bool false)))]⟩
noncomputable def F109 : Abs.FTab := F108.memo [m109]
def m110 : Abs.Mem :=
  ⟨97, [k40], [(.ret (.sc (.string ⟨#[40, 55, 32, 48, 32, 48, 32, 48, 102, 97, 108, 115, 101, 102, 97, 108, 115, 101, 48, 32, 48, 46, 46, 48, 46, 48, 32, 40, 49, 32, 48, 32, 49, 32, 48, 102, 97, 108, 115, 101, 102, 97, 108, 115, 101, 48, 32, 48, 46, 46, 48, 46, 48, 32, 41, 40, 49, 32, 49, 32, 49, 32, 48, 102, 97, 108, 115, 101, 102, 97, 108, 115, 101, 48, 32, 48, 46, 46, 48, 46, 48, 32, 41, 41]⟩)))]⟩
noncomputable def F110 : Abs.FTab := F109.memo [m110]
def m111 : Abs.Mem :=
  ⟨238, [(.sc (.string ⟨#[40, 49, 32, 48, 32, 49, 32, 48, 102, 97, 108, 115, 101, 102, 97, 108, 115, 101, 48, 32, 48, 46, 46, 48, 46, 48, 32, 41]⟩)), (.sc (.string ⟨#[40, 49, 32, 49, 32, 49, 32, 48, 102, 97, 108, 115, 101, 102, 97, 108, 115, 101, 48, 32, 48, 46, 46, 48, 46, 48, 32, 41]⟩))], [(.ret (.sc (.bool true)))]⟩
noncomputable def F111 : Abs.FTab := F110.memo [m111]
def m112 : Abs.Mem :=
  ⟨15, [k16, k40], [(.ret (.tuple [(.sc (.bool true)), (.sc (.int Go.IntKind.i64 (0)))]))]⟩
noncomputable def F112 : Abs.FTab := F111.memoT [m112]
def m113 : Abs.Mem :=
  ⟨195, [(.iptr [(.sc (.int Go.IntKind.i64 (2))), (.sc (.slice none 0 0)), (.sc (.slice none 0 0)), (.sc (.slice none 0 0)), k15, (.sc (.slice none 0 0))])], [(.ret (.agg [(.data 1 false [(.sc (.int Go.IntKind.i64 (0))), (.sc (.int Go.IntKind.i64 (0)))]), (.sc (.slice none 0 0))]))]⟩
noncomputable def F113 : Abs.FTab := F112.memo [m113]
def m114 : Abs.Mem :=
  ⟨151, [k16], [(.ret (.tuple [(.agg [(.data 1 false [(.sc (.int Go.IntKind.i64 (0))), (.sc (.int Go.IntKind.i64 (0)))]), (.sc (.slice none 0 0))]), (.sc (.int Go.IntKind.i64 (0)))]))]⟩
noncomputable def F114 : Abs.FTab := F113.memo [m114]
def m115 : Abs.Mem :=
  ⟨316, [(.sc (.int Go.IntKind.u64 (1))), (.sc (.int Go.IntKind.u64 (9)))], [(.ret (.tuple [(.sc (.int Go.IntKind.u64 (0))), (.sc (.int Go.IntKind.u64 (9)))]))]⟩
noncomputable def F115 : Abs.FTab := F114.memo [m115]
def m116 : Abs.Mem :=
  ⟨292, [(.sc (.int Go.IntKind.u64 (1))), (.sc (.int Go.IntKind.u64 (9)))], [(.ret (.tuple [(.sc (.int Go.IntKind.u64 (0))), (.sc (.int Go.IntKind.u64 (9)))]))]⟩
noncomputable def F116 : Abs.FTab := F115.memo [m116]
def k41 : Abs.AVal := .agg [(.sc (.int Go.IntKind.i64 (2))), k17]
def m117 : Abs.Mem :=
  ⟨196, [(.sc (.int Go.IntKind.i64 (2))), (.sc (.int Go.IntKind.i64 (1)))], [(.ret (.tuple [k41, (.sc (.int Go.IntKind.i64 (0)))]))]⟩
noncomputable def F117 : Abs.FTab := F116.memo [m117]
def m118 : Abs.Mem :=
  ⟨152, [(.sc (.int Go.IntKind.i64 (2)))], [(.ret (.tuple [k41, (.sc (.int Go.IntKind.i64 (0)))]))]⟩
noncomputable def F118 : Abs.FTab := F117.memo [m118]
def m119 : Abs.Mem :=
  ⟨261, [(.iptr [(.sc (.int Go.IntKind.i64 (2))), (.sc (.slice none 0 0)), (.sc (.slice none 0 0)), (.sc (.slice none 0 0)), k15, (.sc (.slice none 0 0))]), (.agg [(.data 1 false [(.sc (.int Go.IntKind.i64 (0))), (.sc (.int Go.IntKind.i64 (0)))]), (.sc (.slice none 0 0))]), (.sc (.int Go.IntKind.i64 (0)))], [(.ret (.sc (.int Go.IntKind.i64 (0))))]⟩
noncomputable def F119 : Abs.FTab := F118.memo [m119]
def m120 : Abs.Mem :=
  ⟨261, [(.iptr [(.sc (.int Go.IntKind.i64 (2))), (.sc (.slice none 0 0)), (.sc (.slice none 0 0)), (.sc (.slice none 0 0)), k15, (.sc (.slice none 0 0))]), (.agg [(.data 1 false [(.sc (.int Go.IntKind.i64 (0))), (.sc (.int Go.IntKind.i64 (0)))]), (.sc (.slice none 0 0))]), (.sc (.int Go.IntKind.i64 (1)))], [(.ret (.sc (.int Go.IntKind.i64 (0))))]⟩
noncomputable def F120 : Abs.FTab := F119.memo [m120]
def m121 : Abs.Mem :=
  ⟨263, [(.iptr [(.sc (.int Go.IntKind.i64 (2))), (.sc (.slice none 0 0)), (.sc (.slice none 0 0)), (.sc (.slice none 0 0)), k15, (.sc (.slice none 0 0))]), (.agg [(.data 1 false [(.sc (.int Go.IntKind.i64 (0))), (.sc (.int Go.IntKind.i64 (0)))]), (.sc (.slice none 0 0))])], [(.ret (.data 1 false [(.data 1 false [(.sc (.int Go.IntKind.i64 (0)))]), (.data 1 false [(.sc (.int Go.IntKind.i64 (0)))])]))]⟩
noncomputable def F121 : Abs.FTab := F120.memo [m121]
def m122 : Abs.Mem :=
  ⟨207, [(.iptr [(.sc (.int Go.IntKind.i64 (2))), (.sc (.slice none 0 0)), (.sc (.slice none 0 0)), (.sc (.slice none 0 0)), k15, (.sc (.slice none 0 0))]), (.agg [(.data 1 false [(.sc (.int Go.IntKind.i64 (0))), (.sc (.int Go.IntKind.i64 (0)))]), (.sc (.slice none 0 0))])], [(.ret (.sc (.bool false)))]⟩
noncomputable def F122 : Abs.FTab := F121.memo [m122]
def k42 : Abs.AVal := .data 4 false [(.agg [(.sc (.int Go.IntKind.i64 (1))), (.sc (.bool false)), (.sc (.bool false)), (.sc (.int Go.IntKind.i64 (2)))]), (.agg [(.sc (.int Go.IntKind.i64 (2))), (.sc (.bool false)), (.sc (.bool false)), (.sc (.int Go.IntKind.i64 (2)))])]
def m123 : Abs.Mem :=
  ⟨64, [(.iptr [(.sc (.int Go.IntKind.i64 (2))), (.sc (.slice none 0 0)), (.sc (.slice none 0 0)), (.sc (.slice none 0 0)), k15, (.sc (.slice none 0 0))]), (.agg [(.data 1 false [(.sc (.int Go.IntKind.i64 (0))), (.sc (.int Go.IntKind.i64 (0)))]), (.sc (.slice none 0 0))])], [(.ret (.tuple [k42, (.sc (.int Go.IntKind.i64 (0)))]))]⟩
noncomputable def F123 : Abs.FTab := F122.memo [m123]
def m124 : Abs.Mem :=
  ⟨21, [k16, (.agg [(.data 1 false [(.sc (.int Go.IntKind.i64 (0))), (.sc (.int Go.IntKind.i64 (0)))]), (.sc (.slice none 0 0))])], [(.ret (.tuple [k42, (.sc (.int Go.IntKind.i64 (0)))]))]⟩
noncomputable def F124 : Abs.FTab := F123.memo [m124]
def m125 : Abs.Mem :=
  ⟨113, [(.sc (.int Go.IntKind.i64 (1))), (.sc (.int Go.IntKind.i64 (1099511627776)))], [(.ret (.sc (.int Go.IntKind.i64 (1099511627776))))]⟩
noncomputable def F125 : Abs.FTab := F124.memo [m125]
def m126 : Abs.Mem :=
  ⟨65, [(.sc (.int Go.IntKind.i64 (1099511627776)))], [(.ret (.sc (.bool true)))]⟩
noncomputable def F126 : Abs.FTab := F125.memo [m126]
def m127 : Abs.Mem :=
  ⟨23, [k42], [(.ret (.data 3 false [(.agg [(.sc (.int Go.IntKind.i64 (1))), (.sc (.int Go.IntKind.i64 (0))), (.sc (.int Go.IntKind.i64 (5)))]), (.agg [(.sc (.int Go.IntKind.i64 (2))), (.sc (.int Go.IntKind.i64 (0))), (.sc (.int Go.IntKind.i64 (5)))])]))]⟩
noncomputable def F127 : Abs.FTab := F126.memo [m127]
def k43 : Abs.AVal := .data 1 false [(.sc (.int Go.IntKind.i64 (1))), (.sc (.int Go.IntKind.i64 (1))), (.sc (.int Go.IntKind.i64 (1))), (.sc (.int Go.IntKind.i64 (1099511627776))), (.sc (.int Go.IntKind.i64 (1))), (.sc (.int Go.IntKind.i64 (1))), (.sc (.int Go.IntKind.i64 (1099511627776))), (.sc (.int Go.IntKind.i64 (1))), (.sc (.int Go.IntKind.i64 (1)))]
def m128 : Abs.Mem :=
  ⟨112, [(.sc (.int Go.IntKind.i64 (2))), k43], [(.ret (.sc (.bool true)))]⟩
noncomputable def F128 : Abs.FTab := F127.memo [m128]
def m129 : Abs.Mem :=
  ⟨61, [(.agg [(.sc (.int Go.IntKind.i64 (2))), k43])], [(.ret (.sc (.int Go.IntKind.i64 (0))))]⟩
noncomputable def F129 : Abs.FTab := F128.memoT [m129]
def m130 : Abs.Mem :=
  ⟨113, [(.sc (.int Go.IntKind.i64 (5))), (.sc (.int Go.IntKind.i64 (1)))], [(.ret (.sc (.int Go.IntKind.i64 (5))))]⟩
noncomputable def F130 : Abs.FTab := F129.memo [m130]
def m131 : Abs.Mem :=
  ⟨113, [(.sc (.int Go.IntKind.i64 (1))), (.sc (.int Go.IntKind.i64 (5)))], [(.ret (.sc (.int Go.IntKind.i64 (5))))]⟩
noncomputable def F131 : Abs.FTab := F130.memo [m131]
def k44 : Abs.AVal := .data 1 false [(.sc (.int Go.IntKind.i64 (1))), (.sc (.int Go.IntKind.i64 (1))), (.sc (.int Go.IntKind.i64 (1))), (.sc (.int Go.IntKind.i64 (5))), (.sc (.int Go.IntKind.i64 (1))), (.sc (.int Go.IntKind.i64 (1))), (.sc (.int Go.IntKind.i64 (5))), (.sc (.int Go.IntKind.i64 (1))), (.sc (.int Go.IntKind.i64 (1)))]
def k45 : Abs.AVal := .agg [(.data 1 false [(.sc (.int Go.IntKind.i64 (0))), (.sc (.int Go.IntKind.i64 (0)))]), (.sc (.slice none 0 0)), (.sc (.int Go.IntKind.i64 (2))), k44]
def m132 : Abs.Mem :=
  ⟨99, [k16], [(.ret (.tuple [k45, (.sc (.int Go.IntKind.i64 (0)))]))]⟩
noncomputable def F132 : Abs.FTab := F131.memo [m132]
def m133 : Abs.Mem :=
  ⟨247, [k16, (.agg [(.data 1 false [(.sc (.int Go.IntKind.i64 (0))), (.sc (.int Go.IntKind.i64 (0)))]), (.sc (.slice none 0 0))]), (.sc (.slice none 0 0))], [(.ret (.sc (.int Go.IntKind.i64 (0))))]⟩
noncomputable def F133 : Abs.FTab := F132.memo [m133]
def m134 : Abs.Mem :=
  ⟨294, [k5, (.sc (.int Go.IntKind.i64 (1)))], [(.ret (.sc (.bool false)))]⟩
noncomputable def F134 : Abs.FTab := F133.memo [m134]
def m135 : Abs.Mem :=
  ⟨294, [k5, (.sc (.int Go.IntKind.i64 (2)))], [(.ret (.sc (.bool false)))]⟩
noncomputable def F135 : Abs.FTab := F134.memo [m135]
def m136 : Abs.Mem :=
  ⟨248, [k7, (.sc (.int Go.IntKind.i64 (2)))], [(.ret (.tuple [(.data 1 false [(.data 1 false [(.sc (.int Go.IntKind.i64 (1))), (.sc (.int Go.IntKind.i64 (-1)))]), (.data 1 false [(.sc (.int Go.IntKind.i64 (-1))), (.sc (.int Go.IntKind.i64 (-1)))])]), (.data 1 false [(.data 1 false [(.sc (.int Go.IntKind.i64 (2))), (.sc (.int Go.IntKind.i64 (-1)))]), (.data 1 false [(.sc (.int Go.IntKind.i64 (-1))), (.sc (.int Go.IntKind.i64 (-1)))])])]))]⟩
noncomputable def F136 : Abs.FTab := F135.memo [m136]
def m137 : Abs.Mem :=
  ⟨294, [k12, (.sc (.int Go.IntKind.i64 (1)))], [(.ret (.sc (.bool false)))]⟩
noncomputable def F137 : Abs.FTab := F136.memo [m137]
def m138 : Abs.Mem :=
  ⟨294, [k12, (.sc (.int Go.IntKind.i64 (2)))], [(.ret (.sc (.bool false)))]⟩
noncomputable def F138 : Abs.FTab := F137.memo [m138]
def m139 : Abs.Mem :=
  ⟨248, [k14, (.sc (.int Go.IntKind.i64 (2)))], [(.ret (.tuple [(.data 1 false [(.data 1 false [(.sc (.int Go.IntKind.i64 (-1))), (.sc (.int Go.IntKind.i64 (1)))]), (.data 1 false [(.sc (.int Go.IntKind.i64 (-1))), (.sc (.int Go.IntKind.i64 (-1)))])]), (.data 1 false [(.data 1 false [(.sc (.int Go.IntKind.i64 (-1))), (.sc (.int Go.IntKind.i64 (2)))]), (.data 1 false [(.sc (.int Go.IntKind.i64 (-1))), (.sc (.int Go.IntKind.i64 (-1)))])])]))]⟩
noncomputable def F139 : Abs.FTab := F138.memo [m139]
def m140 : Abs.Mem :=
  ⟨199, [k16, (.agg [(.data 1 false [(.sc (.int Go.IntKind.i64 (0))), (.sc (.int Go.IntKind.i64 (0)))]), (.sc (.slice none 0 0))]), (.sc (.slice none 0 0))], [(.ret (.tuple [(.data 1 false [(.sc (.int Go.IntKind.i64 (2))), (.sc (.int Go.IntKind.i64 (2)))]), (.sc (.int Go.IntKind.i64 (0)))]))]⟩
noncomputable def F140 : Abs.FTab := F139.memo [m140]
def k46 : Abs.AVal := .agg [(.sc (.int Go.IntKind.i64 (2))), (.sc (.bool false)), (.sc (.slice none 0 0)), (.sc (.int Go.IntKind.i64 (50)))]
def m141 : Abs.Mem :=
  ⟨155, [k16, k46], [(.ret (.sc (.int Go.IntKind.i64 (0))))]⟩
noncomputable def F141 : Abs.FTab := F140.memo [m141]
def m142 : Abs.Mem :=
  ⟨112, [(.sc (.int Go.IntKind.i64 (2))), k44], [(.ret (.sc (.bool true)))]⟩
noncomputable def F142 : Abs.FTab := F141.memo [m142]
def m143 : Abs.Mem :=
  ⟨254, [(.sc (.int Go.IntKind.i64 (1)))], [(.ret (.tuple [(.sc (.int Go.IntKind.i64 (0))), (.sc (.bool false)), (.sc (.int Go.IntKind.i64 (0)))]))]⟩
noncomputable def F143 : Abs.FTab := F142.memo [m143]
def m144 : Abs.Mem :=
  ⟨254, [(.sc (.int Go.IntKind.i64 (5)))], [(.ret (.tuple [(.sc (.int Go.IntKind.i64 (2))), (.sc (.bool false)), (.sc (.int Go.IntKind.i64 (0)))]))]⟩
noncomputable def F144 : Abs.FTab := F143.memo [m144]
def k47 : Abs.AVal := .agg [(.sc (.int Go.IntKind.i64 (2))), k44]
def m145 : Abs.Mem :=
  ⟨61, [k47], [(.ret (.sc (.int Go.IntKind.i64 (0))))]⟩
noncomputable def F145 : Abs.FTab := F144.memoT [m145]
def k48 : Abs.AVal := .agg [(.data 1 false [(.sc (.int Go.IntKind.i64 (0))), (.sc (.int Go.IntKind.i64 (0)))]), (.data 1 true []), (.sc (.int Go.IntKind.i64 (2))), k44]
def m146 : Abs.Mem :=
  ⟨156, [k16, k46, k45], [(.ret (.tuple [k48, (.sc (.int Go.IntKind.i64 (0)))]))]⟩
noncomputable def F146 : Abs.FTab := F145.memo [m146]
def m147 : Abs.Mem :=
  ⟨100, [k16, k46, k45], [(.ret (.tuple [k48, (.sc (.int Go.IntKind.i64 (0)))]))]⟩
noncomputable def F147 : Abs.FTab := F146.memo [m147]
def m148 : Abs.Mem :=
  ⟨71, [(.data 1 false [(.sc (.int Go.IntKind.i64 (0))), (.sc (.int Go.IntKind.i64 (0)))]), (.data 1 false [(.sc (.int Go.IntKind.i64 (0))), (.sc (.int Go.IntKind.i64 (0)))])], [(.ret (.sc (.int Go.IntKind.i64 (0))))]⟩
noncomputable def F148 : Abs.FTab := F147.memo [m148]
def m149 : Abs.Mem :=
  ⟨72, [(.data 1 true []), (.data 1 true [])], [(.ret (.sc (.int Go.IntKind.i64 (0))))]⟩
noncomputable def F149 : Abs.FTab := F148.memo [m149]
def m150 : Abs.Mem :=
  ⟨132, [(.sc (.int Go.IntKind.i64 (5))), (.sc (.int Go.IntKind.i64 (5)))], [(.ret (.sc (.int Go.IntKind.i64 (0))))]⟩
noncomputable def F150 : Abs.FTab := F149.memo [m150]
def m151 : Abs.Mem :=
  ⟨73, [k44, k44], [(.ret (.sc (.int Go.IntKind.i64 (0))))]⟩
noncomputable def F151 : Abs.FTab := F150.memo [m151]
def m152 : Abs.Mem :=
  ⟨72, [(.data 1 false []), (.data 1 true [])], [(.ret (.sc (.int Go.IntKind.i64 (0))))]⟩
noncomputable def F152 : Abs.FTab := F151.memo [m152]
def k49 : Abs.AVal := .agg [(.data 1 false [(.sc (.int Go.IntKind.i64 (0))), (.sc (.int Go.IntKind.i64 (0)))]), (.data 1 false []), (.sc (.int Go.IntKind.i64 (2))), k44]
def m153 : Abs.Mem :=
  ⟨33, [k49, k48], [(.ret (.sc (.bool false)))]⟩
noncomputable def F153 : Abs.FTab := F152.memoT [m153]
def m154 : Abs.Mem :=
  ⟨64, [(.iptr [(.sc (.int Go.IntKind.i64 (2))), (.sc (.slice none 0 0)), (.sc (.slice none 0 0)), (.sc (.slice none 0 0)), k15, (.sc (.slice none 0 0))]), (.agg [(.data 1 false [(.sc (.int Go.IntKind.i64 (0))), (.sc (.int Go.IntKind.i64 (0)))]), (.data 1 false [])])], [(.ret (.tuple [k42, (.sc (.int Go.IntKind.i64 (0)))]))]⟩
noncomputable def F154 : Abs.FTab := F153.memo [m154]
def m155 : Abs.Mem :=
  ⟨21, [k16, (.agg [(.data 1 false [(.sc (.int Go.IntKind.i64 (0))), (.sc (.int Go.IntKind.i64 (0)))]), (.data 1 false [])])], [(.ret (.tuple [k42, (.sc (.int Go.IntKind.i64 (0)))]))]⟩
noncomputable def F155 : Abs.FTab := F154.memo [m155]
def m156 : Abs.Mem :=
  ⟨261, [(.iptr [(.sc (.int Go.IntKind.i64 (2))), (.sc (.slice none 0 0)), (.sc (.slice none 0 0)), (.sc (.slice none 0 0)), k15, (.sc (.slice none 0 0))]), (.agg [(.data 1 false [(.sc (.int Go.IntKind.i64 (0))), (.sc (.int Go.IntKind.i64 (0)))]), (.data 1 false [])]), (.sc (.int Go.IntKind.i64 (0)))], [(.ret (.sc (.int Go.IntKind.i64 (0))))]⟩
noncomputable def F156 : Abs.FTab := F155.memo [m156]
def m157 : Abs.Mem :=
  ⟨261, [(.iptr [(.sc (.int Go.IntKind.i64 (2))), (.sc (.slice none 0 0)), (.sc (.slice none 0 0)), (.sc (.slice none 0 0)), k15, (.sc (.slice none 0 0))]), (.agg [(.data 1 false [(.sc (.int Go.IntKind.i64 (0))), (.sc (.int Go.IntKind.i64 (0)))]), (.data 1 false [])]), (.sc (.int Go.IntKind.i64 (1)))], [(.ret (.sc (.int Go.IntKind.i64 (0))))]⟩
noncomputable def F157 : Abs.FTab := F156.memo [m157]
def m158 : Abs.Mem :=
  ⟨263, [(.iptr [(.sc (.int Go.IntKind.i64 (2))), (.sc (.slice none 0 0)), (.sc (.slice none 0 0)), (.sc (.slice none 0 0)), k15, (.sc (.slice none 0 0))]), (.agg [(.data 1 false [(.sc (.int Go.IntKind.i64 (0))), (.sc (.int Go.IntKind.i64 (0)))]), (.data 1 false [])])], [(.ret (.data 1 false [(.data 1 false [(.sc (.int Go.IntKind.i64 (0)))]), (.data 1 false [(.sc (.int Go.IntKind.i64 (0)))])]))]⟩
noncomputable def F158 : Abs.FTab := F157.memo [m158]
def k50 : Abs.AVal := .agg [(.data 2 false [(.agg [(.sc (.int Go.IntKind.i64 (0))), (.sc (.int Go.IntKind.i64 (0)))])]), (.data 1 false [(.sc (.int Go.IntKind.i64 (1))), (.sc (.int Go.IntKind.i64 (0)))]), (.data 1 false []), k4, (.sc (.slice none 0 0)), (.sc (.int Go.IntKind.i64 (0))), (.sc (.int Go.IntKind.i64 (0)))]
def k51 : Abs.AVal := .agg [(.data 2 false [(.agg [(.sc (.int Go.IntKind.i64 (1))), (.sc (.int Go.IntKind.i64 (0)))])]), (.data 1 false [(.sc (.int Go.IntKind.i64 (0))), (.sc (.int Go.IntKind.i64 (1)))]), (.data 1 false []), k11, (.sc (.slice none 0 0)), (.sc (.int Go.IntKind.i64 (0))), (.sc (.int Go.IntKind.i64 (0)))]
def k52 : Abs.AVal := .data 7 false [k50, k51]
def m159 : Abs.Mem :=
  ⟨206, [(.iptr [(.sc (.int Go.IntKind.i64 (2))), (.sc (.slice none 0 0)), (.sc (.slice none 0 0)), (.sc (.slice none 0 0)), k15, (.sc (.slice none 0 0))]), (.agg [(.data 1 false [(.sc (.int Go.IntKind.i64 (0))), (.sc (.int Go.IntKind.i64 (0)))]), (.data 1 false [])])], [(.ret (.tuple [k52, (.sc (.int Go.IntKind.i64 (0)))]))]⟩
noncomputable def F159 : Abs.FTab := F158.memo [m159]
def m160 : Abs.Mem :=
  ⟨164, [k16, (.agg [(.data 1 false [(.sc (.int Go.IntKind.i64 (0))), (.sc (.int Go.IntKind.i64 (0)))]), (.data 1 false [])])], [(.ret (.tuple [k52, (.sc (.int Go.IntKind.i64 (0)))]))]⟩
noncomputable def F160 : Abs.FTab := F159.memo [m160]
def m161 : Abs.Mem :=
  ⟨157, [k16, k49, (.sc (.int Go.IntKind.i64 (0)))], [(.ret (.tuple [k50, (.sc (.int Go.IntKind.i64 (0)))]))]⟩
noncomputable def F161 : Abs.FTab := F160.memo [m161]
def m162 : Abs.Mem :=
  ⟨64, [(.iptr [(.sc (.int Go.IntKind.i64 (2))), (.sc (.slice none 0 0)), (.sc (.slice none 0 0)), (.sc (.slice none 0 0)), k15, (.sc (.slice none 0 0))]), (.agg [(.data 1 false [(.sc (.int Go.IntKind.i64 (1))), (.sc (.int Go.IntKind.i64 (0)))]), (.data 1 false [])])], [(.ret (.tuple [k8, (.sc (.int Go.IntKind.i64 (0)))]))]⟩
noncomputable def F162 : Abs.FTab := F161.memo [m162]
def m163 : Abs.Mem :=
  ⟨21, [k16, (.agg [(.data 1 false [(.sc (.int Go.IntKind.i64 (1))), (.sc (.int Go.IntKind.i64 (0)))]), (.data 1 false [])])], [(.ret (.tuple [k8, (.sc (.int Go.IntKind.i64 (0)))]))]⟩
noncomputable def F163 : Abs.FTab := F162.memo [m163]
def m164 : Abs.Mem :=
  ⟨23, [k4], [(.ret (.data 3 false [(.agg [(.sc (.int Go.IntKind.i64 (0))), (.sc (.int Go.IntKind.i64 (1))), (.sc (.int Go.IntKind.i64 (-1)))])]))]⟩
noncomputable def F164 : Abs.FTab := F163.memo [m164]
def m165 : Abs.Mem :=
  ⟨65, [(.sc (.int Go.IntKind.i64 (-1)))], [(.ret (.sc (.bool true)))]⟩
noncomputable def F165 : Abs.FTab := F164.memo [m165]
def m166 : Abs.Mem :=
  ⟨113, [(.sc (.int Go.IntKind.i64 (1))), (.sc (.int Go.IntKind.i64 (-1)))], [(.ret (.sc (.int Go.IntKind.i64 (-1))))]⟩
noncomputable def F166 : Abs.FTab := F165.memo [m166]
def m167 : Abs.Mem :=
  ⟨113, [(.sc (.int Go.IntKind.i64 (5))), (.sc (.int Go.IntKind.i64 (-1)))], [(.ret (.sc (.int Go.IntKind.i64 (3))))]⟩
noncomputable def F167 : Abs.FTab := F166.memo [m167]
def m168 : Abs.Mem :=
  ⟨113, [(.sc (.int Go.IntKind.i64 (-1))), (.sc (.int Go.IntKind.i64 (5)))], [(.ret (.sc (.int Go.IntKind.i64 (3))))]⟩
noncomputable def F168 : Abs.FTab := F167.memo [m168]
def m169 : Abs.Mem :=
  ⟨113, [(.sc (.int Go.IntKind.i64 (-1))), (.sc (.int Go.IntKind.i64 (1)))], [(.ret (.sc (.int Go.IntKind.i64 (-1))))]⟩
noncomputable def F169 : Abs.FTab := F168.memo [m169]
def k53 : Abs.AVal := .data 1 false [(.sc (.int Go.IntKind.i64 (1))), (.sc (.int Go.IntKind.i64 (-1))), (.sc (.int Go.IntKind.i64 (-1))), (.sc (.int Go.IntKind.i64 (5))), (.sc (.int Go.IntKind.i64 (1))), (.sc (.int Go.IntKind.i64 (1))), (.sc (.int Go.IntKind.i64 (5))), (.sc (.int Go.IntKind.i64 (1))), (.sc (.int Go.IntKind.i64 (1)))]
def k54 : Abs.AVal := .agg [(.sc (.int Go.IntKind.i64 (2))), k53]
def m170 : Abs.Mem :=
  ⟨203, [k47, (.iptr [k4])], [(.ret (.tuple [k54, (.sc (.int Go.IntKind.i64 (0)))]))]⟩
noncomputable def F170 : Abs.FTab := F169.memo [m170]
def m171 : Abs.Mem :=
  ⟨204, [k54, (.iptr [(.sc (.slice none 0 0))])], [(.ret (.tuple [k54, (.sc (.int Go.IntKind.i64 (0)))]))]⟩
noncomputable def F171 : Abs.FTab := F170.memo [m171]
def m172 : Abs.Mem :=
  ⟨112, [(.sc (.int Go.IntKind.i64 (2))), k53], [(.ret (.sc (.bool true)))]⟩
noncomputable def F172 : Abs.FTab := F171.memo [m172]
def m173 : Abs.Mem :=
  ⟨203, [k54, (.iptr [k8])], [(.ret (.tuple [k54, (.sc (.int Go.IntKind.i64 (0)))]))]⟩
noncomputable def F173 : Abs.FTab := F172.memo [m173]
def m174 : Abs.Mem :=
  ⟨261, [(.iptr [(.sc (.int Go.IntKind.i64 (2))), (.sc (.slice none 0 0)), (.sc (.slice none 0 0)), (.sc (.slice none 0 0)), k15, (.sc (.slice none 0 0))]), (.agg [(.data 1 false [(.sc (.int Go.IntKind.i64 (1))), (.sc (.int Go.IntKind.i64 (0)))]), (.data 1 false [])]), (.sc (.int Go.IntKind.i64 (0)))], [(.ret (.sc (.int Go.IntKind.i64 (0))))]⟩
noncomputable def F174 : Abs.FTab := F173.memo [m174]
def m175 : Abs.Mem :=
  ⟨261, [(.iptr [(.sc (.int Go.IntKind.i64 (2))), (.sc (.slice none 0 0)), (.sc (.slice none 0 0)), (.sc (.slice none 0 0)), k15, (.sc (.slice none 0 0))]), (.agg [(.data 1 false [(.sc (.int Go.IntKind.i64 (1))), (.sc (.int Go.IntKind.i64 (0)))]), (.data 1 false [])]), (.sc (.int Go.IntKind.i64 (1)))], [(.ret (.sc (.int Go.IntKind.i64 (0))))]⟩
noncomputable def F175 : Abs.FTab := F174.memo [m175]
def m176 : Abs.Mem :=
  ⟨263, [(.iptr [(.sc (.int Go.IntKind.i64 (2))), (.sc (.slice none 0 0)), (.sc (.slice none 0 0)), (.sc (.slice none 0 0)), k15, (.sc (.slice none 0 0))]), (.agg [(.data 1 false [(.sc (.int Go.IntKind.i64 (1))), (.sc (.int Go.IntKind.i64 (0)))]), (.data 1 false [])])], [(.ret (.data 1 false [(.sc (.slice none 0 0)), (.data 1 false [(.sc (.int Go.IntKind.i64 (0)))])]))]⟩
noncomputable def F176 : Abs.FTab := F175.memo [m176]
def m177 : Abs.Mem :=
  ⟨207, [(.iptr [(.sc (.int Go.IntKind.i64 (2))), (.sc (.slice none 0 0)), (.sc (.slice none 0 0)), (.sc (.slice none 0 0)), k15, (.sc (.slice none 0 0))]), (.agg [(.data 1 false [(.sc (.int Go.IntKind.i64 (1))), (.sc (.int Go.IntKind.i64 (0)))]), (.data 1 false [])])], [(.ret (.sc (.bool false)))]⟩
noncomputable def F177 : Abs.FTab := F176.memo [m177]
def m178 : Abs.Mem :=
  ⟨113, [(.sc (.int Go.IntKind.i64 (-1))), (.sc (.int Go.IntKind.i64 (1099511627776)))], [(.ret (.sc (.int Go.IntKind.i64 (1099511627776))))]⟩
noncomputable def F178 : Abs.FTab := F177.memo [m178]
def k55 : Abs.AVal := .data 1 false [(.sc (.int Go.IntKind.i64 (1))), (.sc (.int Go.IntKind.i64 (-1))), (.sc (.int Go.IntKind.i64 (-1))), (.sc (.int Go.IntKind.i64 (1099511627776))), (.sc (.int Go.IntKind.i64 (1))), (.sc (.int Go.IntKind.i64 (1))), (.sc (.int Go.IntKind.i64 (1099511627776))), (.sc (.int Go.IntKind.i64 (1))), (.sc (.int Go.IntKind.i64 (1)))]
def m179 : Abs.Mem :=
  ⟨112, [(.sc (.int Go.IntKind.i64 (2))), k55], [(.ret (.sc (.bool true)))]⟩
noncomputable def F179 : Abs.FTab := F178.memo [m179]
def m180 : Abs.Mem :=
  ⟨61, [(.agg [(.sc (.int Go.IntKind.i64 (2))), k55])], [(.ret (.sc (.int Go.IntKind.i64 (0))))]⟩
noncomputable def F180 : Abs.FTab := F179.memoT [m180]
def k56 : Abs.AVal := .agg [(.data 1 false [(.sc (.int Go.IntKind.i64 (1))), (.sc (.int Go.IntKind.i64 (0)))]), (.data 1 true []), (.sc (.int Go.IntKind.i64 (2))), k53]
def m181 : Abs.Mem :=
  ⟨101, [k16, k49, (.sc (.int Go.IntKind.i64 (0)))], [(.ret (.tuple [k56, (.sc (.bool true)), (.sc (.int Go.IntKind.i64 (0)))]))]⟩
noncomputable def F181 : Abs.FTab := F180.memoT [m181]
def m182 : Abs.Mem :=
  ⟨64, [(.iptr [(.sc (.int Go.IntKind.i64 (2))), (.sc (.slice none 0 0)), (.sc (.slice none 0 0)), (.sc (.slice none 0 0)), k15, (.sc (.slice none 0 0))]), (.agg [(.data 1 false [(.sc (.int Go.IntKind.i64 (1))), (.sc (.int Go.IntKind.i64 (0)))]), (.data 1 true [])])], [(.ret (.tuple [k8, (.sc (.int Go.IntKind.i64 (0)))]))]⟩
noncomputable def F182 : Abs.FTab := F181.memo [m182]
def m183 : Abs.Mem :=
  ⟨21, [k16, (.agg [(.data 1 false [(.sc (.int Go.IntKind.i64 (1))), (.sc (.int Go.IntKind.i64 (0)))]), (.data 1 true [])])], [(.ret (.tuple [k8, (.sc (.int Go.IntKind.i64 (0)))]))]⟩
noncomputable def F183 : Abs.FTab := F182.memo [m183]
def m184 : Abs.Mem :=
  ⟨247, [k16, (.agg [(.data 1 false [(.sc (.int Go.IntKind.i64 (1))), (.sc (.int Go.IntKind.i64 (0)))]), (.data 1 true [])]), (.sc (.slice none 0 0))], [(.ret (.sc (.int Go.IntKind.i64 (0))))]⟩
noncomputable def F184 : Abs.FTab := F183.memo [m184]
def m185 : Abs.Mem :=
  ⟨254, [(.sc (.int Go.IntKind.i64 (-1)))], [(.ret (.tuple [(.sc (.int Go.IntKind.i64 (-1))), (.sc (.bool false)), (.sc (.int Go.IntKind.i64 (0)))]))]⟩
noncomputable def F185 : Abs.FTab := F184.memo [m185]
def m186 : Abs.Mem :=
  ⟨113, [(.sc (.int Go.IntKind.i64 (5))), (.sc (.int Go.IntKind.i64 (1099511627776)))], [(.ret (.sc (.int Go.IntKind.i64 (1099511627776))))]⟩
noncomputable def F186 : Abs.FTab := F185.memo [m186]
def k57 : Abs.AVal := .data 1 false [(.sc (.int Go.IntKind.i64 (1))), (.sc (.int Go.IntKind.i64 (1))), (.sc (.int Go.IntKind.i64 (-1))), (.sc (.int Go.IntKind.i64 (1099511627776))), (.sc (.int Go.IntKind.i64 (1))), (.sc (.int Go.IntKind.i64 (1099511627776))), (.sc (.int Go.IntKind.i64 (5))), (.sc (.int Go.IntKind.i64 (5))), (.sc (.int Go.IntKind.i64 (1)))]
def m187 : Abs.Mem :=
  ⟨112, [(.sc (.int Go.IntKind.i64 (2))), k57], [(.ret (.sc (.bool true)))]⟩
noncomputable def F187 : Abs.FTab := F186.memo [m187]
def m188 : Abs.Mem :=
  ⟨61, [(.agg [(.sc (.int Go.IntKind.i64 (2))), k57])], [(.ret (.sc (.int Go.IntKind.i64 (0))))]⟩
noncomputable def F188 : Abs.FTab := F187.memoT [m188]
def k58 : Abs.AVal := .agg [(.data 1 false [(.sc (.int Go.IntKind.i64 (1))), (.sc (.int Go.IntKind.i64 (0)))]), (.data 1 true []), (.sc (.int Go.IntKind.i64 (2))), k57]
def m189 : Abs.Mem :=
  ⟨156, [k16, k46, k56], [(.ret (.tuple [k58, (.sc (.int Go.IntKind.i64 (0)))]))]⟩
noncomputable def F189 : Abs.FTab := F188.memo [m189]
def m190 : Abs.Mem :=
  ⟨100, [k16, k46, k56], [(.ret (.tuple [k58, (.sc (.int Go.IntKind.i64 (0)))]))]⟩
noncomputable def F190 : Abs.FTab := F189.memo [m190]
def m191 : Abs.Mem :=
  ⟨132, [(.sc (.int Go.IntKind.i64 (-1))), (.sc (.int Go.IntKind.i64 (-1)))], [(.ret (.sc (.int Go.IntKind.i64 (0))))]⟩
noncomputable def F191 : Abs.FTab := F190.memo [m191]
def m192 : Abs.Mem :=
  ⟨132, [(.sc (.int Go.IntKind.i64 (1099511627776))), (.sc (.int Go.IntKind.i64 (1099511627776)))], [(.ret (.sc (.int Go.IntKind.i64 (0))))]⟩
noncomputable def F192 : Abs.FTab := F191.memo [m192]
def m193 : Abs.Mem :=
  ⟨73, [k57, k57], [(.ret (.sc (.int Go.IntKind.i64 (0))))]⟩
noncomputable def F193 : Abs.FTab := F192.memo [m193]
def k59 : Abs.AVal := .data 1 false [(.sc (.int Go.IntKind.i64 (1))), (.sc (.int Go.IntKind.i64 (-1))), (.sc (.int Go.IntKind.i64 (1))), (.sc (.int Go.IntKind.i64 (5))), (.sc (.int Go.IntKind.i64 (1))), (.sc (.int Go.IntKind.i64 (5))), (.sc (.int Go.IntKind.i64 (1099511627776))), (.sc (.int Go.IntKind.i64 (1099511627776))), (.sc (.int Go.IntKind.i64 (1)))]
def k60 : Abs.AVal := .agg [(.data 1 false [(.sc (.int Go.IntKind.i64 (0))), (.sc (.int Go.IntKind.i64 (1)))]), (.data 1 false []), (.sc (.int Go.IntKind.i64 (2))), k59]
def m194 : Abs.Mem :=
  ⟨33, [k60, k58], [(.ret (.sc (.bool true)))]⟩
noncomputable def F194 : Abs.FTab := F193.memoT [m194]
def m195 : Abs.Mem :=
  ⟨162, [(.data 1 false [(.sc (.int Go.IntKind.i64 (0))), (.sc (.int Go.IntKind.i64 (0)))]), (.data 1 false [(.sc (.int Go.IntKind.i64 (0))), (.sc (.int Go.IntKind.i64 (1)))])], [(.ret (.sc (.bool false)))]⟩
noncomputable def F195 : Abs.FTab := F194.memo [m195]
def m196 : Abs.Mem :=
  ⟨104, [k49, k60], [(.ret (.sc (.bool false)))]⟩
noncomputable def F196 : Abs.FTab := F195.memoT [m196]
def m197 : Abs.Mem :=
  ⟨157, [k16, k49, (.sc (.int Go.IntKind.i64 (1)))], [(.ret (.tuple [k51, (.sc (.int Go.IntKind.i64 (0)))]))]⟩
noncomputable def F197 : Abs.FTab := F196.memo [m197]
def m198 : Abs.Mem :=
  ⟨64, [(.iptr [(.sc (.int Go.IntKind.i64 (2))), (.sc (.slice none 0 0)), (.sc (.slice none 0 0)), (.sc (.slice none 0 0)), k15, (.sc (.slice none 0 0))]), (.agg [(.data 1 false [(.sc (.int Go.IntKind.i64 (0))), (.sc (.int Go.IntKind.i64 (1)))]), (.data 1 false [])])], [(.ret (.tuple [k1, (.sc (.int Go.IntKind.i64 (0)))]))]⟩
noncomputable def F198 : Abs.FTab := F197.memo [m198]
def m199 : Abs.Mem :=
  ⟨21, [k16, (.agg [(.data 1 false [(.sc (.int Go.IntKind.i64 (0))), (.sc (.int Go.IntKind.i64 (1)))]), (.data 1 false [])])], [(.ret (.tuple [k1, (.sc (.int Go.IntKind.i64 (0)))]))]⟩
noncomputable def F199 : Abs.FTab := F198.memo [m199]
def m200 : Abs.Mem :=
  ⟨23, [k11], [(.ret (.data 3 false [(.agg [(.sc (.int Go.IntKind.i64 (0))), (.sc (.int Go.IntKind.i64 (2))), (.sc (.int Go.IntKind.i64 (-1)))])]))]⟩
noncomputable def F200 : Abs.FTab := F199.memo [m200]
def m201 : Abs.Mem :=
  ⟨203, [k47, (.iptr [k11])], [(.ret (.tuple [k54, (.sc (.int Go.IntKind.i64 (0)))]))]⟩
noncomputable def F201 : Abs.FTab := F200.memo [m201]
def m202 : Abs.Mem :=
  ⟨23, [k1], [(.ret (.data 3 false [(.agg [(.sc (.int Go.IntKind.i64 (1))), (.sc (.int Go.IntKind.i64 (0))), (.sc (.int Go.IntKind.i64 (5)))])]))]⟩
noncomputable def F202 : Abs.FTab := F201.memo [m202]
def m203 : Abs.Mem :=
  ⟨203, [k54, (.iptr [k1])], [(.ret (.tuple [k54, (.sc (.int Go.IntKind.i64 (0)))]))]⟩
noncomputable def F203 : Abs.FTab := F202.memo [m203]
def m204 : Abs.Mem :=
  ⟨261, [(.iptr [(.sc (.int Go.IntKind.i64 (2))), (.sc (.slice none 0 0)), (.sc (.slice none 0 0)), (.sc (.slice none 0 0)), k15, (.sc (.slice none 0 0))]), (.agg [(.data 1 false [(.sc (.int Go.IntKind.i64 (0))), (.sc (.int Go.IntKind.i64 (1)))]), (.data 1 false [])]), (.sc (.int Go.IntKind.i64 (0)))], [(.ret (.sc (.int Go.IntKind.i64 (0))))]⟩
noncomputable def F204 : Abs.FTab := F203.memo [m204]
def m205 : Abs.Mem :=
  ⟨261, [(.iptr [(.sc (.int Go.IntKind.i64 (2))), (.sc (.slice none 0 0)), (.sc (.slice none 0 0)), (.sc (.slice none 0 0)), k15, (.sc (.slice none 0 0))]), (.agg [(.data 1 false [(.sc (.int Go.IntKind.i64 (0))), (.sc (.int Go.IntKind.i64 (1)))]), (.data 1 false [])]), (.sc (.int Go.IntKind.i64 (1)))], [(.ret (.sc (.int Go.IntKind.i64 (0))))]⟩
noncomputable def F205 : Abs.FTab := F204.memo [m205]
def m206 : Abs.Mem :=
  ⟨263, [(.iptr [(.sc (.int Go.IntKind.i64 (2))), (.sc (.slice none 0 0)), (.sc (.slice none 0 0)), (.sc (.slice none 0 0)), k15, (.sc (.slice none 0 0))]), (.agg [(.data 1 false [(.sc (.int Go.IntKind.i64 (0))), (.sc (.int Go.IntKind.i64 (1)))]), (.data 1 false [])])], [(.ret (.data 1 false [(.data 1 false [(.sc (.int Go.IntKind.i64 (0)))]), (.sc (.slice none 0 0))]))]⟩
noncomputable def F206 : Abs.FTab := F205.memo [m206]
def m207 : Abs.Mem :=
  ⟨207, [(.iptr [(.sc (.int Go.IntKind.i64 (2))), (.sc (.slice none 0 0)), (.sc (.slice none 0 0)), (.sc (.slice none 0 0)), k15, (.sc (.slice none 0 0))]), (.agg [(.data 1 false [(.sc (.int Go.IntKind.i64 (0))), (.sc (.int Go.IntKind.i64 (1)))]), (.data 1 false [])])], [(.ret (.sc (.bool false)))]⟩
noncomputable def F207 : Abs.FTab := F206.memo [m207]
def k61 : Abs.AVal := .agg [(.data 1 false [(.sc (.int Go.IntKind.i64 (0))), (.sc (.int Go.IntKind.i64 (1)))]), (.data 1 true []), (.sc (.int Go.IntKind.i64 (2))), k53]
def m208 : Abs.Mem :=
  ⟨101, [k16, k49, (.sc (.int Go.IntKind.i64 (1)))], [(.ret (.tuple [k61, (.sc (.bool true)), (.sc (.int Go.IntKind.i64 (0)))]))]⟩
noncomputable def F208 : Abs.FTab := F207.memoT [m208]
def m209 : Abs.Mem :=
  ⟨64, [(.iptr [(.sc (.int Go.IntKind.i64 (2))), (.sc (.slice none 0 0)), (.sc (.slice none 0 0)), (.sc (.slice none 0 0)), k15, (.sc (.slice none 0 0))]), (.agg [(.data 1 false [(.sc (.int Go.IntKind.i64 (0))), (.sc (.int Go.IntKind.i64 (1)))]), (.data 1 true [])])], [(.ret (.tuple [k1, (.sc (.int Go.IntKind.i64 (0)))]))]⟩
noncomputable def F209 : Abs.FTab := F208.memo [m209]
def m210 : Abs.Mem :=
  ⟨21, [k16, (.agg [(.data 1 false [(.sc (.int Go.IntKind.i64 (0))), (.sc (.int Go.IntKind.i64 (1)))]), (.data 1 true [])])], [(.ret (.tuple [k1, (.sc (.int Go.IntKind.i64 (0)))]))]⟩
noncomputable def F210 : Abs.FTab := F209.memo [m210]
def m211 : Abs.Mem :=
  ⟨247, [k16, (.agg [(.data 1 false [(.sc (.int Go.IntKind.i64 (0))), (.sc (.int Go.IntKind.i64 (1)))]), (.data 1 true [])]), (.sc (.slice none 0 0))], [(.ret (.sc (.int Go.IntKind.i64 (0))))]⟩
noncomputable def F211 : Abs.FTab := F210.memo [m211]
def m212 : Abs.Mem :=
  ⟨112, [(.sc (.int Go.IntKind.i64 (2))), k59], [(.ret (.sc (.bool true)))]⟩
noncomputable def F212 : Abs.FTab := F211.memo [m212]
def k62 : Abs.AVal := .agg [(.sc (.int Go.IntKind.i64 (2))), k59]
def m213 : Abs.Mem :=
  ⟨61, [k62], [(.ret (.sc (.int Go.IntKind.i64 (0))))]⟩
noncomputable def F213 : Abs.FTab := F212.memoT [m213]
def k63 : Abs.AVal := .agg [(.data 1 false [(.sc (.int Go.IntKind.i64 (0))), (.sc (.int Go.IntKind.i64 (1)))]), (.data 1 true []), (.sc (.int Go.IntKind.i64 (2))), k59]
def m214 : Abs.Mem :=
  ⟨156, [k16, k46, k61], [(.ret (.tuple [k63, (.sc (.int Go.IntKind.i64 (0)))]))]⟩
noncomputable def F214 : Abs.FTab := F213.memo [m214]
def m215 : Abs.Mem :=
  ⟨100, [k16, k46, k61], [(.ret (.tuple [k63, (.sc (.int Go.IntKind.i64 (0)))]))]⟩
noncomputable def F215 : Abs.FTab := F214.memo [m215]
def m216 : Abs.Mem :=
  ⟨71, [(.data 1 false [(.sc (.int Go.IntKind.i64 (0))), (.sc (.int Go.IntKind.i64 (1)))]), (.data 1 false [(.sc (.int Go.IntKind.i64 (0))), (.sc (.int Go.IntKind.i64 (1)))])], [(.ret (.sc (.int Go.IntKind.i64 (0))))]⟩
noncomputable def F216 : Abs.FTab := F215.memo [m216]
def m217 : Abs.Mem :=
  ⟨73, [k59, k59], [(.ret (.sc (.int Go.IntKind.i64 (0))))]⟩
noncomputable def F217 : Abs.FTab := F216.memo [m217]
def m218 : Abs.Mem :=
  ⟨130, [(.sc (.int Go.IntKind.i64 (1))), (.sc (.int Go.IntKind.i64 (0)))], [(.ret (.sc (.int Go.IntKind.i64 (1))))]⟩
noncomputable def F218 : Abs.FTab := F217.memo [m218]
def m219 : Abs.Mem :=
  ⟨71, [(.data 1 false [(.sc (.int Go.IntKind.i64 (1))), (.sc (.int Go.IntKind.i64 (0)))]), (.data 1 false [(.sc (.int Go.IntKind.i64 (0))), (.sc (.int Go.IntKind.i64 (1)))])], [(.ret (.sc (.int Go.IntKind.i64 (1))))]⟩
noncomputable def F219 : Abs.FTab := F218.memo [m219]
def m220 : Abs.Mem :=
  ⟨33, [(.agg [(.data 1 false [(.sc (.int Go.IntKind.i64 (1))), (.sc (.int Go.IntKind.i64 (0)))]), (.data 1 false []), (.sc (.int Go.IntKind.i64 (2))), k57]), k63], [(.ret (.sc (.bool false)))]⟩
noncomputable def F220 : Abs.FTab := F219.memoT [m220]
def m221 : Abs.Mem :=
  ⟨162, [(.data 1 false [(.sc (.int Go.IntKind.i64 (0))), (.sc (.int Go.IntKind.i64 (1)))]), (.data 1 false [(.sc (.int Go.IntKind.i64 (0))), (.sc (.int Go.IntKind.i64 (1)))])], [(.ret (.sc (.bool true)))]⟩
noncomputable def F221 : Abs.FTab := F220.memo [m221]
def m222 : Abs.Mem :=
  ⟨163, [(.data 1 false []), (.data 1 false [])], [(.ret (.sc (.bool true)))]⟩
noncomputable def F222 : Abs.FTab := F221.memo [m222]
def m223 : Abs.Mem :=
  ⟨68, [k59, k59], [(.ret (.sc (.bool true)))]⟩
noncomputable def F223 : Abs.FTab := F222.memo [m223]
def m224 : Abs.Mem :=
  ⟨104, [k60, k60], [(.ret (.sc (.bool true)))]⟩
noncomputable def F224 : Abs.FTab := F223.memoT [m224]
def k64 : Abs.AVal := .agg [(.sc (.slice none 0 0)), (.sc (.slice none 0 0)), (.sc (.slice none 0 0)), (.sc (.slice none 0 0)), (.sc (.slice none 0 0)), (.sc (.int Go.IntKind.i64 (0))), (.sc (.int Go.IntKind.i64 (0)))]
def m225 : Abs.Mem :=
  ⟨157, [k16, k49, (.sc (.int Go.IntKind.i64 (2)))], [(.ret (.tuple [k64, (.sc (.int Go.IntKind.i64 (4)))]))]⟩
noncomputable def F225 : Abs.FTab := F224.memo [m225]
def m226 : Abs.Mem :=
  ⟨101, [k16, k49, (.sc (.int Go.IntKind.i64 (2)))], [(.ret (.tuple [(.agg [(.sc (.slice none 0 0)), (.sc (.slice none 0 0)), (.sc (.int Go.IntKind.i64 (0))), (.sc (.slice none 0 0))]), (.sc (.bool false)), (.sc (.int Go.IntKind.i64 (4)))]))]⟩
noncomputable def F226 : Abs.FTab := F225.memoT [m226]
def k65 : Abs.AVal := .agg [(.data 2 false [(.agg [(.sc (.int Go.IntKind.i64 (0))), (.sc (.int Go.IntKind.i64 (0)))])]), (.data 1 false [(.sc (.int Go.IntKind.i64 (1))), (.sc (.int Go.IntKind.i64 (1)))]), (.data 1 false []), k4, (.sc (.slice none 0 0)), (.sc (.int Go.IntKind.i64 (0))), (.sc (.int Go.IntKind.i64 (0)))]
def k66 : Abs.AVal := .data 7 false [k65]
def m227 : Abs.Mem :=
  ⟨206, [(.iptr [(.sc (.int Go.IntKind.i64 (2))), (.sc (.slice none 0 0)), (.sc (.slice none 0 0)), (.sc (.slice none 0 0)), k15, (.sc (.slice none 0 0))]), (.agg [(.data 1 false [(.sc (.int Go.IntKind.i64 (0))), (.sc (.int Go.IntKind.i64 (1)))]), (.data 1 false [])])], [(.ret (.tuple [k66, (.sc (.int Go.IntKind.i64 (0)))]))]⟩
noncomputable def F227 : Abs.FTab := F226.memo [m227]
def m228 : Abs.Mem :=
  ⟨164, [k16, (.agg [(.data 1 false [(.sc (.int Go.IntKind.i64 (0))), (.sc (.int Go.IntKind.i64 (1)))]), (.data 1 false [])])], [(.ret (.tuple [k66, (.sc (.int Go.IntKind.i64 (0)))]))]⟩
noncomputable def F228 : Abs.FTab := F227.memo [m228]
def m229 : Abs.Mem :=
  ⟨157, [k16, k60, (.sc (.int Go.IntKind.i64 (0)))], [(.ret (.tuple [k65, (.sc (.int Go.IntKind.i64 (0)))]))]⟩
noncomputable def F229 : Abs.FTab := F228.memo [m229]
def m230 : Abs.Mem :=
  ⟨64, [(.iptr [(.sc (.int Go.IntKind.i64 (2))), (.sc (.slice none 0 0)), (.sc (.slice none 0 0)), (.sc (.slice none 0 0)), k15, (.sc (.slice none 0 0))]), (.agg [(.data 1 false [(.sc (.int Go.IntKind.i64 (1))), (.sc (.int Go.IntKind.i64 (1)))]), (.data 1 false [])])], [(.ret (.tuple [(.sc (.slice none 0 0)), (.sc (.int Go.IntKind.i64 (0)))]))]⟩
noncomputable def F230 : Abs.FTab := F229.memo [m230]
def m231 : Abs.Mem :=
  ⟨21, [k16, (.agg [(.data 1 false [(.sc (.int Go.IntKind.i64 (1))), (.sc (.int Go.IntKind.i64 (1)))]), (.data 1 false [])])], [(.ret (.tuple [(.sc (.slice none 0 0)), (.sc (.int Go.IntKind.i64 (0)))]))]⟩
noncomputable def F231 : Abs.FTab := F230.memo [m231]
def m232 : Abs.Mem :=
  ⟨203, [k62, (.iptr [k4])], [(.ret (.tuple [k62, (.sc (.int Go.IntKind.i64 (0)))]))]⟩
noncomputable def F232 : Abs.FTab := F231.memo [m232]
def m233 : Abs.Mem :=
  ⟨204, [k62, (.iptr [(.sc (.slice none 0 0))])], [(.ret (.tuple [k62, (.sc (.int Go.IntKind.i64 (0)))]))]⟩
noncomputable def F233 : Abs.FTab := F232.memo [m233]
def m234 : Abs.Mem :=
  ⟨23, [(.sc (.slice none 0 0))], [(.ret (.sc (.slice none 0 0)))]⟩
noncomputable def F234 : Abs.FTab := F233.memo [m234]
def m235 : Abs.Mem :=
  ⟨203, [k62, (.iptr [(.sc (.slice none 0 0))])], [(.ret (.tuple [k62, (.sc (.int Go.IntKind.i64 (0)))]))]⟩
noncomputable def F235 : Abs.FTab := F234.memo [m235]
def m236 : Abs.Mem :=
  ⟨261, [(.iptr [(.sc (.int Go.IntKind.i64 (2))), (.sc (.slice none 0 0)), (.sc (.slice none 0 0)), (.sc (.slice none 0 0)), k15, (.sc (.slice none 0 0))]), (.agg [(.data 1 false [(.sc (.int Go.IntKind.i64 (1))), (.sc (.int Go.IntKind.i64 (1)))]), (.data 1 false [])]), (.sc (.int Go.IntKind.i64 (0)))], [(.ret (.sc (.int Go.IntKind.i64 (0))))]⟩
noncomputable def F236 : Abs.FTab := F235.memo [m236]
def m237 : Abs.Mem :=
  ⟨261, [(.iptr [(.sc (.int Go.IntKind.i64 (2))), (.sc (.slice none 0 0)), (.sc (.slice none 0 0)), (.sc (.slice none 0 0)), k15, (.sc (.slice none 0 0))]), (.agg [(.data 1 false [(.sc (.int Go.IntKind.i64 (1))), (.sc (.int Go.IntKind.i64 (1)))]), (.data 1 false [])]), (.sc (.int Go.IntKind.i64 (1)))], [(.ret (.sc (.int Go.IntKind.i64 (0))))]⟩
noncomputable def F237 : Abs.FTab := F236.memo [m237]
def m238 : Abs.Mem :=
  ⟨263, [(.iptr [(.sc (.int Go.IntKind.i64 (2))), (.sc (.slice none 0 0)), (.sc (.slice none 0 0)), (.sc (.slice none 0 0)), k15, (.sc (.slice none 0 0))]), (.agg [(.data 1 false [(.sc (.int Go.IntKind.i64 (1))), (.sc (.int Go.IntKind.i64 (1)))]), (.data 1 false [])])], [(.ret (.data 1 false [(.sc (.slice none 0 0)), (.sc (.slice none 0 0))]))]⟩
noncomputable def F238 : Abs.FTab := F237.memo [m238]
def m239 : Abs.Mem :=
  ⟨207, [(.iptr [(.sc (.int Go.IntKind.i64 (2))), (.sc (.slice none 0 0)), (.sc (.slice none 0 0)), (.sc (.slice none 0 0)), k15, (.sc (.slice none 0 0))]), (.agg [(.data 1 false [(.sc (.int Go.IntKind.i64 (1))), (.sc (.int Go.IntKind.i64 (1)))]), (.data 1 false [])])], [(.ret (.sc (.bool false)))]⟩
noncomputable def F239 : Abs.FTab := F238.memo [m239]
def k67 : Abs.AVal := .data 1 false [(.sc (.int Go.IntKind.i64 (1))), (.sc (.int Go.IntKind.i64 (-1))), (.sc (.int Go.IntKind.i64 (1))), (.sc (.int Go.IntKind.i64 (1099511627776))), (.sc (.int Go.IntKind.i64 (1))), (.sc (.int Go.IntKind.i64 (5))), (.sc (.int Go.IntKind.i64 (1099511627776))), (.sc (.int Go.IntKind.i64 (1099511627776))), (.sc (.int Go.IntKind.i64 (1)))]
def m240 : Abs.Mem :=
  ⟨112, [(.sc (.int Go.IntKind.i64 (2))), k67], [(.ret (.sc (.bool true)))]⟩
noncomputable def F240 : Abs.FTab := F239.memo [m240]
def m241 : Abs.Mem :=
  ⟨61, [(.agg [(.sc (.int Go.IntKind.i64 (2))), k67])], [(.ret (.sc (.int Go.IntKind.i64 (0))))]⟩
noncomputable def F241 : Abs.FTab := F240.memoT [m241]
def k68 : Abs.AVal := .agg [(.data 1 false [(.sc (.int Go.IntKind.i64 (1))), (.sc (.int Go.IntKind.i64 (1)))]), (.data 1 true []), (.sc (.int Go.IntKind.i64 (2))), k67]
def m242 : Abs.Mem :=
  ⟨101, [k16, k60, (.sc (.int Go.IntKind.i64 (0)))], [(.ret (.tuple [k68, (.sc (.bool true)), (.sc (.int Go.IntKind.i64 (0)))]))]⟩
noncomputable def F242 : Abs.FTab := F241.memoT [m242]
def m243 : Abs.Mem :=
  ⟨64, [(.iptr [(.sc (.int Go.IntKind.i64 (2))), (.sc (.slice none 0 0)), (.sc (.slice none 0 0)), (.sc (.slice none 0 0)), k15, (.sc (.slice none 0 0))]), (.agg [(.data 1 false [(.sc (.int Go.IntKind.i64 (1))), (.sc (.int Go.IntKind.i64 (1)))]), (.data 1 true [])])], [(.ret (.tuple [(.sc (.slice none 0 0)), (.sc (.int Go.IntKind.i64 (0)))]))]⟩
noncomputable def F243 : Abs.FTab := F242.memo [m243]
def m244 : Abs.Mem :=
  ⟨21, [k16, (.agg [(.data 1 false [(.sc (.int Go.IntKind.i64 (1))), (.sc (.int Go.IntKind.i64 (1)))]), (.data 1 true [])])], [(.ret (.tuple [(.sc (.slice none 0 0)), (.sc (.int Go.IntKind.i64 (0)))]))]⟩
noncomputable def F244 : Abs.FTab := F243.memo [m244]
def m245 : Abs.Mem :=
  ⟨247, [k16, (.agg [(.data 1 false [(.sc (.int Go.IntKind.i64 (1))), (.sc (.int Go.IntKind.i64 (1)))]), (.data 1 true [])]), (.sc (.slice none 0 0))], [(.ret (.sc (.int Go.IntKind.i64 (0))))]⟩
noncomputable def F245 : Abs.FTab := F244.memo [m245]
def m246 : Abs.Mem :=
  ⟨254, [(.sc (.int Go.IntKind.i64 (1099511627776)))], [(.ret (.tuple [(.sc (.int Go.IntKind.i64 (0))), (.sc (.bool false)), (.sc (.int Go.IntKind.i64 (4)))]))]⟩
noncomputable def F246 : Abs.FTab := F245.memo [m246]
def k69 : Abs.AVal := .data 1 false [(.sc (.int Go.IntKind.i64 (1))), (.sc (.int Go.IntKind.i64 (1))), (.sc (.int Go.IntKind.i64 (1))), (.sc (.int Go.IntKind.i64 (1099511627776))), (.sc (.int Go.IntKind.i64 (1))), (.sc (.int Go.IntKind.i64 (1099511627776))), (.sc (.int Go.IntKind.i64 (1099511627776))), (.sc (.int Go.IntKind.i64 (1099511627776))), (.sc (.int Go.IntKind.i64 (1)))]
def m247 : Abs.Mem :=
  ⟨112, [(.sc (.int Go.IntKind.i64 (2))), k69], [(.ret (.sc (.bool true)))]⟩
noncomputable def F247 : Abs.FTab := F246.memo [m247]
def m248 : Abs.Mem :=
  ⟨61, [(.agg [(.sc (.int Go.IntKind.i64 (2))), k69])], [(.ret (.sc (.int Go.IntKind.i64 (0))))]⟩
noncomputable def F248 : Abs.FTab := F247.memoT [m248]
def k70 : Abs.AVal := .agg [(.data 1 false [(.sc (.int Go.IntKind.i64 (1))), (.sc (.int Go.IntKind.i64 (1)))]), (.data 1 true []), (.sc (.int Go.IntKind.i64 (2))), k69]
def m249 : Abs.Mem :=
  ⟨156, [k16, k46, k68], [(.ret (.tuple [k70, (.sc (.int Go.IntKind.i64 (0)))]))]⟩
noncomputable def F249 : Abs.FTab := F248.memo [m249]
def m250 : Abs.Mem :=
  ⟨100, [k16, k46, k68], [(.ret (.tuple [k70, (.sc (.int Go.IntKind.i64 (0)))]))]⟩
noncomputable def F250 : Abs.FTab := F249.memo [m250]
def m251 : Abs.Mem :=
  ⟨71, [(.data 1 false [(.sc (.int Go.IntKind.i64 (1))), (.sc (.int Go.IntKind.i64 (1)))]), (.data 1 false [(.sc (.int Go.IntKind.i64 (1))), (.sc (.int Go.IntKind.i64 (1)))])], [(.ret (.sc (.int Go.IntKind.i64 (0))))]⟩
noncomputable def F251 : Abs.FTab := F250.memo [m251]
def m252 : Abs.Mem :=
  ⟨73, [k69, k69], [(.ret (.sc (.int Go.IntKind.i64 (0))))]⟩
noncomputable def F252 : Abs.FTab := F251.memo [m252]
def k71 : Abs.AVal := .agg [(.data 1 false [(.sc (.int Go.IntKind.i64 (1))), (.sc (.int Go.IntKind.i64 (1)))]), (.data 1 false []), (.sc (.int Go.IntKind.i64 (2))), k69]
def m253 : Abs.Mem :=
  ⟨33, [k71, k70], [(.ret (.sc (.bool false)))]⟩
noncomputable def F253 : Abs.FTab := F252.memoT [m253]
def m254 : Abs.Mem :=
  ⟨162, [(.data 1 false [(.sc (.int Go.IntKind.i64 (0))), (.sc (.int Go.IntKind.i64 (0)))]), (.data 1 false [(.sc (.int Go.IntKind.i64 (1))), (.sc (.int Go.IntKind.i64 (1)))])], [(.ret (.sc (.bool false)))]⟩
noncomputable def F254 : Abs.FTab := F253.memo [m254]
def m255 : Abs.Mem :=
  ⟨104, [k49, k71], [(.ret (.sc (.bool false)))]⟩
noncomputable def F255 : Abs.FTab := F254.memoT [m255]
def m256 : Abs.Mem :=
  ⟨162, [(.data 1 false [(.sc (.int Go.IntKind.i64 (0))), (.sc (.int Go.IntKind.i64 (1)))]), (.data 1 false [(.sc (.int Go.IntKind.i64 (1))), (.sc (.int Go.IntKind.i64 (1)))])], [(.ret (.sc (.bool false)))]⟩
noncomputable def F256 : Abs.FTab := F255.memo [m256]
def m257 : Abs.Mem :=
  ⟨104, [k60, k71], [(.ret (.sc (.bool false)))]⟩
noncomputable def F257 : Abs.FTab := F256.memoT [m257]
def m258 : Abs.Mem :=
  ⟨157, [k16, k60, (.sc (.int Go.IntKind.i64 (1)))], [(.ret (.tuple [k64, (.sc (.int Go.IntKind.i64 (4)))]))]⟩
noncomputable def F258 : Abs.FTab := F257.memo [m258]
def m259 : Abs.Mem :=
  ⟨101, [k16, k60, (.sc (.int Go.IntKind.i64 (1)))], [(.ret (.tuple [(.agg [(.sc (.slice none 0 0)), (.sc (.slice none 0 0)), (.sc (.int Go.IntKind.i64 (0))), (.sc (.slice none 0 0))]), (.sc (.bool false)), (.sc (.int Go.IntKind.i64 (4)))]))]⟩
noncomputable def F259 : Abs.FTab := F258.memoT [m259]
def m260 : Abs.Mem :=
  ⟨206, [(.iptr [(.sc (.int Go.IntKind.i64 (2))), (.sc (.slice none 0 0)), (.sc (.slice none 0 0)), (.sc (.slice none 0 0)), k15, (.sc (.slice none 0 0))]), (.agg [(.data 1 false [(.sc (.int Go.IntKind.i64 (1))), (.sc (.int Go.IntKind.i64 (1)))]), (.data 1 false [])])], [(.ret (.tuple [(.sc (.slice none 0 0)), (.sc (.int Go.IntKind.i64 (0)))]))]⟩
noncomputable def F260 : Abs.FTab := F259.memo [m260]
def m261 : Abs.Mem :=
  ⟨164, [k16, (.agg [(.data 1 false [(.sc (.int Go.IntKind.i64 (1))), (.sc (.int Go.IntKind.i64 (1)))]), (.data 1 false [])])], [(.ret (.tuple [(.sc (.slice none 0 0)), (.sc (.int Go.IntKind.i64 (0)))]))]⟩
noncomputable def F261 : Abs.FTab := F260.memo [m261]
def m262 : Abs.Mem :=
  ⟨157, [k16, k71, (.sc (.int Go.IntKind.i64 (0)))], [(.ret (.tuple [k64, (.sc (.int Go.IntKind.i64 (4)))]))]⟩
noncomputable def F262 : Abs.FTab := F261.memo [m262]
def m263 : Abs.Mem :=
  ⟨101, [k16, k71, (.sc (.int Go.IntKind.i64 (0)))], [(.ret (.tuple [(.agg [(.sc (.slice none 0 0)), (.sc (.slice none 0 0)), (.sc (.int Go.IntKind.i64 (0))), (.sc (.slice none 0 0))]), (.sc (.bool false)), (.sc (.int Go.IntKind.i64 (4)))]))]⟩
noncomputable def F263 : Abs.FTab := F262.memoT [m263]
def m264 : Abs.Mem :=
  ⟨106, [k16, k40], [(.ret (.sc (.int Go.IntKind.i64 (0))))]⟩
noncomputable def F264 : Abs.FTab := F263.memo [m264]
def m265 : Abs.Mem :=
  ⟨96, [k36, (.sc (.int Go.IntKind.i64 (4)))], [(.ret (.sc (.bool false)))]⟩
noncomputable def F265 : Abs.FTab := F264.memo [m265]
def m266 : Abs.Mem :=
  ⟨96, [k38, (.sc (.int Go.IntKind.i64 (4)))], [(.ret (.sc (.bool false)))]⟩
noncomputable def F266 : Abs.FTab := F265.memo [m266]
def m267 : Abs.Mem :=
  ⟨96, [k40, (.sc (.int Go.IntKind.i64 (4)))], [(.ret (.sc (.bool false)))]⟩
noncomputable def F267 : Abs.FTab := F266.memo [m267]
def m268 : Abs.Mem :=
  ⟨59, [k16, k40, k49], [(.ret (.tuple [(.sc (.slice none 0 0)), (.sc (.int Go.IntKind.i64 (0)))]))]⟩
noncomputable def F268 : Abs.FTab := F267.memoT [m268]
def m269 : Abs.Mem :=
  ⟨59, [k16, k40, k60], [(.ret (.tuple [(.data 2 false [k62]), (.sc (.int Go.IntKind.i64 (0)))]))]⟩
noncomputable def F269 : Abs.FTab := F268.memoT [m269]
def m270 : Abs.Mem :=
  ⟨18, [k16, k40, (.sc (.int Go.IntKind.i64 (50)))], [(.ret (.tuple [(.sc (.int Go.IntKind.i64 (1))), (.sc (.int Go.IntKind.i64 (3))), (.sc (.int Go.IntKind.i64 (0)))]))]⟩
noncomputable def F270 : Abs.FTab := F269.memoT [m270]
def m271 : Abs.Mem :=
  ⟨8, [], [(.ret (.sc (.bool true)))]⟩
noncomputable def F271 : Abs.FTab := F270.memo [m271]
def m272 : Abs.Mem :=
  ⟨3, [], [(.ret (.sc (.bool true)))]⟩
noncomputable def F272 : Abs.FTab := F271.memo [m272]
end Go.Proofs.YtcilgbobjhdmeaaGreatDoor.symmetryKnown
