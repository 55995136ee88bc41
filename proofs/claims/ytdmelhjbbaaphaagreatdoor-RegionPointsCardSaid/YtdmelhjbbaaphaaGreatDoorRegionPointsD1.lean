/-
  What single calls that the law RegionPoints makes return (part 1), by the values of the abstract layer. It proves no statement by itself.
-/
import Derived.Test.YtdmelhjbbaaphaaGreatDoorProg
import Derived.Test.YtdmelhjbbaaphaaGreatDoorPtAbsMm
import Derived.KernelRfl
namespace Go.Proofs.YtdmelhjbbaaphaaGreatDoor.regionPoints
open Go
noncomputable def F0 : Abs.FTab := Abs.ftabZ Tryz.prog [116, 126, 152, 162, 163, 189, 63, 76] [51] [63, 76]
def k1 : Abs.AVal := .data 4 false [(.agg [(.sc (.int Go.IntKind.i64 (1))), (.sc (.bool false)), (.sc (.bool false)), (.sc (.int Go.IntKind.i64 (2)))])]
def k2 : Abs.AVal := .agg [(.sc (.int Go.IntKind.i64 (0))), k1, (.sc (.int Go.IntKind.i64 (0)))]
def k3 : Abs.AVal := .data 3 false [k2, (.agg [(.sc (.int Go.IntKind.i64 (0))), (.sc (.slice none 0 0)), (.sc (.int Go.IntKind.i64 (0)))])]
def k4 : Abs.AVal := .data 4 false [(.agg [(.sc (.int Go.IntKind.i64 (1))), (.sc (.bool true)), (.sc (.bool false)), (.sc (.int Go.IntKind.i64 (1)))])]
def k5 : Abs.AVal := .agg [(.sc (.int Go.IntKind.i64 (0))), (.sc (.int Go.IntKind.i64 (1))), k4, (.sc (.int Go.IntKind.i64 (0))), (.sc (.string ⟨#[]⟩)), (.sc (.int Go.IntKind.i64 (0))), (.sc (.slice none 0 0)), (.sc (.int Go.IntKind.i64 (-1))), (.sc (.bool false)), (.sc (.slice none 0 0)), (.data 2 false [(.agg [(.sc (.int Go.IntKind.i64 (1))), (.sc (.int Go.IntKind.i64 (0)))])]), (.sc (.int Go.IntKind.i64 (0))), (.sc (.int Go.IntKind.i64 (0)))]
def k6 : Abs.AVal := .data 4 false [(.agg [(.sc (.int Go.IntKind.i64 (1))), (.sc (.bool true)), (.sc (.bool true)), (.sc (.int Go.IntKind.i64 (3)))])]
def k7 : Abs.AVal := .agg [(.sc (.int Go.IntKind.i64 (1))), (.sc (.int Go.IntKind.i64 (1))), k6, (.sc (.int Go.IntKind.i64 (0))), (.sc (.string ⟨#[]⟩)), (.sc (.int Go.IntKind.i64 (0))), (.sc (.slice none 0 0)), (.sc (.int Go.IntKind.i64 (-1))), (.sc (.bool false)), (.sc (.slice none 0 0)), (.sc (.slice none 0 0)), (.sc (.int Go.IntKind.i64 (0))), (.sc (.int Go.IntKind.i64 (0)))]
def k8 : Abs.AVal := .data 13 false [k5, k7]
def k9 : Abs.AVal := .agg [(.sc (.int Go.IntKind.i64 (0))), k3, k8]
def k10 : Abs.AVal := .data 3 false [k9]
def k11 : Abs.AVal := .agg [(.sc (.int Go.IntKind.i64 (1))), (.sc (.slice none 0 0)), (.sc (.slice none 0 0)), (.sc (.slice none 0 0)), k10]
def m1 : Abs.Mem :=
  ⟨56, [k11], [(.ret (.sc (.int Go.IntKind.i64 (0))))]⟩
noncomputable def F1 : Abs.FTab := F0.memo [m1]
def k12 : Abs.AVal := .agg [(.sc (.int Go.IntKind.i64 (1))), (.sc (.bool false)), (.sc (.int Go.IntKind.i64 (1))), (.sc (.int Go.IntKind.i64 (0))), (.sc (.int Go.IntKind.i64 (1))), (.sc (.int Go.IntKind.i64 (0))), (.sc (.string ⟨#[]⟩)), (.sc (.int Go.IntKind.i64 (0))), (.sc (.slice none 0 0)), (.sc (.int Go.IntKind.i64 (0))), (.sc (.bool false)), (.sc (.bool false)), (.sc (.int Go.IntKind.i64 (0))), (.sc (.slice none 0 0)), (.sc (.int Go.IntKind.i64 (0))), (.sc (.int Go.IntKind.i64 (0))), (.sc (.int Go.IntKind.i64 (0))), (.sc (.int Go.IntKind.i64 (0))), (.sc (.string ⟨#[]⟩)), (.sc (.int Go.IntKind.i64 (0))), (.sc (.slice none 0 0)), (.sc (.int Go.IntKind.i64 (0))), (.sc (.bool false)), (.sc (.bool false)), (.sc (.int Go.IntKind.i64 (0))), (.sc (.slice none 0 0))]
def m2 : Abs.Mem :=
  ⟨47, [k11, k12], [(.ret (.sc (.int Go.IntKind.i64 (0))))]⟩
noncomputable def F2 : Abs.FTab := F1.memo [m2]
def m3 : Abs.Mem :=
  ⟨63, [(.agg [(.data 1 false [(.sc (.int Go.IntKind.i64 (0)))]), (.sc (.slice none 0 0))]), (.agg [(.data 1 false [(.sc (.int Go.IntKind.i64 (0)))]), (.data 1 false [(.sc (.int Go.IntKind.i64 (0)))])])], [(.ret (.sc (.string ⟨#[48, 32, 48, 32, 48, 32]⟩)))]⟩
noncomputable def F3 : Abs.FTab := F2.memoT [m3]
def m4 : Abs.Mem :=
  ⟨106, [(.iptr [(.sc (.int Go.IntKind.i64 (1))), (.sc (.slice none 0 0)), (.sc (.slice none 0 0)), (.sc (.slice none 0 0)), k10, (.sc (.slice none 0 0))]), (.agg [(.data 1 false [(.sc (.int Go.IntKind.i64 (0)))]), (.sc (.slice none 0 0))])], [(.ret (.tuple [(.data 7 false [(.agg [(.data 2 false [(.agg [(.sc (.int Go.IntKind.i64 (0))), (.sc (.int Go.IntKind.i64 (0)))])]), (.data 1 false [(.sc (.int Go.IntKind.i64 (1)))]), (.sc (.slice none 0 0)), k4, (.data 2 false [(.agg [(.sc (.int Go.IntKind.i64 (1))), (.sc (.int Go.IntKind.i64 (0)))])]), (.sc (.int Go.IntKind.i64 (0))), (.sc (.int Go.IntKind.i64 (0)))])]), (.sc (.int Go.IntKind.i64 (0)))]))]⟩
noncomputable def F4 : Abs.FTab := F3.memo [m4]
def m5 : Abs.Mem :=
  ⟨63, [(.agg [(.data 1 false [(.sc (.int Go.IntKind.i64 (0)))]), (.sc (.slice none 0 0))]), (.agg [(.data 1 false [(.sc (.int Go.IntKind.i64 (0)))]), (.data 1 false [(.sc (.int Go.IntKind.i64 (1)))])])], [(.ret (.sc (.string ⟨#[48, 32, 48, 32, 49, 32]⟩)))]⟩
noncomputable def F5 : Abs.FTab := F4.memoT [m5]
def m6 : Abs.Mem :=
  ⟨63, [(.agg [(.data 1 false [(.sc (.int Go.IntKind.i64 (0)))]), (.sc (.slice none 0 0))]), (.agg [(.data 1 false [(.sc (.int Go.IntKind.i64 (1)))]), (.data 1 false [(.sc (.int Go.IntKind.i64 (0)))])])], [(.ret (.sc (.string ⟨#[48, 32, 49, 32, 48, 32]⟩)))]⟩
noncomputable def F6 : Abs.FTab := F5.memoT [m6]
def m7 : Abs.Mem :=
  ⟨63, [(.agg [(.data 1 false [(.sc (.int Go.IntKind.i64 (0)))]), (.sc (.slice none 0 0))]), (.agg [(.data 1 false [(.sc (.int Go.IntKind.i64 (1)))]), (.data 1 false [(.sc (.int Go.IntKind.i64 (1)))])])], [(.ret (.sc (.string ⟨#[48, 32, 49, 32, 49, 32]⟩)))]⟩
noncomputable def F7 : Abs.FTab := F6.memoT [m7]
def m8 : Abs.Mem :=
  ⟨63, [(.agg [(.data 1 false [(.sc (.int Go.IntKind.i64 (1)))]), (.sc (.slice none 0 0))]), (.agg [(.data 1 false [(.sc (.int Go.IntKind.i64 (0)))]), (.data 1 false [(.sc (.int Go.IntKind.i64 (0)))])])], [(.ret (.sc (.string ⟨#[49, 32, 48, 32, 48, 32]⟩)))]⟩
noncomputable def F8 : Abs.FTab := F7.memoT [m8]
def m9 : Abs.Mem :=
  ⟨63, [(.agg [(.data 1 false [(.sc (.int Go.IntKind.i64 (0)))]), (.sc (.slice none 0 0))]), (.agg [(.data 1 false [(.sc (.int Go.IntKind.i64 (2)))]), (.data 1 false [(.sc (.int Go.IntKind.i64 (0)))])])], [(.ret (.sc (.string ⟨#[48, 32, 50, 32, 48, 32]⟩)))]⟩
noncomputable def F9 : Abs.FTab := F8.memoT [m9]
def m10 : Abs.Mem :=
  ⟨106, [(.iptr [(.sc (.int Go.IntKind.i64 (1))), (.sc (.slice none 0 0)), (.sc (.slice none 0 0)), (.sc (.slice none 0 0)), k10, (.sc (.slice none 0 0))]), (.agg [(.data 1 false [(.sc (.int Go.IntKind.i64 (1)))]), (.sc (.slice none 0 0))])], [(.ret (.tuple [(.data 7 false [(.agg [(.data 2 false [(.agg [(.sc (.int Go.IntKind.i64 (0))), (.sc (.int Go.IntKind.i64 (1)))])]), (.data 1 false [(.sc (.int Go.IntKind.i64 (1)))]), (.sc (.slice none 0 0)), k6, (.sc (.slice none 0 0)), (.sc (.int Go.IntKind.i64 (0))), (.sc (.int Go.IntKind.i64 (0)))])]), (.sc (.int Go.IntKind.i64 (0)))]))]⟩
noncomputable def F10 : Abs.FTab := F9.memo [m10]
def m11 : Abs.Mem :=
  ⟨63, [(.agg [(.data 1 false [(.sc (.int Go.IntKind.i64 (1)))]), (.sc (.slice none 0 0))]), (.agg [(.data 1 false [(.sc (.int Go.IntKind.i64 (0)))]), (.data 1 false [(.sc (.int Go.IntKind.i64 (1)))])])], [(.ret (.sc (.string ⟨#[49, 32, 48, 32, 49, 32]⟩)))]⟩
noncomputable def F11 : Abs.FTab := F10.memoT [m11]
def m12 : Abs.Mem :=
  ⟨63, [(.agg [(.data 1 false [(.sc (.int Go.IntKind.i64 (1)))]), (.sc (.slice none 0 0))]), (.agg [(.data 1 false [(.sc (.int Go.IntKind.i64 (1)))]), (.data 1 false [(.sc (.int Go.IntKind.i64 (0)))])])], [(.ret (.sc (.string ⟨#[49, 32, 49, 32, 48, 32]⟩)))]⟩
noncomputable def F12 : Abs.FTab := F11.memoT [m12]
def m13 : Abs.Mem :=
  ⟨63, [(.agg [(.data 1 false [(.sc (.int Go.IntKind.i64 (1)))]), (.sc (.slice none 0 0))]), (.agg [(.data 1 false [(.sc (.int Go.IntKind.i64 (1)))]), (.data 1 false [(.sc (.int Go.IntKind.i64 (1)))])])], [(.ret (.sc (.string ⟨#[49, 32, 49, 32, 49, 32]⟩)))]⟩
noncomputable def F13 : Abs.FTab := F12.memoT [m13]
def m14 : Abs.Mem :=
  ⟨63, [(.agg [(.data 1 false [(.sc (.int Go.IntKind.i64 (1)))]), (.sc (.slice none 0 0))]), (.agg [(.data 1 false [(.sc (.int Go.IntKind.i64 (2)))]), (.data 1 false [(.sc (.int Go.IntKind.i64 (0)))])])], [(.ret (.sc (.string ⟨#[49, 32, 50, 32, 48, 32]⟩)))]⟩
noncomputable def F14 : Abs.FTab := F13.memoT [m14]
def m15 : Abs.Mem :=
  ⟨63, [(.agg [(.data 1 false [(.sc (.int Go.IntKind.i64 (1)))]), (.sc (.slice none 0 0))]), (.agg [(.data 1 false [(.sc (.int Go.IntKind.i64 (2)))]), (.data 1 false [(.sc (.int Go.IntKind.i64 (1)))])])], [(.ret (.sc (.string ⟨#[49, 32, 50, 32, 49, 32]⟩)))]⟩
noncomputable def F15 : Abs.FTab := F14.memoT [m15]
def m16 : Abs.Mem :=
  ⟨63, [(.agg [(.data 1 false [(.sc (.int Go.IntKind.i64 (1)))]), (.sc (.slice none 0 0))]), (.agg [(.data 1 false [(.sc (.int Go.IntKind.i64 (3)))]), (.data 1 false [(.sc (.int Go.IntKind.i64 (0)))])])], [(.ret (.sc (.string ⟨#[49, 32, 51, 32, 48, 32]⟩)))]⟩
noncomputable def F16 : Abs.FTab := F15.memoT [m16]
def m17 : Abs.Mem :=
  ⟨63, [(.agg [(.data 1 false [(.sc (.int Go.IntKind.i64 (1)))]), (.sc (.slice none 0 0))]), (.agg [(.data 1 false [(.sc (.int Go.IntKind.i64 (4)))]), (.data 1 false [(.sc (.int Go.IntKind.i64 (0)))])])], [(.ret (.sc (.string ⟨#[49, 32, 52, 32, 48, 32]⟩)))]⟩
noncomputable def F17 : Abs.FTab := F16.memoT [m17]
def m18 : Abs.Mem :=
  ⟨25, [k11, k12, (.sc (.int Go.IntKind.i64 (100)))], [(.ret (.tuple [(.sc (.int Go.IntKind.i64 (1))), (.sc (.int Go.IntKind.i64 (0)))]))]⟩
noncomputable def F18 : Abs.FTab := F17.memo [m18]
def k13 : Abs.AVal := .agg [(.sc (.int Go.IntKind.i64 (3))), (.sc (.bool false)), (.sc (.int Go.IntKind.i64 (1))), (.sc (.int Go.IntKind.i64 (0))), (.sc (.int Go.IntKind.i64 (0))), (.sc (.int Go.IntKind.i64 (0))), (.sc (.string ⟨#[]⟩)), (.sc (.int Go.IntKind.i64 (0))), (.sc (.slice none 0 0)), (.sc (.int Go.IntKind.i64 (0))), (.sc (.bool false)), (.sc (.bool false)), (.sc (.int Go.IntKind.i64 (0))), (.sc (.slice none 0 0)), (.sc (.int Go.IntKind.i64 (0))), (.sc (.int Go.IntKind.i64 (0))), (.sc (.int Go.IntKind.i64 (0))), (.sc (.int Go.IntKind.i64 (0))), (.sc (.string ⟨#[]⟩)), (.sc (.int Go.IntKind.i64 (0))), (.sc (.slice none 0 0)), (.sc (.int Go.IntKind.i64 (0))), (.sc (.bool false)), (.sc (.bool false)), (.sc (.int Go.IntKind.i64 (0))), (.sc (.slice none 0 0))]
def m19 : Abs.Mem :=
  ⟨47, [k11, k13], [(.ret (.sc (.int Go.IntKind.i64 (0))))]⟩
noncomputable def F19 : Abs.FTab := F18.memo [m19]
def k14 : Abs.AVal := .agg [(.data 1 false [(.sc (.int Go.IntKind.i64 (0)))]), (.sc (.slice none 0 0)), (.data 1 false [(.sc (.int Go.IntKind.i64 (0)))]), (.data 1 false [(.sc (.int Go.IntKind.i64 (0)))]), (.sc (.int Go.IntKind.i64 (1))), (.sc (.slice none 0 0)), (.sc (.int Go.IntKind.i64 (-1))), (.sc (.bool false)), (.sc (.bool false))]
def k15 : Abs.AVal := .agg [(.data 1 false [(.sc (.int Go.IntKind.i64 (0)))]), (.sc (.slice none 0 0)), (.data 1 false [(.sc (.int Go.IntKind.i64 (0)))]), (.data 1 false [(.sc (.int Go.IntKind.i64 (1)))]), (.sc (.int Go.IntKind.i64 (2))), (.sc (.slice none 0 0)), (.sc (.int Go.IntKind.i64 (-1))), (.sc (.bool false)), (.sc (.bool false))]
def k16 : Abs.AVal := .agg [(.data 1 false [(.sc (.int Go.IntKind.i64 (0)))]), (.sc (.slice none 0 0)), (.data 1 false [(.sc (.int Go.IntKind.i64 (1)))]), (.data 1 false [(.sc (.int Go.IntKind.i64 (0)))]), (.sc (.int Go.IntKind.i64 (3))), (.data 1 false [(.sc (.int Go.IntKind.i64 (4)))]), (.sc (.int Go.IntKind.i64 (-1))), (.sc (.bool false)), (.sc (.bool false))]
def k17 : Abs.AVal := .agg [(.data 1 false [(.sc (.int Go.IntKind.i64 (0)))]), (.sc (.slice none 0 0)), (.data 1 false [(.sc (.int Go.IntKind.i64 (1)))]), (.data 1 false [(.sc (.int Go.IntKind.i64 (1)))]), (.sc (.int Go.IntKind.i64 (5))), (.data 1 false [(.sc (.int Go.IntKind.i64 (4)))]), (.sc (.int Go.IntKind.i64 (-1))), (.sc (.bool false)), (.sc (.bool false))]
def k18 : Abs.AVal := .agg [(.data 1 false [(.sc (.int Go.IntKind.i64 (1)))]), (.sc (.slice none 0 0)), (.data 1 false [(.sc (.int Go.IntKind.i64 (0)))]), (.data 1 false [(.sc (.int Go.IntKind.i64 (0)))]), (.sc (.int Go.IntKind.i64 (6))), (.sc (.slice none 0 0)), (.sc (.int Go.IntKind.i64 (-1))), (.sc (.bool false)), (.sc (.bool true))]
def k19 : Abs.AVal := .agg [(.data 1 false [(.sc (.int Go.IntKind.i64 (0)))]), (.sc (.slice none 0 0)), (.data 1 false [(.sc (.int Go.IntKind.i64 (2)))]), (.data 1 false [(.sc (.int Go.IntKind.i64 (0)))]), (.sc (.int Go.IntKind.i64 (-1))), (.data 1 false [(.sc (.int Go.IntKind.i64 (4)))]), (.sc (.int Go.IntKind.i64 (-1))), (.sc (.bool false)), (.sc (.bool false))]
def k20 : Abs.AVal := .agg [(.data 1 false [(.sc (.int Go.IntKind.i64 (1)))]), (.sc (.slice none 0 0)), (.data 1 false [(.sc (.int Go.IntKind.i64 (0)))]), (.data 1 false [(.sc (.int Go.IntKind.i64 (1)))]), (.sc (.int Go.IntKind.i64 (7))), (.sc (.slice none 0 0)), (.sc (.int Go.IntKind.i64 (-1))), (.sc (.bool false)), (.sc (.bool true))]
def k21 : Abs.AVal := .agg [(.data 1 false [(.sc (.int Go.IntKind.i64 (1)))]), (.sc (.slice none 0 0)), (.data 1 false [(.sc (.int Go.IntKind.i64 (1)))]), (.data 1 false [(.sc (.int Go.IntKind.i64 (0)))]), (.sc (.int Go.IntKind.i64 (8))), (.sc (.slice none 0 0)), (.sc (.int Go.IntKind.i64 (-1))), (.sc (.bool false)), (.sc (.bool true))]
def k22 : Abs.AVal := .agg [(.data 1 false [(.sc (.int Go.IntKind.i64 (1)))]), (.sc (.slice none 0 0)), (.data 1 false [(.sc (.int Go.IntKind.i64 (1)))]), (.data 1 false [(.sc (.int Go.IntKind.i64 (1)))]), (.sc (.int Go.IntKind.i64 (9))), (.sc (.slice none 0 0)), (.sc (.int Go.IntKind.i64 (-1))), (.sc (.bool false)), (.sc (.bool true))]
def k23 : Abs.AVal := .agg [(.data 1 false [(.sc (.int Go.IntKind.i64 (1)))]), (.sc (.slice none 0 0)), (.data 1 false [(.sc (.int Go.IntKind.i64 (2)))]), (.data 1 false [(.sc (.int Go.IntKind.i64 (0)))]), (.sc (.int Go.IntKind.i64 (10))), (.sc (.slice none 0 0)), (.sc (.int Go.IntKind.i64 (-1))), (.sc (.bool false)), (.sc (.bool true))]
def k24 : Abs.AVal := .agg [(.data 1 false [(.sc (.int Go.IntKind.i64 (1)))]), (.sc (.slice none 0 0)), (.data 1 false [(.sc (.int Go.IntKind.i64 (2)))]), (.data 1 false [(.sc (.int Go.IntKind.i64 (1)))]), (.sc (.int Go.IntKind.i64 (11))), (.sc (.slice none 0 0)), (.sc (.int Go.IntKind.i64 (-1))), (.sc (.bool false)), (.sc (.bool true))]
def k25 : Abs.AVal := .agg [(.data 1 false [(.sc (.int Go.IntKind.i64 (1)))]), (.sc (.slice none 0 0)), (.data 1 false [(.sc (.int Go.IntKind.i64 (3)))]), (.data 1 false [(.sc (.int Go.IntKind.i64 (0)))]), (.sc (.int Go.IntKind.i64 (12))), (.sc (.slice none 0 0)), (.sc (.int Go.IntKind.i64 (-1))), (.sc (.bool false)), (.sc (.bool true))]
def k26 : Abs.AVal := .agg [(.data 1 false [(.sc (.int Go.IntKind.i64 (1)))]), (.sc (.slice none 0 0)), (.data 1 false [(.sc (.int Go.IntKind.i64 (4)))]), (.data 1 false [(.sc (.int Go.IntKind.i64 (0)))]), (.sc (.int Go.IntKind.i64 (-1))), (.data 1 false [(.sc (.int Go.IntKind.i64 (12)))]), (.sc (.int Go.IntKind.i64 (-1))), (.sc (.bool false)), (.sc (.bool true))]
def k27 : Abs.AVal := .data 9 false [k14, k15, k16, k17, k18, k19, k20, k21, k22, k23, k24, k25, k26]
def m20 : Abs.Mem :=
  ⟨76, [(.iptr [(.sc (.int Go.IntKind.i64 (1))), (.sc (.slice none 0 0)), (.sc (.slice none 0 0)), (.sc (.slice none 0 0)), k10, (.data 1 false [(.sc (.int Go.IntKind.i64 (3)))]), (.sc (.bool false)), k27]), (.data 1 false [(.sc (.bool true)), (.sc (.bool true)), (.sc (.bool true)), (.sc (.bool true)), (.sc (.bool false)), (.sc (.bool true)), (.sc (.bool false)), (.sc (.bool false)), (.sc (.bool false)), (.sc (.bool false)), (.sc (.bool false)), (.sc (.bool false)), (.sc (.bool false))])], [(.ret (.data 1 false [(.sc (.int Go.IntKind.i64 (5))), (.sc (.int Go.IntKind.i64 (4))), (.sc (.int Go.IntKind.i64 (3))), (.sc (.int Go.IntKind.i64 (2))), (.sc (.int Go.IntKind.i64 (0))), (.sc (.int Go.IntKind.i64 (1))), (.sc (.int Go.IntKind.i64 (0))), (.sc (.int Go.IntKind.i64 (0))), (.sc (.int Go.IntKind.i64 (0))), (.sc (.int Go.IntKind.i64 (0))), (.sc (.int Go.IntKind.i64 (0))), (.sc (.int Go.IntKind.i64 (0))), (.sc (.int Go.IntKind.i64 (0)))]))]⟩
noncomputable def F20 : Abs.FTab := F19.memoT [m20]
def m21 : Abs.Mem :=
  ⟨51, [(.iptr [(.sc (.int Go.IntKind.i64 (1))), (.sc (.slice none 0 0)), (.sc (.slice none 0 0)), (.sc (.slice none 0 0)), k10, (.data 1 false [(.sc (.int Go.IntKind.i64 (3)))]), (.sc (.bool false)), k27]), (.agg [(.sc (.int Go.IntKind.i64 (1))), (.sc (.int Go.IntKind.i64 (0))), (.sc (.int Go.IntKind.i64 (0))), (.sc (.int Go.IntKind.i64 (0))), (.sc (.string ⟨#[]⟩)), (.sc (.int Go.IntKind.i64 (0))), (.sc (.slice none 0 0)), (.sc (.int Go.IntKind.i64 (0))), (.sc (.bool false)), (.sc (.bool false)), (.sc (.int Go.IntKind.i64 (0))), (.sc (.slice none 0 0))])], [(.ret (.data 1 false [(.sc (.bool false)), (.sc (.bool false)), (.sc (.bool false)), (.sc (.bool false)), (.sc (.bool false)), (.sc (.bool false)), (.sc (.bool false)), (.sc (.bool false)), (.sc (.bool false)), (.sc (.bool false)), (.sc (.bool false)), (.sc (.bool false)), (.sc (.bool false))]))]⟩
noncomputable def F21 : Abs.FTab := F20.memo [m21]
def m22 : Abs.Mem :=
  ⟨25, [k11, k13, (.sc (.int Go.IntKind.i64 (100)))], [(.ret (.tuple [(.sc (.int Go.IntKind.i64 (2))), (.sc (.int Go.IntKind.i64 (0)))]))]⟩
noncomputable def F22 : Abs.FTab := F21.memo [m22]
def m23 : Abs.Mem :=
  ⟨6, [], [(.ret (.sc (.bool true)))]⟩
noncomputable def F23 : Abs.FTab := F22.memo [m23]
end Go.Proofs.YtdmelhjbbaaphaaGreatDoor.regionPoints
