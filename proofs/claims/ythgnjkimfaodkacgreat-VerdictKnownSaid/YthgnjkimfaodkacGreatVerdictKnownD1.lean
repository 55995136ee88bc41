/-
  What single calls that the law VerdictKnown makes return (part 1), by the values of the abstract layer. It proves no statement by itself.
-/
import Derived.Test.YthgnjkimfaodkacGreatProg
import Derived.Test.YthgnjkimfaodkacGreatAbsG15
import Derived.KernelRfl
namespace Go.Proofs.YthgnjkimfaodkacGreat.verdictKnown
open Go
noncomputable def F0 : Abs.FTab := Abs.ftabZ Tryz.prog [11, 26, 27, 73, 107, 117, 170, 172, 177, 203, 208, 213, 214, 229, 236, 34, 85] [12] [34, 85]
def k1 : Abs.AVal := .data 4 false [(.agg [(.sc (.int Go.IntKind.i64 (1))), (.sc (.bool false)), (.sc (.bool false)), (.sc (.int Go.IntKind.i64 (2)))])]
def k2 : Abs.AVal := .agg [(.sc (.int Go.IntKind.i64 (0))), k1, (.sc (.int Go.IntKind.i64 (0)))]
def k3 : Abs.AVal := .data 3 false [k2, (.agg [(.sc (.int Go.IntKind.i64 (0))), (.sc (.slice none 0 0)), (.sc (.int Go.IntKind.i64 (0)))])]
def k4 : Abs.AVal := .data 4 false [(.agg [(.sc (.int Go.IntKind.i64 (1))), (.sc (.bool true)), (.sc (.bool false)), (.sc (.int Go.IntKind.i64 (1)))])]
def k5 : Abs.AVal := .agg [(.sc (.int Go.IntKind.i64 (0))), (.sc (.int Go.IntKind.i64 (1))), k4, (.sc (.int Go.IntKind.i64 (0))), (.sc (.string ⟨#[]⟩)), (.sc (.int Go.IntKind.i64 (0))), (.sc (.slice none 0 0)), (.sc (.int Go.IntKind.i64 (-1))), (.sc (.bool false)), (.sc (.slice none 0 0)), (.data 2 false [(.agg [(.sc (.int Go.IntKind.i64 (1))), (.sc (.int Go.IntKind.i64 (0)))])]), (.sc (.int Go.IntKind.i64 (0))), (.sc (.int Go.IntKind.i64 (0)))]
def k6 : Abs.AVal := .data 4 false [(.agg [(.sc (.int Go.IntKind.i64 (1))), (.sc (.bool true)), (.sc (.bool true)), (.sc (.int Go.IntKind.i64 (3)))])]
def k7 : Abs.AVal := .agg [(.sc (.int Go.IntKind.i64 (1))), (.sc (.int Go.IntKind.i64 (1))), k6, (.sc (.int Go.IntKind.i64 (0))), (.sc (.string ⟨#[]⟩)), (.sc (.int Go.IntKind.i64 (0))), (.sc (.slice none 0 0)), (.sc (.int Go.IntKind.i64 (-1))), (.sc (.bool false)), (.sc (.slice none 0 0)), (.sc (.slice none 0 0)), (.sc (.int Go.IntKind.i64 (0))), (.sc (.int Go.IntKind.i64 (0)))]
def k8 : Abs.AVal := .data 13 false [k5, k7]
def k9 : Abs.AVal := .agg [(.sc (.int Go.IntKind.i64 (0))), k3, k8]
def k10 : Abs.AVal := .data 3 false [k9]
def k11 : Abs.AVal := .agg [(.sc (.int Go.IntKind.i64 (1))), (.sc (.slice none 0 0)), (.sc (.slice none 0 0)), (.sc (.slice none 0 0)), k10]
def m1 : Abs.Mem :=
  ⟨21, [k11], [(.ret (.sc (.int Go.IntKind.i64 (0))))]⟩
noncomputable def F1 : Abs.FTab := F0.memo [m1]
def k12 : Abs.AVal := .agg [(.sc (.int Go.IntKind.i64 (1))), (.sc (.bool false)), (.sc (.int Go.IntKind.i64 (1))), (.sc (.int Go.IntKind.i64 (0))), (.sc (.int Go.IntKind.i64 (1))), (.sc (.int Go.IntKind.i64 (0))), (.sc (.string ⟨#[]⟩)), (.sc (.int Go.IntKind.i64 (0))), (.sc (.slice none 0 0)), (.sc (.int Go.IntKind.i64 (0))), (.sc (.bool false)), (.sc (.bool false)), (.sc (.int Go.IntKind.i64 (0))), (.sc (.slice none 0 0)), (.sc (.int Go.IntKind.i64 (0))), (.sc (.int Go.IntKind.i64 (0))), (.sc (.int Go.IntKind.i64 (0))), (.sc (.int Go.IntKind.i64 (0))), (.sc (.string ⟨#[]⟩)), (.sc (.int Go.IntKind.i64 (0))), (.sc (.slice none 0 0)), (.sc (.int Go.IntKind.i64 (0))), (.sc (.bool false)), (.sc (.bool false)), (.sc (.int Go.IntKind.i64 (0))), (.sc (.slice none 0 0))]
def m2 : Abs.Mem :=
  ⟨9, [k11, k12], [(.ret (.sc (.int Go.IntKind.i64 (0))))]⟩
noncomputable def F2 : Abs.FTab := F1.memo [m2]
def m3 : Abs.Mem :=
  ⟨127, [k9, (.sc (.int Go.IntKind.i64 (1)))], [(.ret (.tuple [(.data 1 false [(.data 1 false [(.sc (.int Go.IntKind.i64 (1)))]), (.data 1 false [(.sc (.int Go.IntKind.i64 (3)))])]), (.data 1 false [(.data 1 false [(.sc (.int Go.IntKind.i64 (2)))]), (.data 1 false [(.sc (.int Go.IntKind.i64 (-1)))])])]))]⟩
noncomputable def F3 : Abs.FTab := F2.memo [m3]
def m4 : Abs.Mem :=
  ⟨69, [k11, (.agg [(.data 1 false [(.sc (.int Go.IntKind.i64 (0)))]), (.sc (.slice none 0 0))]), (.sc (.slice none 0 0))], [(.ret (.tuple [(.data 1 false [(.sc (.int Go.IntKind.i64 (2)))]), (.sc (.int Go.IntKind.i64 (0)))]))]⟩
noncomputable def F4 : Abs.FTab := F3.memo [m4]
def k13 : Abs.AVal := .data 1 false [(.sc (.int Go.IntKind.i64 (1))), (.sc (.int Go.IntKind.i64 (1))), (.sc (.int Go.IntKind.i64 (1))), (.sc (.int Go.IntKind.i64 (1)))]
def k14 : Abs.AVal := .agg [(.sc (.int Go.IntKind.i64 (1))), k13]
def m5 : Abs.Mem :=
  ⟨122, [(.sc (.int Go.IntKind.i64 (1))), (.sc (.int Go.IntKind.i64 (1)))], [(.ret (.tuple [k14, (.sc (.int Go.IntKind.i64 (0)))]))]⟩
noncomputable def F5 : Abs.FTab := F4.memo [m5]
def m6 : Abs.Mem :=
  ⟨128, [k14], [(.ret (.sc (.int Go.IntKind.i64 (0))))]⟩
noncomputable def F6 : Abs.FTab := F5.memo [m6]
def k15 : Abs.AVal := .data 1 false [(.sc (.int Go.IntKind.i64 (1))), (.sc (.int Go.IntKind.i64 (1))), (.sc (.int Go.IntKind.i64 (1099511627776))), (.sc (.int Go.IntKind.i64 (1)))]
def k16 : Abs.AVal := .agg [(.sc (.int Go.IntKind.i64 (1))), k15]
def m7 : Abs.Mem :=
  ⟨139, [k14, (.sc (.bool true)), (.func (.func 175) [] [])], [(.ret (.tuple [k16, (.sc (.int Go.IntKind.i64 (0)))]))]⟩
noncomputable def F7 : Abs.FTab := F6.memo [m7]
def m8 : Abs.Mem :=
  ⟨128, [k16], [(.ret (.sc (.int Go.IntKind.i64 (0))))]⟩
noncomputable def F8 : Abs.FTab := F7.memo [m8]
def k17 : Abs.AVal := .data 3 false [(.agg [(.sc (.int Go.IntKind.i64 (1))), (.sc (.int Go.IntKind.i64 (0))), (.sc (.int Go.IntKind.i64 (5)))])]
def k18 : Abs.AVal := .data 1 false [(.sc (.int Go.IntKind.i64 (1))), (.sc (.int Go.IntKind.i64 (1))), (.sc (.int Go.IntKind.i64 (5))), (.sc (.int Go.IntKind.i64 (1)))]
def k19 : Abs.AVal := .agg [(.sc (.int Go.IntKind.i64 (1))), k18]
def m9 : Abs.Mem :=
  ⟨77, [k16, k17], [(.ret (.tuple [k19, (.sc (.int Go.IntKind.i64 (0)))]))]⟩
noncomputable def F9 : Abs.FTab := F8.memo [m9]
def m10 : Abs.Mem :=
  ⟨123, [k14, (.iptr [(.sc (.int Go.IntKind.i64 (1))), (.sc (.slice none 0 0)), (.sc (.slice none 0 0)), (.sc (.slice none 0 0)), k10]), (.iptr [(.data 1 false [(.sc (.int Go.IntKind.i64 (0)))]), (.sc (.slice none 0 0))])], [(.ret (.tuple [k19, (.sc (.int Go.IntKind.i64 (0)))]))]⟩
noncomputable def F10 : Abs.FTab := F9.memo [m10]
def m11 : Abs.Mem :=
  ⟨128, [k19], [(.ret (.sc (.int Go.IntKind.i64 (0))))]⟩
noncomputable def F11 : Abs.FTab := F10.memo [m11]
def k20 : Abs.AVal := .agg [(.sc (.int Go.IntKind.i64 (2))), (.sc (.bool false)), (.sc (.slice none 0 0)), (.sc (.int Go.IntKind.i64 (10)))]
def k21 : Abs.AVal := .agg [(.data 1 false [(.sc (.int Go.IntKind.i64 (0)))]), (.sc (.slice none 0 0)), (.sc (.int Go.IntKind.i64 (1))), k18]
def k22 : Abs.AVal := .agg [(.data 1 false [(.sc (.int Go.IntKind.i64 (0)))]), (.data 1 true []), (.sc (.int Go.IntKind.i64 (1))), k18]
def m12 : Abs.Mem :=
  ⟨30, [k11, k20, k21], [(.ret (.tuple [k22, (.sc (.int Go.IntKind.i64 (0)))]))]⟩
noncomputable def F12 : Abs.FTab := F11.memo [m12]
def k23 : Abs.AVal := .agg [(.data 2 false [(.agg [(.sc (.int Go.IntKind.i64 (0))), (.sc (.int Go.IntKind.i64 (0)))])]), (.data 1 false [(.sc (.int Go.IntKind.i64 (1)))]), (.data 1 false []), k4, (.data 2 false [(.agg [(.sc (.int Go.IntKind.i64 (1))), (.sc (.int Go.IntKind.i64 (0)))])]), (.sc (.int Go.IntKind.i64 (0))), (.sc (.int Go.IntKind.i64 (0)))]
def m13 : Abs.Mem :=
  ⟨141, [(.iptr [(.sc (.int Go.IntKind.i64 (1))), (.sc (.slice none 0 0)), (.sc (.slice none 0 0)), (.sc (.slice none 0 0)), k10, (.sc (.slice none 0 0))]), (.agg [(.data 1 false [(.sc (.int Go.IntKind.i64 (0)))]), (.data 1 true [])])], [(.ret (.tuple [(.data 7 false [k23]), (.sc (.int Go.IntKind.i64 (0)))]))]⟩
noncomputable def F13 : Abs.FTab := F12.memo [m13]
def m14 : Abs.Mem :=
  ⟨77, [k19, k17], [(.ret (.tuple [k19, (.sc (.int Go.IntKind.i64 (0)))]))]⟩
noncomputable def F14 : Abs.FTab := F13.memo [m14]
def m15 : Abs.Mem :=
  ⟨41, [k11, k22], [(.ret (.sc (.int Go.IntKind.i64 (0))))]⟩
noncomputable def F15 : Abs.FTab := F14.memo [m15]
def k24 : Abs.AVal := .data 3 false [(.agg [(.sc (.int Go.IntKind.i64 (0))), (.sc (.int Go.IntKind.i64 (1))), (.sc (.int Go.IntKind.i64 (-1)))])]
def k25 : Abs.AVal := .data 1 false [(.sc (.int Go.IntKind.i64 (1))), (.sc (.int Go.IntKind.i64 (-1))), (.sc (.int Go.IntKind.i64 (5))), (.sc (.int Go.IntKind.i64 (1)))]
def k26 : Abs.AVal := .agg [(.sc (.int Go.IntKind.i64 (1))), k25]
def m16 : Abs.Mem :=
  ⟨77, [k19, k24], [(.ret (.tuple [k26, (.sc (.int Go.IntKind.i64 (0)))]))]⟩
noncomputable def F16 : Abs.FTab := F15.memo [m16]
def m17 : Abs.Mem :=
  ⟨128, [k26], [(.ret (.sc (.int Go.IntKind.i64 (0))))]⟩
noncomputable def F17 : Abs.FTab := F16.memo [m17]
def m18 : Abs.Mem :=
  ⟨190, [k26, (.sc (.int Go.IntKind.i64 (1))), (.sc (.int Go.IntKind.i64 (0)))], [(.ret (.tuple [k14, (.sc (.int Go.IntKind.i64 (0)))]))]⟩
noncomputable def F18 : Abs.FTab := F17.memo [m18]
def m19 : Abs.Mem :=
  ⟨77, [k14, (.sc (.slice none 0 0))], [(.ret (.tuple [k14, (.sc (.int Go.IntKind.i64 (0)))]))]⟩
noncomputable def F19 : Abs.FTab := F18.memo [m19]
def m20 : Abs.Mem :=
  ⟨77, [k16, (.sc (.slice none 0 0))], [(.ret (.tuple [k16, (.sc (.int Go.IntKind.i64 (0)))]))]⟩
noncomputable def F20 : Abs.FTab := F19.memo [m20]
def m21 : Abs.Mem :=
  ⟨123, [k14, (.iptr [(.sc (.int Go.IntKind.i64 (1))), (.sc (.slice none 0 0)), (.sc (.slice none 0 0)), (.sc (.slice none 0 0)), k10]), (.iptr [(.data 1 false [(.sc (.int Go.IntKind.i64 (1)))]), (.data 1 false [])])], [(.ret (.tuple [k16, (.sc (.int Go.IntKind.i64 (0)))]))]⟩
noncomputable def F21 : Abs.FTab := F20.memo [m21]
def k27 : Abs.AVal := .agg [(.data 1 false [(.sc (.int Go.IntKind.i64 (1)))]), (.data 1 true []), (.sc (.int Go.IntKind.i64 (1))), k15]
def m22 : Abs.Mem :=
  ⟨80, [k11, k22, (.sc (.int Go.IntKind.i64 (0)))], [(.ret (.tuple [k27, (.sc (.bool true)), (.sc (.int Go.IntKind.i64 (0)))]))]⟩
noncomputable def F22 : Abs.FTab := F21.memo [m22]
def m23 : Abs.Mem :=
  ⟨30, [k11, k20, k27], [(.ret (.tuple [k27, (.sc (.int Go.IntKind.i64 (0)))]))]⟩
noncomputable def F23 : Abs.FTab := F22.memo [m23]
def m24 : Abs.Mem :=
  ⟨41, [k11, k27], [(.ret (.sc (.int Go.IntKind.i64 (0))))]⟩
noncomputable def F24 : Abs.FTab := F23.memo [m24]
def m25 : Abs.Mem :=
  ⟨141, [(.iptr [(.sc (.int Go.IntKind.i64 (1))), (.sc (.slice none 0 0)), (.sc (.slice none 0 0)), (.sc (.slice none 0 0)), k10, (.sc (.slice none 0 0))]), (.agg [(.data 1 false [(.sc (.int Go.IntKind.i64 (1)))]), (.data 1 true [])])], [(.ret (.tuple [(.data 7 false [(.agg [(.data 2 false [(.agg [(.sc (.int Go.IntKind.i64 (0))), (.sc (.int Go.IntKind.i64 (1)))])]), (.data 1 false [(.sc (.int Go.IntKind.i64 (1)))]), (.data 1 false []), k6, (.sc (.slice none 0 0)), (.sc (.int Go.IntKind.i64 (0))), (.sc (.int Go.IntKind.i64 (0)))])]), (.sc (.int Go.IntKind.i64 (0)))]))]⟩
noncomputable def F25 : Abs.FTab := F24.memo [m25]
def k28 : Abs.AVal := .data 3 false [(.agg [(.sc (.int Go.IntKind.i64 (0))), (.sc (.int Go.IntKind.i64 (1))), (.sc (.int Go.IntKind.i64 (-6)))])]
def k29 : Abs.AVal := .data 1 false [(.sc (.int Go.IntKind.i64 (1))), (.sc (.int Go.IntKind.i64 (-6))), (.sc (.int Go.IntKind.i64 (1099511627776))), (.sc (.int Go.IntKind.i64 (1)))]
def k30 : Abs.AVal := .agg [(.sc (.int Go.IntKind.i64 (1))), k29]
def m26 : Abs.Mem :=
  ⟨77, [k16, k28], [(.ret (.tuple [k30, (.sc (.int Go.IntKind.i64 (0)))]))]⟩
noncomputable def F26 : Abs.FTab := F25.memo [m26]
def m27 : Abs.Mem :=
  ⟨128, [k30], [(.ret (.sc (.int Go.IntKind.i64 (0))))]⟩
noncomputable def F27 : Abs.FTab := F26.memo [m27]
def m28 : Abs.Mem :=
  ⟨77, [k30, (.sc (.slice none 0 0))], [(.ret (.tuple [k30, (.sc (.int Go.IntKind.i64 (0)))]))]⟩
noncomputable def F28 : Abs.FTab := F27.memo [m28]
def m29 : Abs.Mem :=
  ⟨139, [k30, (.sc (.bool true)), (.func (.func 175) [] [])], [(.ret (.tuple [k30, (.sc (.int Go.IntKind.i64 (0)))]))]⟩
noncomputable def F29 : Abs.FTab := F28.memo [m29]
def m30 : Abs.Mem :=
  ⟨123, [k30, (.iptr [(.sc (.int Go.IntKind.i64 (1))), (.sc (.slice none 0 0)), (.sc (.slice none 0 0)), (.sc (.slice none 0 0)), k10]), (.iptr [(.data 1 false [(.sc (.int Go.IntKind.i64 (1)))]), (.data 1 false [])])], [(.ret (.tuple [k30, (.sc (.int Go.IntKind.i64 (0)))]))]⟩
noncomputable def F30 : Abs.FTab := F29.memo [m30]
def k31 : Abs.AVal := .agg [(.data 1 false [(.sc (.int Go.IntKind.i64 (1)))]), (.data 1 true []), (.sc (.int Go.IntKind.i64 (1))), k29]
def m31 : Abs.Mem :=
  ⟨80, [k11, k27, (.sc (.int Go.IntKind.i64 (0)))], [(.ret (.tuple [k31, (.sc (.bool true)), (.sc (.int Go.IntKind.i64 (0)))]))]⟩
noncomputable def F31 : Abs.FTab := F30.memo [m31]
def m32 : Abs.Mem :=
  ⟨30, [k11, k20, k31], [(.ret (.tuple [k31, (.sc (.int Go.IntKind.i64 (0)))]))]⟩
noncomputable def F32 : Abs.FTab := F31.memo [m32]
def m33 : Abs.Mem :=
  ⟨41, [k11, k31], [(.ret (.sc (.int Go.IntKind.i64 (0))))]⟩
noncomputable def F33 : Abs.FTab := F32.memo [m33]
def m34 : Abs.Mem :=
  ⟨77, [k30, k28], [(.ret (.tuple [k30, (.sc (.int Go.IntKind.i64 (0)))]))]⟩
noncomputable def F34 : Abs.FTab := F33.memo [m34]
def m35 : Abs.Mem :=
  ⟨80, [k11, k31, (.sc (.int Go.IntKind.i64 (0)))], [(.ret (.tuple [k31, (.sc (.bool true)), (.sc (.int Go.IntKind.i64 (0)))]))]⟩
noncomputable def F35 : Abs.FTab := F34.memo [m35]
def k32 : Abs.AVal := .agg [(.data 1 false [(.sc (.int Go.IntKind.i64 (0)))]), (.data 1 true []), (.sc (.int Go.IntKind.i64 (1))), k18, (.sc (.int Go.IntKind.i64 (-1))), (.sc (.int Go.IntKind.i64 (-1)))]
def k33 : Abs.AVal := .agg [(.data 1 false [(.sc (.int Go.IntKind.i64 (1)))]), (.data 1 true []), (.sc (.int Go.IntKind.i64 (1))), k15, (.sc (.int Go.IntKind.i64 (0))), (.sc (.int Go.IntKind.i64 (0)))]
def k34 : Abs.AVal := .agg [(.data 1 false [(.sc (.int Go.IntKind.i64 (1)))]), (.data 1 true []), (.sc (.int Go.IntKind.i64 (1))), k29, (.sc (.int Go.IntKind.i64 (1))), (.sc (.int Go.IntKind.i64 (0)))]
def k35 : Abs.AVal := .data 6 false [k32, k33, k34]
def k36 : Abs.AVal := .data 3 false [(.agg [(.sc (.int Go.IntKind.i64 (0))), (.sc (.int Go.IntKind.i64 (0))), (.sc (.int Go.IntKind.i64 (1)))]), (.agg [(.sc (.int Go.IntKind.i64 (1))), (.sc (.int Go.IntKind.i64 (0))), (.sc (.int Go.IntKind.i64 (2)))])]
def m36 : Abs.Mem :=
  ⟨34, [(.iptr [k35, k36, (.sc (.bool false))]), k20, k31], [(.ret (.tuple [(.sc (.int Go.IntKind.i64 (2))), (.sc (.bool true))]))]⟩
noncomputable def F36 : Abs.FTab := F35.memoT [m36]
def k37 : Abs.AVal := .data 3 false [(.agg [(.sc (.int Go.IntKind.i64 (0))), (.sc (.int Go.IntKind.i64 (0))), (.sc (.int Go.IntKind.i64 (1)))]), (.agg [(.sc (.int Go.IntKind.i64 (1))), (.sc (.int Go.IntKind.i64 (0))), (.sc (.int Go.IntKind.i64 (2)))]), (.agg [(.sc (.int Go.IntKind.i64 (2))), (.sc (.int Go.IntKind.i64 (0))), (.sc (.int Go.IntKind.i64 (2)))])]
def k38 : Abs.AVal := .agg [k35, k37, (.sc (.bool true))]
def m37 : Abs.Mem :=
  ⟨12, [k11, k20], [(.ret (.tuple [k38, (.sc (.int Go.IntKind.i64 (0)))]))]⟩
noncomputable def F37 : Abs.FTab := F36.memo [m37]
def m38 : Abs.Mem :=
  ⟨6, [k11, k12, (.sc (.int Go.IntKind.i64 (10)))], [(.ret (.tuple [(.sc (.int Go.IntKind.i64 (1))), (.sc (.int Go.IntKind.i64 (0)))]))]⟩
noncomputable def F38 : Abs.FTab := F37.memo [m38]
def k39 : Abs.AVal := .agg [(.sc (.int Go.IntKind.i64 (2))), (.sc (.bool false)), (.sc (.int Go.IntKind.i64 (1))), (.sc (.int Go.IntKind.i64 (0))), (.sc (.int Go.IntKind.i64 (0))), (.sc (.int Go.IntKind.i64 (0))), (.sc (.string ⟨#[]⟩)), (.sc (.int Go.IntKind.i64 (0))), (.sc (.slice none 0 0)), (.sc (.int Go.IntKind.i64 (0))), (.sc (.bool false)), (.sc (.bool false)), (.sc (.int Go.IntKind.i64 (0))), (.sc (.slice none 0 0)), (.sc (.int Go.IntKind.i64 (0))), (.sc (.int Go.IntKind.i64 (0))), (.sc (.int Go.IntKind.i64 (0))), (.sc (.int Go.IntKind.i64 (0))), (.sc (.string ⟨#[]⟩)), (.sc (.int Go.IntKind.i64 (0))), (.sc (.slice none 0 0)), (.sc (.int Go.IntKind.i64 (0))), (.sc (.bool false)), (.sc (.bool false)), (.sc (.int Go.IntKind.i64 (0))), (.sc (.slice none 0 0))]
def m39 : Abs.Mem :=
  ⟨9, [k11, k39], [(.ret (.sc (.int Go.IntKind.i64 (0))))]⟩
noncomputable def F39 : Abs.FTab := F38.memo [m39]
def k40 : Abs.AVal := .agg [(.sc (.int Go.IntKind.i64 (1))), (.sc (.int Go.IntKind.i64 (0))), (.sc (.int Go.IntKind.i64 (0))), (.sc (.int Go.IntKind.i64 (0))), (.sc (.string ⟨#[]⟩)), (.sc (.int Go.IntKind.i64 (0))), (.sc (.slice none 0 0)), (.sc (.int Go.IntKind.i64 (0))), (.sc (.bool false)), (.sc (.bool false)), (.sc (.int Go.IntKind.i64 (0))), (.sc (.slice none 0 0))]
def k41 : Abs.AVal := .data 12 false [k40]
def k42 : Abs.AVal := .agg [(.sc (.int Go.IntKind.i64 (5))), (.sc (.int Go.IntKind.i64 (0))), (.sc (.int Go.IntKind.i64 (0))), (.sc (.int Go.IntKind.i64 (0))), (.sc (.string ⟨#[]⟩)), (.sc (.int Go.IntKind.i64 (0))), (.sc (.slice none 0 0)), (.sc (.int Go.IntKind.i64 (0))), (.sc (.bool false)), (.sc (.bool false)), (.sc (.int Go.IntKind.i64 (0))), k41]
def m40 : Abs.Mem :=
  ⟨40, [k11, k42], [(.ret (.sc (.int Go.IntKind.i64 (0))))]⟩
noncomputable def F40 : Abs.FTab := F39.memo [m40]
def m41 : Abs.Mem :=
  ⟨222, [k19, k19, (.func (.func 223) [] [])], [(.ret (.tuple [k19, (.sc (.int Go.IntKind.i64 (0)))]))]⟩
noncomputable def F41 : Abs.FTab := F40.memo [m41]
def m42 : Abs.Mem :=
  ⟨226, [k19], [(.ret (.tuple [k17, (.sc (.int Go.IntKind.i64 (0)))]))]⟩
noncomputable def F42 : Abs.FTab := F41.memo [m42]
def m43 : Abs.Mem :=
  ⟨19, [k11, k42, k22], [(.ret (.tuple [(.sc (.slice none 0 0)), (.sc (.int Go.IntKind.i64 (0)))]))]⟩
noncomputable def F43 : Abs.FTab := F42.memo [m43]
def m44 : Abs.Mem :=
  ⟨6, [k11, k39, (.sc (.int Go.IntKind.i64 (10)))], [(.ret (.tuple [(.sc (.int Go.IntKind.i64 (2))), (.sc (.int Go.IntKind.i64 (0)))]))]⟩
noncomputable def F44 : Abs.FTab := F43.memo [m44]
def k43 : Abs.AVal := .agg [(.sc (.int Go.IntKind.i64 (3))), (.sc (.int Go.IntKind.i64 (0))), (.sc (.int Go.IntKind.i64 (0))), (.sc (.int Go.IntKind.i64 (0))), (.sc (.string ⟨#[]⟩)), (.sc (.int Go.IntKind.i64 (0))), (.sc (.slice none 0 0)), (.sc (.int Go.IntKind.i64 (1))), (.sc (.bool true)), (.sc (.bool true)), (.sc (.int Go.IntKind.i64 (2))), (.sc (.slice none 0 0))]
def k44 : Abs.AVal := .data 12 true [k40, k43]
def k45 : Abs.AVal := .agg [(.sc (.int Go.IntKind.i64 (6))), (.sc (.int Go.IntKind.i64 (0))), (.sc (.int Go.IntKind.i64 (0))), (.sc (.int Go.IntKind.i64 (0))), (.sc (.string ⟨#[]⟩)), (.sc (.int Go.IntKind.i64 (0))), (.sc (.slice none 0 0)), (.sc (.int Go.IntKind.i64 (0))), (.sc (.bool false)), (.sc (.bool false)), (.sc (.int Go.IntKind.i64 (0))), k44]
def m45 : Abs.Mem :=
  ⟨23, [k11, k45], [(.ret (.sc (.bool true)))]⟩
noncomputable def F45 : Abs.FTab := F44.memo [m45]
def k46 : Abs.AVal := .data 4 false [(.agg [(.sc (.int Go.IntKind.i64 (1))), (.sc (.bool true)), (.sc (.bool true)), (.sc (.int Go.IntKind.i64 (2)))])]
def m46 : Abs.Mem :=
  ⟨69, [k11, (.agg [(.data 1 false [(.sc (.int Go.IntKind.i64 (0)))]), (.sc (.slice none 0 0))]), k46], [(.ret (.tuple [(.data 1 false [(.sc (.int Go.IntKind.i64 (2)))]), (.sc (.int Go.IntKind.i64 (0)))]))]⟩
noncomputable def F46 : Abs.FTab := F45.memo [m46]
def k47 : Abs.AVal := .agg [(.sc (.int Go.IntKind.i64 (2))), (.sc (.bool false)), k46, (.sc (.int Go.IntKind.i64 (10)))]
def m47 : Abs.Mem :=
  ⟨30, [k11, k47, k21], [(.ret (.tuple [k22, (.sc (.int Go.IntKind.i64 (0)))]))]⟩
noncomputable def F47 : Abs.FTab := F46.memo [m47]
def m48 : Abs.Mem :=
  ⟨30, [k11, k47, k27], [(.ret (.tuple [k27, (.sc (.int Go.IntKind.i64 (0)))]))]⟩
noncomputable def F48 : Abs.FTab := F47.memo [m48]
def m49 : Abs.Mem :=
  ⟨30, [k11, k47, k31], [(.ret (.tuple [k31, (.sc (.int Go.IntKind.i64 (0)))]))]⟩
noncomputable def F49 : Abs.FTab := F48.memo [m49]
def m50 : Abs.Mem :=
  ⟨34, [(.iptr [k35, k36, (.sc (.bool false))]), k47, k31], [(.ret (.tuple [(.sc (.int Go.IntKind.i64 (2))), (.sc (.bool true))]))]⟩
noncomputable def F50 : Abs.FTab := F49.memoT [m50]
def m51 : Abs.Mem :=
  ⟨12, [k11, k47], [(.ret (.tuple [k38, (.sc (.int Go.IntKind.i64 (0)))]))]⟩
noncomputable def F51 : Abs.FTab := F50.memo [m51]
def m52 : Abs.Mem :=
  ⟨19, [k11, k45, k22], [(.ret (.tuple [(.sc (.slice none 0 0)), (.sc (.int Go.IntKind.i64 (0)))]))]⟩
noncomputable def F52 : Abs.FTab := F51.memo [m52]
def m53 : Abs.Mem :=
  ⟨19, [k11, k45, k27], [(.ret (.tuple [(.sc (.slice none 0 0)), (.sc (.int Go.IntKind.i64 (0)))]))]⟩
noncomputable def F53 : Abs.FTab := F52.memo [m53]
def m54 : Abs.Mem :=
  ⟨19, [k11, k45, k31], [(.ret (.tuple [(.sc (.slice none 0 0)), (.sc (.int Go.IntKind.i64 (0)))]))]⟩
noncomputable def F54 : Abs.FTab := F53.memo [m54]
def m55 : Abs.Mem :=
  ⟨6, [k11, (.agg [(.sc (.int Go.IntKind.i64 (1))), (.sc (.bool false)), (.sc (.int Go.IntKind.i64 (6))), (.sc (.int Go.IntKind.i64 (0))), (.sc (.int Go.IntKind.i64 (0))), (.sc (.int Go.IntKind.i64 (0))), (.sc (.string ⟨#[]⟩)), (.sc (.int Go.IntKind.i64 (0))), (.sc (.slice none 0 0)), (.sc (.int Go.IntKind.i64 (0))), (.sc (.bool false)), (.sc (.bool false)), (.sc (.int Go.IntKind.i64 (0))), k44, (.sc (.int Go.IntKind.i64 (0))), (.sc (.int Go.IntKind.i64 (0))), (.sc (.int Go.IntKind.i64 (0))), (.sc (.int Go.IntKind.i64 (0))), (.sc (.string ⟨#[]⟩)), (.sc (.int Go.IntKind.i64 (0))), (.sc (.slice none 0 0)), (.sc (.int Go.IntKind.i64 (0))), (.sc (.bool false)), (.sc (.bool false)), (.sc (.int Go.IntKind.i64 (0))), (.sc (.slice none 0 0))]), (.sc (.int Go.IntKind.i64 (10)))], [(.ret (.tuple [(.sc (.int Go.IntKind.i64 (2))), (.sc (.int Go.IntKind.i64 (0)))]))]⟩
noncomputable def F55 : Abs.FTab := F54.memo [m55]
def k48 : Abs.AVal := .agg [(.sc (.int Go.IntKind.i64 (3))), (.sc (.bool false)), (.sc (.int Go.IntKind.i64 (1))), (.sc (.int Go.IntKind.i64 (0))), (.sc (.int Go.IntKind.i64 (1))), (.sc (.int Go.IntKind.i64 (0))), (.sc (.string ⟨#[]⟩)), (.sc (.int Go.IntKind.i64 (0))), (.sc (.slice none 0 0)), (.sc (.int Go.IntKind.i64 (0))), (.sc (.bool false)), (.sc (.bool false)), (.sc (.int Go.IntKind.i64 (0))), (.sc (.slice none 0 0)), (.sc (.int Go.IntKind.i64 (0))), (.sc (.int Go.IntKind.i64 (0))), (.sc (.int Go.IntKind.i64 (0))), (.sc (.int Go.IntKind.i64 (0))), (.sc (.string ⟨#[]⟩)), (.sc (.int Go.IntKind.i64 (0))), (.sc (.slice none 0 0)), (.sc (.int Go.IntKind.i64 (0))), (.sc (.bool false)), (.sc (.bool false)), (.sc (.int Go.IntKind.i64 (0))), (.sc (.slice none 0 0))]
def m56 : Abs.Mem :=
  ⟨9, [k11, k48], [(.ret (.sc (.int Go.IntKind.i64 (0))))]⟩
noncomputable def F56 : Abs.FTab := F55.memo [m56]
def k49 : Abs.AVal := .data 1 false [(.data 1 false [(.sc (.int Go.IntKind.i64 (1)))]), (.data 1 false [(.sc (.int Go.IntKind.i64 (2)))]), (.data 1 false [(.sc (.int Go.IntKind.i64 (2)))])]
def k50 : Abs.AVal := .data 1 false [(.data 1 false [(.sc (.bool false))]), (.data 1 false [(.sc (.bool false))]), (.data 1 false [(.sc (.bool false))])]
def m57 : Abs.Mem :=
  ⟨85, [(.iptr [(.sc (.int Go.IntKind.i64 (1))), (.sc (.slice none 0 0)), (.sc (.slice none 0 0)), (.sc (.slice none 0 0)), k10, (.sc (.int Go.IntKind.i64 (3))), (.sc (.bool false)), (.sc (.int Go.IntKind.i64 (1))), (.sc (.int Go.IntKind.i64 (0))), (.sc (.int Go.IntKind.i64 (1))), (.sc (.int Go.IntKind.i64 (0))), (.sc (.string ⟨#[]⟩)), (.sc (.int Go.IntKind.i64 (0))), (.sc (.slice none 0 0)), (.sc (.int Go.IntKind.i64 (0))), (.sc (.bool false)), (.sc (.bool false)), (.sc (.int Go.IntKind.i64 (0))), (.sc (.slice none 0 0)), (.sc (.int Go.IntKind.i64 (0))), (.sc (.int Go.IntKind.i64 (0))), (.sc (.int Go.IntKind.i64 (0))), (.sc (.int Go.IntKind.i64 (0))), (.sc (.string ⟨#[]⟩)), (.sc (.int Go.IntKind.i64 (0))), (.sc (.slice none 0 0)), (.sc (.int Go.IntKind.i64 (0))), (.sc (.bool false)), (.sc (.bool false)), (.sc (.int Go.IntKind.i64 (0))), (.sc (.slice none 0 0)), k35, k37, (.sc (.bool true)), k49, k50]), (.data 1 false [(.sc (.bool false)), (.sc (.bool true)), (.sc (.bool true))])], [(.ret (.data 1 false [(.sc (.int Go.IntKind.i64 (0))), (.sc (.int Go.IntKind.i64 (2))), (.sc (.int Go.IntKind.i64 (1)))]))]⟩
noncomputable def F57 : Abs.FTab := F56.memoT [m57]
def m58 : Abs.Mem :=
  ⟨147, [k11, (.agg [(.data 1 false [(.sc (.int Go.IntKind.i64 (1)))]), (.data 1 true [])])], [(.ret (.tuple [(.sc (.bool true)), (.sc (.int Go.IntKind.i64 (0)))]))]⟩
noncomputable def F58 : Abs.FTab := F57.memo [m58]
def m59 : Abs.Mem :=
  ⟨6, [k11, k48, (.sc (.int Go.IntKind.i64 (10)))], [(.ret (.tuple [(.sc (.int Go.IntKind.i64 (2))), (.sc (.int Go.IntKind.i64 (0)))]))]⟩
noncomputable def F59 : Abs.FTab := F58.memo [m59]
def m60 : Abs.Mem :=
  ⟨166, [(.sc (.int Go.IntKind.i64 (12)))], [(.ret (.tuple [(.sc (.string ⟨#[61, 61]⟩)), (.sc (.int Go.IntKind.i64 (3)))]))]⟩
noncomputable def F60 : Abs.FTab := F59.memo [m60]
def k51 : Abs.AVal := .agg [(.sc (.int Go.IntKind.i64 (1))), (.sc (.string ⟨#[]⟩)), (.sc (.int Go.IntKind.i64 (1))), (.sc (.slice none 0 0))]
def k52 : Abs.AVal := .data 4 true [k51, k51]
def k53 : Abs.AVal := .agg [(.sc (.int Go.IntKind.i64 (12))), (.sc (.string ⟨#[]⟩)), (.sc (.int Go.IntKind.i64 (0))), k52]
def m61 : Abs.Mem :=
  ⟨63, [k53], [(.ret (.sc (.int Go.IntKind.i64 (0))))]⟩
noncomputable def F61 : Abs.FTab := F60.memo [m61]
def k54 : Abs.AVal := .agg [(.sc (.int Go.IntKind.i64 (3))), (.sc (.bool true)), (.sc (.int Go.IntKind.i64 (2))), (.sc (.int Go.IntKind.i64 (0))), (.sc (.int Go.IntKind.i64 (0))), (.sc (.int Go.IntKind.i64 (12))), (.sc (.string ⟨#[]⟩)), (.sc (.int Go.IntKind.i64 (0))), k52, (.sc (.int Go.IntKind.i64 (0))), (.sc (.bool false)), (.sc (.bool false)), (.sc (.int Go.IntKind.i64 (0))), (.sc (.slice none 0 0)), (.sc (.int Go.IntKind.i64 (0))), (.sc (.int Go.IntKind.i64 (0))), (.sc (.int Go.IntKind.i64 (0))), (.sc (.int Go.IntKind.i64 (0))), (.sc (.string ⟨#[]⟩)), (.sc (.int Go.IntKind.i64 (0))), (.sc (.slice none 0 0)), (.sc (.int Go.IntKind.i64 (0))), (.sc (.bool false)), (.sc (.bool false)), (.sc (.int Go.IntKind.i64 (0))), (.sc (.slice none 0 0))]
def m62 : Abs.Mem :=
  ⟨9, [k11, k54], [(.ret (.sc (.int Go.IntKind.i64 (0))))]⟩
noncomputable def F62 : Abs.FTab := F61.memo [m62]
def k55 : Abs.AVal := .data 3 false [k2, (.agg [(.sc (.int Go.IntKind.i64 (0))), (.data 4 false []), (.sc (.int Go.IntKind.i64 (0)))])]
def k56 : Abs.AVal := .agg [(.sc (.int Go.IntKind.i64 (1))), (.sc (.int Go.IntKind.i64 (1))), k6, (.sc (.int Go.IntKind.i64 (0))), (.sc (.string ⟨#[]⟩)), (.sc (.int Go.IntKind.i64 (0))), (.sc (.slice none 0 0)), (.sc (.int Go.IntKind.i64 (-1))), (.sc (.bool false)), (.sc (.slice none 0 0)), (.data 2 true []), (.sc (.int Go.IntKind.i64 (0))), (.sc (.int Go.IntKind.i64 (0)))]
def k57 : Abs.AVal := .data 13 false [k5, k56]
def k58 : Abs.AVal := .agg [(.sc (.int Go.IntKind.i64 (0))), k55, k57]
def k59 : Abs.AVal := .data 4 false [(.agg [(.sc (.int Go.IntKind.i64 (2))), (.sc (.bool true)), (.sc (.bool false)), (.sc (.int Go.IntKind.i64 (1)))])]
def k60 : Abs.AVal := .agg [(.sc (.int Go.IntKind.i64 (0))), (.sc (.int Go.IntKind.i64 (0))), k59, (.sc (.int Go.IntKind.i64 (0))), (.sc (.string ⟨#[]⟩)), (.sc (.int Go.IntKind.i64 (0))), (.sc (.slice none 0 0)), (.sc (.int Go.IntKind.i64 (-1))), (.sc (.bool false)), (.sc (.slice none 0 0)), (.data 2 false [(.agg [(.sc (.int Go.IntKind.i64 (2))), (.sc (.int Go.IntKind.i64 (0)))])]), (.sc (.int Go.IntKind.i64 (0))), (.sc (.int Go.IntKind.i64 (0)))]
def k61 : Abs.AVal := .data 13 false [k60]
def k62 : Abs.AVal := .agg [(.sc (.int Go.IntKind.i64 (0))), (.data 3 false [(.agg [(.sc (.int Go.IntKind.i64 (0))), (.sc (.slice none 0 0)), (.sc (.int Go.IntKind.i64 (0)))])]), k61]
def k63 : Abs.AVal := .data 3 false [k58, k62]
def k64 : Abs.AVal := .agg [(.sc (.int Go.IntKind.i64 (2))), (.data 4 true []), (.data 3 true []), (.sc (.slice none 0 0)), k63]
def m63 : Abs.Mem :=
  ⟨21, [k64], [(.ret (.sc (.int Go.IntKind.i64 (0))))]⟩
noncomputable def F63 : Abs.FTab := F62.memo [m63]
def m64 : Abs.Mem :=
  ⟨127, [k58, (.sc (.int Go.IntKind.i64 (2)))], [(.ret (.tuple [(.data 1 false [(.data 1 false [(.sc (.int Go.IntKind.i64 (1))), (.sc (.int Go.IntKind.i64 (-1)))]), (.data 1 false [(.sc (.int Go.IntKind.i64 (3))), (.sc (.int Go.IntKind.i64 (-1)))])]), (.data 1 false [(.data 1 false [(.sc (.int Go.IntKind.i64 (2))), (.sc (.int Go.IntKind.i64 (-1)))]), (.data 1 false [(.sc (.int Go.IntKind.i64 (-1))), (.sc (.int Go.IntKind.i64 (-1)))])])]))]⟩
noncomputable def F64 : Abs.FTab := F63.memo [m64]
def m65 : Abs.Mem :=
  ⟨127, [k62, (.sc (.int Go.IntKind.i64 (2)))], [(.ret (.tuple [(.data 1 false [(.data 1 false [(.sc (.int Go.IntKind.i64 (-1))), (.sc (.int Go.IntKind.i64 (1)))])]), (.data 1 false [(.data 1 false [(.sc (.int Go.IntKind.i64 (-1))), (.sc (.int Go.IntKind.i64 (-1)))])])]))]⟩
noncomputable def F65 : Abs.FTab := F64.memo [m65]
def m66 : Abs.Mem :=
  ⟨69, [k64, (.agg [(.data 1 false [(.sc (.int Go.IntKind.i64 (0))), (.sc (.int Go.IntKind.i64 (0)))]), (.sc (.slice none 0 0))]), (.sc (.slice none 0 0))], [(.ret (.tuple [(.data 1 false [(.sc (.int Go.IntKind.i64 (2))), (.sc (.int Go.IntKind.i64 (1)))]), (.sc (.int Go.IntKind.i64 (0)))]))]⟩
noncomputable def F66 : Abs.FTab := F65.memo [m66]
def k65 : Abs.AVal := .data 1 false [(.sc (.int Go.IntKind.i64 (1))), (.sc (.int Go.IntKind.i64 (1))), (.sc (.int Go.IntKind.i64 (1))), (.sc (.int Go.IntKind.i64 (1))), (.sc (.int Go.IntKind.i64 (1))), (.sc (.int Go.IntKind.i64 (1))), (.sc (.int Go.IntKind.i64 (1))), (.sc (.int Go.IntKind.i64 (1))), (.sc (.int Go.IntKind.i64 (1)))]
def k66 : Abs.AVal := .agg [(.sc (.int Go.IntKind.i64 (2))), k65]
def m67 : Abs.Mem :=
  ⟨122, [(.sc (.int Go.IntKind.i64 (2))), (.sc (.int Go.IntKind.i64 (1)))], [(.ret (.tuple [k66, (.sc (.int Go.IntKind.i64 (0)))]))]⟩
noncomputable def F67 : Abs.FTab := F66.memo [m67]
def m68 : Abs.Mem :=
  ⟨148, [(.iptr [(.sc (.int Go.IntKind.i64 (2))), (.data 4 true []), (.data 3 true []), (.sc (.slice none 0 0)), k63, (.sc (.slice none 0 0))]), (.agg [(.data 1 false [(.sc (.int Go.IntKind.i64 (0))), (.sc (.int Go.IntKind.i64 (0)))]), (.sc (.slice none 0 0))])], [(.ret (.sc (.bool false)))]⟩
noncomputable def F68 : Abs.FTab := F67.memo [m68]
def m69 : Abs.Mem :=
  ⟨128, [k66], [(.ret (.sc (.int Go.IntKind.i64 (0))))]⟩
noncomputable def F69 : Abs.FTab := F68.memo [m69]
def k67 : Abs.AVal := .data 1 false [(.sc (.int Go.IntKind.i64 (1))), (.sc (.int Go.IntKind.i64 (1))), (.sc (.int Go.IntKind.i64 (1))), (.sc (.int Go.IntKind.i64 (1099511627776))), (.sc (.int Go.IntKind.i64 (1))), (.sc (.int Go.IntKind.i64 (1))), (.sc (.int Go.IntKind.i64 (1099511627776))), (.sc (.int Go.IntKind.i64 (1))), (.sc (.int Go.IntKind.i64 (1)))]
def k68 : Abs.AVal := .agg [(.sc (.int Go.IntKind.i64 (2))), k67]
def m70 : Abs.Mem :=
  ⟨139, [k66, (.sc (.bool true)), (.func (.func 175) [] [])], [(.ret (.tuple [k68, (.sc (.int Go.IntKind.i64 (0)))]))]⟩
noncomputable def F70 : Abs.FTab := F69.memo [m70]
def m71 : Abs.Mem :=
  ⟨128, [k68], [(.ret (.sc (.int Go.IntKind.i64 (0))))]⟩
noncomputable def F71 : Abs.FTab := F70.memo [m71]
def k69 : Abs.AVal := .data 1 false [(.sc (.int Go.IntKind.i64 (1))), (.sc (.int Go.IntKind.i64 (1))), (.sc (.int Go.IntKind.i64 (1))), (.sc (.int Go.IntKind.i64 (5))), (.sc (.int Go.IntKind.i64 (1))), (.sc (.int Go.IntKind.i64 (1))), (.sc (.int Go.IntKind.i64 (5))), (.sc (.int Go.IntKind.i64 (1))), (.sc (.int Go.IntKind.i64 (1)))]
def k70 : Abs.AVal := .agg [(.sc (.int Go.IntKind.i64 (2))), k69]
def m72 : Abs.Mem :=
  ⟨77, [k68, k17], [(.ret (.tuple [k70, (.sc (.int Go.IntKind.i64 (0)))]))]⟩
noncomputable def F72 : Abs.FTab := F71.memo [m72]
def m73 : Abs.Mem :=
  ⟨123, [k66, (.iptr [(.sc (.int Go.IntKind.i64 (2))), (.data 4 true []), (.data 3 true []), (.sc (.slice none 0 0)), k63]), (.iptr [(.data 1 false [(.sc (.int Go.IntKind.i64 (0))), (.sc (.int Go.IntKind.i64 (0)))]), (.sc (.slice none 0 0))])], [(.ret (.tuple [k70, (.sc (.int Go.IntKind.i64 (0)))]))]⟩
noncomputable def F73 : Abs.FTab := F72.memo [m73]
def m74 : Abs.Mem :=
  ⟨128, [k70], [(.ret (.sc (.int Go.IntKind.i64 (0))))]⟩
noncomputable def F74 : Abs.FTab := F73.memo [m74]
def k71 : Abs.AVal := .agg [(.sc (.int Go.IntKind.i64 (2))), (.sc (.bool false)), (.sc (.slice none 0 0)), (.sc (.int Go.IntKind.i64 (400)))]
def k72 : Abs.AVal := .agg [(.data 1 false [(.sc (.int Go.IntKind.i64 (0))), (.sc (.int Go.IntKind.i64 (0)))]), (.data 1 true []), (.sc (.int Go.IntKind.i64 (2))), k69]
def m75 : Abs.Mem :=
  ⟨30, [k64, k71, (.agg [(.data 1 false [(.sc (.int Go.IntKind.i64 (0))), (.sc (.int Go.IntKind.i64 (0)))]), (.sc (.slice none 0 0)), (.sc (.int Go.IntKind.i64 (2))), k69])], [(.ret (.tuple [k72, (.sc (.int Go.IntKind.i64 (0)))]))]⟩
noncomputable def F75 : Abs.FTab := F74.memo [m75]
def m76 : Abs.Mem :=
  ⟨141, [(.iptr [(.sc (.int Go.IntKind.i64 (2))), (.data 4 true []), (.data 3 true []), (.sc (.slice none 0 0)), k63, (.sc (.slice none 0 0))]), (.agg [(.data 1 false [(.sc (.int Go.IntKind.i64 (0))), (.sc (.int Go.IntKind.i64 (0)))]), (.data 1 true [])])], [(.ret (.tuple [(.data 7 false [(.agg [(.data 2 false [(.agg [(.sc (.int Go.IntKind.i64 (0))), (.sc (.int Go.IntKind.i64 (0)))])]), (.data 1 false [(.sc (.int Go.IntKind.i64 (1))), (.sc (.int Go.IntKind.i64 (0)))]), (.data 1 false []), k4, (.data 2 false [(.agg [(.sc (.int Go.IntKind.i64 (1))), (.sc (.int Go.IntKind.i64 (0)))])]), (.sc (.int Go.IntKind.i64 (0))), (.sc (.int Go.IntKind.i64 (0)))]), (.agg [(.data 2 false [(.agg [(.sc (.int Go.IntKind.i64 (1))), (.sc (.int Go.IntKind.i64 (0)))])]), (.data 1 false [(.sc (.int Go.IntKind.i64 (0))), (.sc (.int Go.IntKind.i64 (0)))]), (.data 1 false []), k59, (.data 2 false [(.agg [(.sc (.int Go.IntKind.i64 (2))), (.sc (.int Go.IntKind.i64 (0)))])]), (.sc (.int Go.IntKind.i64 (0))), (.sc (.int Go.IntKind.i64 (0)))])]), (.sc (.int Go.IntKind.i64 (0)))]))]⟩
noncomputable def F76 : Abs.FTab := F75.memo [m76]
def m77 : Abs.Mem :=
  ⟨77, [k70, k17], [(.ret (.tuple [k70, (.sc (.int Go.IntKind.i64 (0)))]))]⟩
noncomputable def F77 : Abs.FTab := F76.memo [m77]
def m78 : Abs.Mem :=
  ⟨41, [k64, k72], [(.ret (.sc (.int Go.IntKind.i64 (0))))]⟩
noncomputable def F78 : Abs.FTab := F77.memo [m78]
def k73 : Abs.AVal := .data 1 false [(.sc (.int Go.IntKind.i64 (1))), (.sc (.int Go.IntKind.i64 (-1))), (.sc (.int Go.IntKind.i64 (-1))), (.sc (.int Go.IntKind.i64 (5))), (.sc (.int Go.IntKind.i64 (1))), (.sc (.int Go.IntKind.i64 (1))), (.sc (.int Go.IntKind.i64 (5))), (.sc (.int Go.IntKind.i64 (1))), (.sc (.int Go.IntKind.i64 (1)))]
def k74 : Abs.AVal := .agg [(.sc (.int Go.IntKind.i64 (2))), k73]
def m79 : Abs.Mem :=
  ⟨77, [k70, k24], [(.ret (.tuple [k74, (.sc (.int Go.IntKind.i64 (0)))]))]⟩
noncomputable def F79 : Abs.FTab := F78.memo [m79]
def m80 : Abs.Mem :=
  ⟨128, [k74], [(.ret (.sc (.int Go.IntKind.i64 (0))))]⟩
noncomputable def F80 : Abs.FTab := F79.memo [m80]
def k75 : Abs.AVal := .data 1 false [(.sc (.int Go.IntKind.i64 (1))), (.sc (.int Go.IntKind.i64 (1))), (.sc (.int Go.IntKind.i64 (-1))), (.sc (.int Go.IntKind.i64 (1))), (.sc (.int Go.IntKind.i64 (1))), (.sc (.int Go.IntKind.i64 (-1))), (.sc (.int Go.IntKind.i64 (5))), (.sc (.int Go.IntKind.i64 (5))), (.sc (.int Go.IntKind.i64 (1)))]
def k76 : Abs.AVal := .agg [(.sc (.int Go.IntKind.i64 (2))), k75]
def m81 : Abs.Mem :=
  ⟨190, [k74, (.sc (.int Go.IntKind.i64 (1))), (.sc (.int Go.IntKind.i64 (0)))], [(.ret (.tuple [k76, (.sc (.int Go.IntKind.i64 (0)))]))]⟩
noncomputable def F81 : Abs.FTab := F80.memo [m81]
def m82 : Abs.Mem :=
  ⟨128, [k76], [(.ret (.sc (.int Go.IntKind.i64 (0))))]⟩
noncomputable def F82 : Abs.FTab := F81.memo [m82]
def m83 : Abs.Mem :=
  ⟨77, [k76, (.sc (.slice none 0 0))], [(.ret (.tuple [k76, (.sc (.int Go.IntKind.i64 (0)))]))]⟩
noncomputable def F83 : Abs.FTab := F82.memo [m83]
def m84 : Abs.Mem :=
  ⟨148, [(.iptr [(.sc (.int Go.IntKind.i64 (2))), (.data 4 true []), (.data 3 true []), (.sc (.slice none 0 0)), k63, (.sc (.slice none 0 0))]), (.agg [(.data 1 false [(.sc (.int Go.IntKind.i64 (1))), (.sc (.int Go.IntKind.i64 (0)))]), (.data 1 false [])])], [(.ret (.sc (.bool false)))]⟩
noncomputable def F84 : Abs.FTab := F83.memo [m84]
def k77 : Abs.AVal := .data 1 false [(.sc (.int Go.IntKind.i64 (1))), (.sc (.int Go.IntKind.i64 (1))), (.sc (.int Go.IntKind.i64 (-1))), (.sc (.int Go.IntKind.i64 (1099511627776))), (.sc (.int Go.IntKind.i64 (1))), (.sc (.int Go.IntKind.i64 (-1))), (.sc (.int Go.IntKind.i64 (1099511627776))), (.sc (.int Go.IntKind.i64 (5))), (.sc (.int Go.IntKind.i64 (1)))]
def k78 : Abs.AVal := .agg [(.sc (.int Go.IntKind.i64 (2))), k77]
def m85 : Abs.Mem :=
  ⟨139, [k76, (.sc (.bool true)), (.func (.func 175) [] [])], [(.ret (.tuple [k78, (.sc (.int Go.IntKind.i64 (0)))]))]⟩
noncomputable def F85 : Abs.FTab := F84.memo [m85]
def m86 : Abs.Mem :=
  ⟨128, [k78], [(.ret (.sc (.int Go.IntKind.i64 (0))))]⟩
noncomputable def F86 : Abs.FTab := F85.memo [m86]
def m87 : Abs.Mem :=
  ⟨77, [k78, (.sc (.slice none 0 0))], [(.ret (.tuple [k78, (.sc (.int Go.IntKind.i64 (0)))]))]⟩
noncomputable def F87 : Abs.FTab := F86.memo [m87]
def m88 : Abs.Mem :=
  ⟨123, [k76, (.iptr [(.sc (.int Go.IntKind.i64 (2))), (.data 4 true []), (.data 3 true []), (.sc (.slice none 0 0)), k63]), (.iptr [(.data 1 false [(.sc (.int Go.IntKind.i64 (1))), (.sc (.int Go.IntKind.i64 (0)))]), (.data 1 false [])])], [(.ret (.tuple [k78, (.sc (.int Go.IntKind.i64 (0)))]))]⟩
noncomputable def F88 : Abs.FTab := F87.memo [m88]
def k79 : Abs.AVal := .agg [(.data 1 false [(.sc (.int Go.IntKind.i64 (1))), (.sc (.int Go.IntKind.i64 (0)))]), (.data 1 true []), (.sc (.int Go.IntKind.i64 (2))), k77]
def m89 : Abs.Mem :=
  ⟨80, [k64, k72, (.sc (.int Go.IntKind.i64 (0)))], [(.ret (.tuple [k79, (.sc (.bool true)), (.sc (.int Go.IntKind.i64 (0)))]))]⟩
noncomputable def F89 : Abs.FTab := F88.memo [m89]
def k80 : Abs.AVal := .data 1 false [(.sc (.int Go.IntKind.i64 (1))), (.sc (.int Go.IntKind.i64 (1))), (.sc (.int Go.IntKind.i64 (-1))), (.sc (.int Go.IntKind.i64 (1099511627776))), (.sc (.int Go.IntKind.i64 (1))), (.sc (.int Go.IntKind.i64 (-1))), (.sc (.int Go.IntKind.i64 (1099511627776))), (.sc (.int Go.IntKind.i64 (1099511627776))), (.sc (.int Go.IntKind.i64 (1)))]
def k81 : Abs.AVal := .agg [(.data 1 false [(.sc (.int Go.IntKind.i64 (1))), (.sc (.int Go.IntKind.i64 (0)))]), (.data 1 true []), (.sc (.int Go.IntKind.i64 (2))), k80]
def m90 : Abs.Mem :=
  ⟨30, [k64, k71, k79], [(.ret (.tuple [k81, (.sc (.int Go.IntKind.i64 (0)))]))]⟩
noncomputable def F90 : Abs.FTab := F89.memo [m90]
def k82 : Abs.AVal := .agg [(.sc (.int Go.IntKind.i64 (2))), k80]
def m91 : Abs.Mem :=
  ⟨128, [k82], [(.ret (.sc (.int Go.IntKind.i64 (0))))]⟩
noncomputable def F91 : Abs.FTab := F90.memo [m91]
def m92 : Abs.Mem :=
  ⟨77, [k82, (.sc (.slice none 0 0))], [(.ret (.tuple [k82, (.sc (.int Go.IntKind.i64 (0)))]))]⟩
noncomputable def F92 : Abs.FTab := F91.memo [m92]
def m93 : Abs.Mem :=
  ⟨41, [k64, k81], [(.ret (.sc (.int Go.IntKind.i64 (0))))]⟩
noncomputable def F93 : Abs.FTab := F92.memo [m93]
def k83 : Abs.AVal := .data 3 false [(.agg [(.sc (.int Go.IntKind.i64 (0))), (.sc (.int Go.IntKind.i64 (2))), (.sc (.int Go.IntKind.i64 (-1)))])]
def m94 : Abs.Mem :=
  ⟨77, [k70, k83], [(.ret (.tuple [k74, (.sc (.int Go.IntKind.i64 (0)))]))]⟩
noncomputable def F94 : Abs.FTab := F93.memo [m94]
def k84 : Abs.AVal := .data 1 false [(.sc (.int Go.IntKind.i64 (1))), (.sc (.int Go.IntKind.i64 (-1))), (.sc (.int Go.IntKind.i64 (1))), (.sc (.int Go.IntKind.i64 (5))), (.sc (.int Go.IntKind.i64 (1))), (.sc (.int Go.IntKind.i64 (5))), (.sc (.int Go.IntKind.i64 (1))), (.sc (.int Go.IntKind.i64 (-1))), (.sc (.int Go.IntKind.i64 (1)))]
def k85 : Abs.AVal := .agg [(.sc (.int Go.IntKind.i64 (2))), k84]
def m95 : Abs.Mem :=
  ⟨190, [k74, (.sc (.int Go.IntKind.i64 (2))), (.sc (.int Go.IntKind.i64 (0)))], [(.ret (.tuple [k85, (.sc (.int Go.IntKind.i64 (0)))]))]⟩
noncomputable def F95 : Abs.FTab := F94.memo [m95]
def m96 : Abs.Mem :=
  ⟨128, [k85], [(.ret (.sc (.int Go.IntKind.i64 (0))))]⟩
noncomputable def F96 : Abs.FTab := F95.memo [m96]
def m97 : Abs.Mem :=
  ⟨77, [k85, k17], [(.ret (.tuple [k85, (.sc (.int Go.IntKind.i64 (0)))]))]⟩
noncomputable def F97 : Abs.FTab := F96.memo [m97]
def m98 : Abs.Mem :=
  ⟨148, [(.iptr [(.sc (.int Go.IntKind.i64 (2))), (.data 4 true []), (.data 3 true []), (.sc (.slice none 0 0)), k63, (.sc (.slice none 0 0))]), (.agg [(.data 1 false [(.sc (.int Go.IntKind.i64 (0))), (.sc (.int Go.IntKind.i64 (0)))]), (.data 1 false [])])], [(.ret (.sc (.bool false)))]⟩
noncomputable def F98 : Abs.FTab := F97.memo [m98]
def k86 : Abs.AVal := .data 1 false [(.sc (.int Go.IntKind.i64 (1))), (.sc (.int Go.IntKind.i64 (-1))), (.sc (.int Go.IntKind.i64 (1))), (.sc (.int Go.IntKind.i64 (1099511627776))), (.sc (.int Go.IntKind.i64 (1))), (.sc (.int Go.IntKind.i64 (5))), (.sc (.int Go.IntKind.i64 (1099511627776))), (.sc (.int Go.IntKind.i64 (-1))), (.sc (.int Go.IntKind.i64 (1)))]
def k87 : Abs.AVal := .agg [(.sc (.int Go.IntKind.i64 (2))), k86]
def m99 : Abs.Mem :=
  ⟨139, [k85, (.sc (.bool true)), (.func (.func 175) [] [])], [(.ret (.tuple [k87, (.sc (.int Go.IntKind.i64 (0)))]))]⟩
noncomputable def F99 : Abs.FTab := F98.memo [m99]
def m100 : Abs.Mem :=
  ⟨128, [k87], [(.ret (.sc (.int Go.IntKind.i64 (0))))]⟩
noncomputable def F100 : Abs.FTab := F99.memo [m100]
def k88 : Abs.AVal := .data 1 false [(.sc (.int Go.IntKind.i64 (1))), (.sc (.int Go.IntKind.i64 (-1))), (.sc (.int Go.IntKind.i64 (1))), (.sc (.int Go.IntKind.i64 (5))), (.sc (.int Go.IntKind.i64 (1))), (.sc (.int Go.IntKind.i64 (5))), (.sc (.int Go.IntKind.i64 (3))), (.sc (.int Go.IntKind.i64 (-1))), (.sc (.int Go.IntKind.i64 (1)))]
def k89 : Abs.AVal := .agg [(.sc (.int Go.IntKind.i64 (2))), k88]
def m101 : Abs.Mem :=
  ⟨77, [k87, k17], [(.ret (.tuple [k89, (.sc (.int Go.IntKind.i64 (0)))]))]⟩
noncomputable def F101 : Abs.FTab := F100.memo [m101]
def m102 : Abs.Mem :=
  ⟨123, [k85, (.iptr [(.sc (.int Go.IntKind.i64 (2))), (.data 4 true []), (.data 3 true []), (.sc (.slice none 0 0)), k63]), (.iptr [(.data 1 false [(.sc (.int Go.IntKind.i64 (0))), (.sc (.int Go.IntKind.i64 (0)))]), (.data 1 false [])])], [(.ret (.tuple [k89, (.sc (.int Go.IntKind.i64 (0)))]))]⟩
noncomputable def F102 : Abs.FTab := F101.memo [m102]
def k90 : Abs.AVal := .agg [(.data 1 false [(.sc (.int Go.IntKind.i64 (0))), (.sc (.int Go.IntKind.i64 (0)))]), (.data 1 true []), (.sc (.int Go.IntKind.i64 (2))), k88]
def m103 : Abs.Mem :=
  ⟨80, [k64, k72, (.sc (.int Go.IntKind.i64 (1)))], [(.ret (.tuple [k90, (.sc (.bool true)), (.sc (.int Go.IntKind.i64 (0)))]))]⟩
noncomputable def F103 : Abs.FTab := F102.memo [m103]
def m104 : Abs.Mem :=
  ⟨128, [k89], [(.ret (.sc (.int Go.IntKind.i64 (0))))]⟩
noncomputable def F104 : Abs.FTab := F103.memo [m104]
def m105 : Abs.Mem :=
  ⟨30, [k64, k71, k90], [(.ret (.tuple [k90, (.sc (.int Go.IntKind.i64 (0)))]))]⟩
noncomputable def F105 : Abs.FTab := F104.memo [m105]
def m106 : Abs.Mem :=
  ⟨77, [k89, k17], [(.ret (.tuple [k89, (.sc (.int Go.IntKind.i64 (0)))]))]⟩
noncomputable def F106 : Abs.FTab := F105.memo [m106]
def m107 : Abs.Mem :=
  ⟨41, [k64, k90], [(.ret (.sc (.int Go.IntKind.i64 (0))))]⟩
noncomputable def F107 : Abs.FTab := F106.memo [m107]
def m108 : Abs.Mem :=
  ⟨141, [(.iptr [(.sc (.int Go.IntKind.i64 (2))), (.data 4 true []), (.data 3 true []), (.sc (.slice none 0 0)), k63, (.sc (.slice none 0 0))]), (.agg [(.data 1 false [(.sc (.int Go.IntKind.i64 (1))), (.sc (.int Go.IntKind.i64 (0)))]), (.data 1 true [])])], [(.ret (.tuple [(.data 7 false [(.agg [(.data 2 false [(.agg [(.sc (.int Go.IntKind.i64 (0))), (.sc (.int Go.IntKind.i64 (1)))])]), (.data 1 false [(.sc (.int Go.IntKind.i64 (1))), (.sc (.int Go.IntKind.i64 (0)))]), (.data 1 false []), k6, (.sc (.slice none 0 0)), (.sc (.int Go.IntKind.i64 (0))), (.sc (.int Go.IntKind.i64 (0)))]), (.agg [(.data 2 false [(.agg [(.sc (.int Go.IntKind.i64 (1))), (.sc (.int Go.IntKind.i64 (0)))])]), (.data 1 false [(.sc (.int Go.IntKind.i64 (1))), (.sc (.int Go.IntKind.i64 (0)))]), (.data 1 false []), k59, (.data 2 false [(.agg [(.sc (.int Go.IntKind.i64 (2))), (.sc (.int Go.IntKind.i64 (0)))])]), (.sc (.int Go.IntKind.i64 (0))), (.sc (.int Go.IntKind.i64 (0)))])]), (.sc (.int Go.IntKind.i64 (0)))]))]⟩
noncomputable def F108 : Abs.FTab := F107.memo [m108]
def k91 : Abs.AVal := .data 1 false [(.sc (.int Go.IntKind.i64 (1))), (.sc (.int Go.IntKind.i64 (-6))), (.sc (.int Go.IntKind.i64 (-8))), (.sc (.int Go.IntKind.i64 (1099511627776))), (.sc (.int Go.IntKind.i64 (1))), (.sc (.int Go.IntKind.i64 (-1))), (.sc (.int Go.IntKind.i64 (1099511627776))), (.sc (.int Go.IntKind.i64 (1099511627776))), (.sc (.int Go.IntKind.i64 (1)))]
def k92 : Abs.AVal := .agg [(.sc (.int Go.IntKind.i64 (2))), k91]
def m109 : Abs.Mem :=
  ⟨77, [k82, k28], [(.ret (.tuple [k92, (.sc (.int Go.IntKind.i64 (0)))]))]⟩
noncomputable def F109 : Abs.FTab := F108.memo [m109]
def m110 : Abs.Mem :=
  ⟨128, [k92], [(.ret (.sc (.int Go.IntKind.i64 (0))))]⟩
noncomputable def F110 : Abs.FTab := F109.memo [m110]
def m111 : Abs.Mem :=
  ⟨77, [k92, (.sc (.slice none 0 0))], [(.ret (.tuple [k92, (.sc (.int Go.IntKind.i64 (0)))]))]⟩
noncomputable def F111 : Abs.FTab := F110.memo [m111]
def m112 : Abs.Mem :=
  ⟨139, [k92, (.sc (.bool true)), (.func (.func 175) [] [])], [(.ret (.tuple [k92, (.sc (.int Go.IntKind.i64 (0)))]))]⟩
noncomputable def F112 : Abs.FTab := F111.memo [m112]
def m113 : Abs.Mem :=
  ⟨123, [k92, (.iptr [(.sc (.int Go.IntKind.i64 (2))), (.data 4 true []), (.data 3 true []), (.sc (.slice none 0 0)), k63]), (.iptr [(.data 1 false [(.sc (.int Go.IntKind.i64 (1))), (.sc (.int Go.IntKind.i64 (0)))]), (.data 1 false [])])], [(.ret (.tuple [k92, (.sc (.int Go.IntKind.i64 (0)))]))]⟩
noncomputable def F113 : Abs.FTab := F112.memo [m113]
def k93 : Abs.AVal := .agg [(.data 1 false [(.sc (.int Go.IntKind.i64 (1))), (.sc (.int Go.IntKind.i64 (0)))]), (.data 1 true []), (.sc (.int Go.IntKind.i64 (2))), k91]
def m114 : Abs.Mem :=
  ⟨80, [k64, k81, (.sc (.int Go.IntKind.i64 (0)))], [(.ret (.tuple [k93, (.sc (.bool true)), (.sc (.int Go.IntKind.i64 (0)))]))]⟩
noncomputable def F114 : Abs.FTab := F113.memo [m114]
def m115 : Abs.Mem :=
  ⟨30, [k64, k71, k93], [(.ret (.tuple [k93, (.sc (.int Go.IntKind.i64 (0)))]))]⟩
noncomputable def F115 : Abs.FTab := F114.memo [m115]
def m116 : Abs.Mem :=
  ⟨41, [k64, k93], [(.ret (.sc (.int Go.IntKind.i64 (0))))]⟩
noncomputable def F116 : Abs.FTab := F115.memo [m116]
def m117 : Abs.Mem :=
  ⟨77, [k82, k83], [(.ret (.tuple [k82, (.sc (.int Go.IntKind.i64 (0)))]))]⟩
noncomputable def F117 : Abs.FTab := F116.memo [m117]
def k94 : Abs.AVal := .data 1 false [(.sc (.int Go.IntKind.i64 (1))), (.sc (.int Go.IntKind.i64 (1))), (.sc (.int Go.IntKind.i64 (1))), (.sc (.int Go.IntKind.i64 (1099511627776))), (.sc (.int Go.IntKind.i64 (1))), (.sc (.int Go.IntKind.i64 (1099511627776))), (.sc (.int Go.IntKind.i64 (1))), (.sc (.int Go.IntKind.i64 (1))), (.sc (.int Go.IntKind.i64 (1)))]
def k95 : Abs.AVal := .agg [(.sc (.int Go.IntKind.i64 (2))), k94]
def m118 : Abs.Mem :=
  ⟨190, [k82, (.sc (.int Go.IntKind.i64 (2))), (.sc (.int Go.IntKind.i64 (0)))], [(.ret (.tuple [k95, (.sc (.int Go.IntKind.i64 (0)))]))]⟩
noncomputable def F118 : Abs.FTab := F117.memo [m118]
def m119 : Abs.Mem :=
  ⟨128, [k95], [(.ret (.sc (.int Go.IntKind.i64 (0))))]⟩
noncomputable def F119 : Abs.FTab := F118.memo [m119]
def m120 : Abs.Mem :=
  ⟨77, [k95, (.sc (.slice none 0 0))], [(.ret (.tuple [k95, (.sc (.int Go.IntKind.i64 (0)))]))]⟩
noncomputable def F120 : Abs.FTab := F119.memo [m120]
def k96 : Abs.AVal := .data 1 false [(.sc (.int Go.IntKind.i64 (1))), (.sc (.int Go.IntKind.i64 (1))), (.sc (.int Go.IntKind.i64 (1))), (.sc (.int Go.IntKind.i64 (1099511627776))), (.sc (.int Go.IntKind.i64 (1))), (.sc (.int Go.IntKind.i64 (1099511627776))), (.sc (.int Go.IntKind.i64 (1099511627776))), (.sc (.int Go.IntKind.i64 (1))), (.sc (.int Go.IntKind.i64 (1)))]
def k97 : Abs.AVal := .agg [(.sc (.int Go.IntKind.i64 (2))), k96]
def m121 : Abs.Mem :=
  ⟨139, [k95, (.sc (.bool true)), (.func (.func 175) [] [])], [(.ret (.tuple [k97, (.sc (.int Go.IntKind.i64 (0)))]))]⟩
noncomputable def F121 : Abs.FTab := F120.memo [m121]
def m122 : Abs.Mem :=
  ⟨128, [k97], [(.ret (.sc (.int Go.IntKind.i64 (0))))]⟩
noncomputable def F122 : Abs.FTab := F121.memo [m122]
def m123 : Abs.Mem :=
  ⟨77, [k97, (.sc (.slice none 0 0))], [(.ret (.tuple [k97, (.sc (.int Go.IntKind.i64 (0)))]))]⟩
noncomputable def F123 : Abs.FTab := F122.memo [m123]
def m124 : Abs.Mem :=
  ⟨123, [k95, (.iptr [(.sc (.int Go.IntKind.i64 (2))), (.data 4 true []), (.data 3 true []), (.sc (.slice none 0 0)), k63]), (.iptr [(.data 1 false [(.sc (.int Go.IntKind.i64 (1))), (.sc (.int Go.IntKind.i64 (0)))]), (.data 1 false [])])], [(.ret (.tuple [k97, (.sc (.int Go.IntKind.i64 (0)))]))]⟩
noncomputable def F124 : Abs.FTab := F123.memo [m124]
def k98 : Abs.AVal := .agg [(.data 1 false [(.sc (.int Go.IntKind.i64 (1))), (.sc (.int Go.IntKind.i64 (0)))]), (.data 1 true []), (.sc (.int Go.IntKind.i64 (2))), k96]
def m125 : Abs.Mem :=
  ⟨80, [k64, k81, (.sc (.int Go.IntKind.i64 (1)))], [(.ret (.tuple [k98, (.sc (.bool true)), (.sc (.int Go.IntKind.i64 (0)))]))]⟩
noncomputable def F125 : Abs.FTab := F124.memo [m125]
def m126 : Abs.Mem :=
  ⟨30, [k64, k71, k98], [(.ret (.tuple [k98, (.sc (.int Go.IntKind.i64 (0)))]))]⟩
noncomputable def F126 : Abs.FTab := F125.memo [m126]
def m127 : Abs.Mem :=
  ⟨41, [k64, k98], [(.ret (.sc (.int Go.IntKind.i64 (0))))]⟩
noncomputable def F127 : Abs.FTab := F126.memo [m127]
def k99 : Abs.AVal := .agg [(.data 1 false [(.sc (.int Go.IntKind.i64 (0))), (.sc (.int Go.IntKind.i64 (0)))]), (.data 1 true []), (.sc (.int Go.IntKind.i64 (2))), k69, (.sc (.int Go.IntKind.i64 (-1))), (.sc (.int Go.IntKind.i64 (-1)))]
def k100 : Abs.AVal := .agg [(.data 1 false [(.sc (.int Go.IntKind.i64 (1))), (.sc (.int Go.IntKind.i64 (0)))]), (.data 1 true []), (.sc (.int Go.IntKind.i64 (2))), k80, (.sc (.int Go.IntKind.i64 (0))), (.sc (.int Go.IntKind.i64 (0)))]
def k101 : Abs.AVal := .agg [(.data 1 false [(.sc (.int Go.IntKind.i64 (0))), (.sc (.int Go.IntKind.i64 (0)))]), (.data 1 true []), (.sc (.int Go.IntKind.i64 (2))), k88, (.sc (.int Go.IntKind.i64 (0))), (.sc (.int Go.IntKind.i64 (1)))]
def k102 : Abs.AVal := .agg [(.data 1 false [(.sc (.int Go.IntKind.i64 (1))), (.sc (.int Go.IntKind.i64 (0)))]), (.data 1 true []), (.sc (.int Go.IntKind.i64 (2))), k91, (.sc (.int Go.IntKind.i64 (1))), (.sc (.int Go.IntKind.i64 (0)))]
def m128 : Abs.Mem :=
  ⟨34, [(.iptr [(.data 6 false [k99, k100, k101, k102]), (.data 3 false [(.agg [(.sc (.int Go.IntKind.i64 (0))), (.sc (.int Go.IntKind.i64 (0))), (.sc (.int Go.IntKind.i64 (1)))]), (.agg [(.sc (.int Go.IntKind.i64 (0))), (.sc (.int Go.IntKind.i64 (1))), (.sc (.int Go.IntKind.i64 (2)))]), (.agg [(.sc (.int Go.IntKind.i64 (1))), (.sc (.int Go.IntKind.i64 (0))), (.sc (.int Go.IntKind.i64 (3)))])]), (.sc (.bool false))]), k71, k98], [(.ret (.tuple [(.sc (.int Go.IntKind.i64 (0))), (.sc (.bool false))]))]⟩
noncomputable def F128 : Abs.FTab := F127.memoT [m128]
def m129 : Abs.Mem :=
  ⟨77, [k89, k24], [(.ret (.tuple [k89, (.sc (.int Go.IntKind.i64 (0)))]))]⟩
noncomputable def F129 : Abs.FTab := F128.memo [m129]
def k103 : Abs.AVal := .data 1 false [(.sc (.int Go.IntKind.i64 (1))), (.sc (.int Go.IntKind.i64 (1))), (.sc (.int Go.IntKind.i64 (1))), (.sc (.int Go.IntKind.i64 (1))), (.sc (.int Go.IntKind.i64 (1))), (.sc (.int Go.IntKind.i64 (1))), (.sc (.int Go.IntKind.i64 (3))), (.sc (.int Go.IntKind.i64 (3))), (.sc (.int Go.IntKind.i64 (1)))]
def k104 : Abs.AVal := .agg [(.sc (.int Go.IntKind.i64 (2))), k103]
def m130 : Abs.Mem :=
  ⟨190, [k89, (.sc (.int Go.IntKind.i64 (1))), (.sc (.int Go.IntKind.i64 (0)))], [(.ret (.tuple [k104, (.sc (.int Go.IntKind.i64 (0)))]))]⟩
noncomputable def F130 : Abs.FTab := F129.memo [m130]
def m131 : Abs.Mem :=
  ⟨128, [k104], [(.ret (.sc (.int Go.IntKind.i64 (0))))]⟩
noncomputable def F131 : Abs.FTab := F130.memo [m131]
def m132 : Abs.Mem :=
  ⟨77, [k104, (.sc (.slice none 0 0))], [(.ret (.tuple [k104, (.sc (.int Go.IntKind.i64 (0)))]))]⟩
noncomputable def F132 : Abs.FTab := F131.memo [m132]
def k105 : Abs.AVal := .data 1 false [(.sc (.int Go.IntKind.i64 (1))), (.sc (.int Go.IntKind.i64 (1))), (.sc (.int Go.IntKind.i64 (1))), (.sc (.int Go.IntKind.i64 (1099511627776))), (.sc (.int Go.IntKind.i64 (1))), (.sc (.int Go.IntKind.i64 (1))), (.sc (.int Go.IntKind.i64 (1099511627776))), (.sc (.int Go.IntKind.i64 (3))), (.sc (.int Go.IntKind.i64 (1)))]
def k106 : Abs.AVal := .agg [(.sc (.int Go.IntKind.i64 (2))), k105]
def m133 : Abs.Mem :=
  ⟨139, [k104, (.sc (.bool true)), (.func (.func 175) [] [])], [(.ret (.tuple [k106, (.sc (.int Go.IntKind.i64 (0)))]))]⟩
noncomputable def F133 : Abs.FTab := F132.memo [m133]
def m134 : Abs.Mem :=
  ⟨128, [k106], [(.ret (.sc (.int Go.IntKind.i64 (0))))]⟩
noncomputable def F134 : Abs.FTab := F133.memo [m134]
def m135 : Abs.Mem :=
  ⟨77, [k106, (.sc (.slice none 0 0))], [(.ret (.tuple [k106, (.sc (.int Go.IntKind.i64 (0)))]))]⟩
noncomputable def F135 : Abs.FTab := F134.memo [m135]
def m136 : Abs.Mem :=
  ⟨123, [k104, (.iptr [(.sc (.int Go.IntKind.i64 (2))), (.data 4 true []), (.data 3 true []), (.sc (.slice none 0 0)), k63]), (.iptr [(.data 1 false [(.sc (.int Go.IntKind.i64 (1))), (.sc (.int Go.IntKind.i64 (0)))]), (.data 1 false [])])], [(.ret (.tuple [k106, (.sc (.int Go.IntKind.i64 (0)))]))]⟩
noncomputable def F136 : Abs.FTab := F135.memo [m136]
def k107 : Abs.AVal := .agg [(.data 1 false [(.sc (.int Go.IntKind.i64 (1))), (.sc (.int Go.IntKind.i64 (0)))]), (.data 1 true []), (.sc (.int Go.IntKind.i64 (2))), k105]
def m137 : Abs.Mem :=
  ⟨80, [k64, k90, (.sc (.int Go.IntKind.i64 (0)))], [(.ret (.tuple [k107, (.sc (.bool true)), (.sc (.int Go.IntKind.i64 (0)))]))]⟩
noncomputable def F137 : Abs.FTab := F136.memo [m137]
def m138 : Abs.Mem :=
  ⟨30, [k64, k71, k107], [(.ret (.tuple [k107, (.sc (.int Go.IntKind.i64 (0)))]))]⟩
noncomputable def F138 : Abs.FTab := F137.memo [m138]
def m139 : Abs.Mem :=
  ⟨41, [k64, k107], [(.ret (.sc (.int Go.IntKind.i64 (0))))]⟩
noncomputable def F139 : Abs.FTab := F138.memo [m139]
def k108 : Abs.AVal := .agg [(.data 1 false [(.sc (.int Go.IntKind.i64 (1))), (.sc (.int Go.IntKind.i64 (0)))]), (.data 1 true []), (.sc (.int Go.IntKind.i64 (2))), k96, (.sc (.int Go.IntKind.i64 (1))), (.sc (.int Go.IntKind.i64 (1)))]
def m140 : Abs.Mem :=
  ⟨34, [(.iptr [(.data 6 false [k99, k100, k101, k102, k108]), (.data 3 false [(.agg [(.sc (.int Go.IntKind.i64 (0))), (.sc (.int Go.IntKind.i64 (0))), (.sc (.int Go.IntKind.i64 (1)))]), (.agg [(.sc (.int Go.IntKind.i64 (0))), (.sc (.int Go.IntKind.i64 (1))), (.sc (.int Go.IntKind.i64 (2)))]), (.agg [(.sc (.int Go.IntKind.i64 (1))), (.sc (.int Go.IntKind.i64 (0))), (.sc (.int Go.IntKind.i64 (3)))]), (.agg [(.sc (.int Go.IntKind.i64 (1))), (.sc (.int Go.IntKind.i64 (1))), (.sc (.int Go.IntKind.i64 (4)))])]), (.sc (.bool false))]), k71, k107], [(.ret (.tuple [(.sc (.int Go.IntKind.i64 (0))), (.sc (.bool false))]))]⟩
noncomputable def F140 : Abs.FTab := F139.memoT [m140]
def k109 : Abs.AVal := .data 1 false [(.sc (.int Go.IntKind.i64 (1))), (.sc (.int Go.IntKind.i64 (-3))), (.sc (.int Go.IntKind.i64 (-1))), (.sc (.int Go.IntKind.i64 (5))), (.sc (.int Go.IntKind.i64 (1))), (.sc (.int Go.IntKind.i64 (3))), (.sc (.int Go.IntKind.i64 (3))), (.sc (.int Go.IntKind.i64 (-1))), (.sc (.int Go.IntKind.i64 (1)))]
def k110 : Abs.AVal := .agg [(.sc (.int Go.IntKind.i64 (2))), k109]
def m141 : Abs.Mem :=
  ⟨77, [k89, k83], [(.ret (.tuple [k110, (.sc (.int Go.IntKind.i64 (0)))]))]⟩
noncomputable def F141 : Abs.FTab := F140.memo [m141]
def m142 : Abs.Mem :=
  ⟨128, [k110], [(.ret (.sc (.int Go.IntKind.i64 (0))))]⟩
noncomputable def F142 : Abs.FTab := F141.memo [m142]
def k111 : Abs.AVal := .data 1 false [(.sc (.int Go.IntKind.i64 (1))), (.sc (.int Go.IntKind.i64 (-3))), (.sc (.int Go.IntKind.i64 (1))), (.sc (.int Go.IntKind.i64 (5))), (.sc (.int Go.IntKind.i64 (1))), (.sc (.int Go.IntKind.i64 (5))), (.sc (.int Go.IntKind.i64 (1))), (.sc (.int Go.IntKind.i64 (-3))), (.sc (.int Go.IntKind.i64 (1)))]
def k112 : Abs.AVal := .agg [(.sc (.int Go.IntKind.i64 (2))), k111]
def m143 : Abs.Mem :=
  ⟨190, [k110, (.sc (.int Go.IntKind.i64 (2))), (.sc (.int Go.IntKind.i64 (0)))], [(.ret (.tuple [k112, (.sc (.int Go.IntKind.i64 (0)))]))]⟩
noncomputable def F143 : Abs.FTab := F142.memo [m143]
def m144 : Abs.Mem :=
  ⟨128, [k112], [(.ret (.sc (.int Go.IntKind.i64 (0))))]⟩
noncomputable def F144 : Abs.FTab := F143.memo [m144]
def m145 : Abs.Mem :=
  ⟨77, [k112, k17], [(.ret (.tuple [k112, (.sc (.int Go.IntKind.i64 (0)))]))]⟩
noncomputable def F145 : Abs.FTab := F144.memo [m145]
def k113 : Abs.AVal := .data 1 false [(.sc (.int Go.IntKind.i64 (1))), (.sc (.int Go.IntKind.i64 (-3))), (.sc (.int Go.IntKind.i64 (1))), (.sc (.int Go.IntKind.i64 (1099511627776))), (.sc (.int Go.IntKind.i64 (1))), (.sc (.int Go.IntKind.i64 (5))), (.sc (.int Go.IntKind.i64 (1099511627776))), (.sc (.int Go.IntKind.i64 (-3))), (.sc (.int Go.IntKind.i64 (1)))]
def k114 : Abs.AVal := .agg [(.sc (.int Go.IntKind.i64 (2))), k113]
def m146 : Abs.Mem :=
  ⟨139, [k112, (.sc (.bool true)), (.func (.func 175) [] [])], [(.ret (.tuple [k114, (.sc (.int Go.IntKind.i64 (0)))]))]⟩
noncomputable def F146 : Abs.FTab := F145.memo [m146]
def m147 : Abs.Mem :=
  ⟨128, [k114], [(.ret (.sc (.int Go.IntKind.i64 (0))))]⟩
noncomputable def F147 : Abs.FTab := F146.memo [m147]
def m148 : Abs.Mem :=
  ⟨77, [k114, k17], [(.ret (.tuple [k112, (.sc (.int Go.IntKind.i64 (0)))]))]⟩
noncomputable def F148 : Abs.FTab := F147.memo [m148]
def m149 : Abs.Mem :=
  ⟨123, [k112, (.iptr [(.sc (.int Go.IntKind.i64 (2))), (.data 4 true []), (.data 3 true []), (.sc (.slice none 0 0)), k63]), (.iptr [(.data 1 false [(.sc (.int Go.IntKind.i64 (0))), (.sc (.int Go.IntKind.i64 (0)))]), (.data 1 false [])])], [(.ret (.tuple [k112, (.sc (.int Go.IntKind.i64 (0)))]))]⟩
noncomputable def F149 : Abs.FTab := F148.memo [m149]
def k115 : Abs.AVal := .agg [(.data 1 false [(.sc (.int Go.IntKind.i64 (0))), (.sc (.int Go.IntKind.i64 (0)))]), (.data 1 true []), (.sc (.int Go.IntKind.i64 (2))), k111]
def m150 : Abs.Mem :=
  ⟨80, [k64, k90, (.sc (.int Go.IntKind.i64 (1)))], [(.ret (.tuple [k115, (.sc (.bool true)), (.sc (.int Go.IntKind.i64 (0)))]))]⟩
noncomputable def F150 : Abs.FTab := F149.memo [m150]
def m151 : Abs.Mem :=
  ⟨30, [k64, k71, k115], [(.ret (.tuple [k115, (.sc (.int Go.IntKind.i64 (0)))]))]⟩
noncomputable def F151 : Abs.FTab := F150.memo [m151]
def m152 : Abs.Mem :=
  ⟨41, [k64, k115], [(.ret (.sc (.int Go.IntKind.i64 (0))))]⟩
noncomputable def F152 : Abs.FTab := F151.memo [m152]
def k116 : Abs.AVal := .agg [(.data 1 false [(.sc (.int Go.IntKind.i64 (1))), (.sc (.int Go.IntKind.i64 (0)))]), (.data 1 true []), (.sc (.int Go.IntKind.i64 (2))), k105, (.sc (.int Go.IntKind.i64 (2))), (.sc (.int Go.IntKind.i64 (0)))]
def m153 : Abs.Mem :=
  ⟨34, [(.iptr [(.data 6 false [k99, k100, k101, k102, k108, k116]), (.data 3 false [(.agg [(.sc (.int Go.IntKind.i64 (0))), (.sc (.int Go.IntKind.i64 (0))), (.sc (.int Go.IntKind.i64 (1)))]), (.agg [(.sc (.int Go.IntKind.i64 (0))), (.sc (.int Go.IntKind.i64 (1))), (.sc (.int Go.IntKind.i64 (2)))]), (.agg [(.sc (.int Go.IntKind.i64 (1))), (.sc (.int Go.IntKind.i64 (0))), (.sc (.int Go.IntKind.i64 (3)))]), (.agg [(.sc (.int Go.IntKind.i64 (1))), (.sc (.int Go.IntKind.i64 (1))), (.sc (.int Go.IntKind.i64 (4)))]), (.agg [(.sc (.int Go.IntKind.i64 (2))), (.sc (.int Go.IntKind.i64 (0))), (.sc (.int Go.IntKind.i64 (5)))])]), (.sc (.bool false))]), k71, k115], [(.ret (.tuple [(.sc (.int Go.IntKind.i64 (0))), (.sc (.bool false))]))]⟩
noncomputable def F153 : Abs.FTab := F152.memoT [m153]
def m154 : Abs.Mem :=
  ⟨77, [k92, k28], [(.ret (.tuple [k92, (.sc (.int Go.IntKind.i64 (0)))]))]⟩
noncomputable def F154 : Abs.FTab := F153.memo [m154]
def m155 : Abs.Mem :=
  ⟨80, [k64, k93, (.sc (.int Go.IntKind.i64 (0)))], [(.ret (.tuple [k93, (.sc (.bool true)), (.sc (.int Go.IntKind.i64 (0)))]))]⟩
noncomputable def F155 : Abs.FTab := F154.memo [m155]
def k117 : Abs.AVal := .agg [(.data 1 false [(.sc (.int Go.IntKind.i64 (0))), (.sc (.int Go.IntKind.i64 (0)))]), (.data 1 true []), (.sc (.int Go.IntKind.i64 (2))), k111, (.sc (.int Go.IntKind.i64 (2))), (.sc (.int Go.IntKind.i64 (1)))]
def k118 : Abs.AVal := .data 6 false [k99, k100, k101, k102, k108, k116, k117]
def m156 : Abs.Mem :=
  ⟨34, [(.iptr [k118, (.data 3 false [(.agg [(.sc (.int Go.IntKind.i64 (0))), (.sc (.int Go.IntKind.i64 (0))), (.sc (.int Go.IntKind.i64 (1)))]), (.agg [(.sc (.int Go.IntKind.i64 (0))), (.sc (.int Go.IntKind.i64 (1))), (.sc (.int Go.IntKind.i64 (2)))]), (.agg [(.sc (.int Go.IntKind.i64 (1))), (.sc (.int Go.IntKind.i64 (0))), (.sc (.int Go.IntKind.i64 (3)))]), (.agg [(.sc (.int Go.IntKind.i64 (1))), (.sc (.int Go.IntKind.i64 (1))), (.sc (.int Go.IntKind.i64 (4)))]), (.agg [(.sc (.int Go.IntKind.i64 (2))), (.sc (.int Go.IntKind.i64 (0))), (.sc (.int Go.IntKind.i64 (5)))]), (.agg [(.sc (.int Go.IntKind.i64 (2))), (.sc (.int Go.IntKind.i64 (1))), (.sc (.int Go.IntKind.i64 (6)))])]), (.sc (.bool false))]), k71, k93], [(.ret (.tuple [(.sc (.int Go.IntKind.i64 (3))), (.sc (.bool true))]))]⟩
noncomputable def F156 : Abs.FTab := F155.memoT [m156]
def m157 : Abs.Mem :=
  ⟨77, [k92, k83], [(.ret (.tuple [k92, (.sc (.int Go.IntKind.i64 (0)))]))]⟩
noncomputable def F157 : Abs.FTab := F156.memo [m157]
def k119 : Abs.AVal := .data 1 false [(.sc (.int Go.IntKind.i64 (1))), (.sc (.int Go.IntKind.i64 (-6))), (.sc (.int Go.IntKind.i64 (1))), (.sc (.int Go.IntKind.i64 (1099511627776))), (.sc (.int Go.IntKind.i64 (1))), (.sc (.int Go.IntKind.i64 (1099511627776))), (.sc (.int Go.IntKind.i64 (1))), (.sc (.int Go.IntKind.i64 (-6))), (.sc (.int Go.IntKind.i64 (1)))]
def k120 : Abs.AVal := .agg [(.sc (.int Go.IntKind.i64 (2))), k119]
def m158 : Abs.Mem :=
  ⟨190, [k92, (.sc (.int Go.IntKind.i64 (2))), (.sc (.int Go.IntKind.i64 (0)))], [(.ret (.tuple [k120, (.sc (.int Go.IntKind.i64 (0)))]))]⟩
noncomputable def F158 : Abs.FTab := F157.memo [m158]
def m159 : Abs.Mem :=
  ⟨128, [k120], [(.ret (.sc (.int Go.IntKind.i64 (0))))]⟩
noncomputable def F159 : Abs.FTab := F158.memo [m159]
def m160 : Abs.Mem :=
  ⟨77, [k120, (.sc (.slice none 0 0))], [(.ret (.tuple [k120, (.sc (.int Go.IntKind.i64 (0)))]))]⟩
noncomputable def F160 : Abs.FTab := F159.memo [m160]
def k121 : Abs.AVal := .data 1 false [(.sc (.int Go.IntKind.i64 (1))), (.sc (.int Go.IntKind.i64 (-6))), (.sc (.int Go.IntKind.i64 (1))), (.sc (.int Go.IntKind.i64 (1099511627776))), (.sc (.int Go.IntKind.i64 (1))), (.sc (.int Go.IntKind.i64 (1099511627776))), (.sc (.int Go.IntKind.i64 (1099511627776))), (.sc (.int Go.IntKind.i64 (-6))), (.sc (.int Go.IntKind.i64 (1)))]
def k122 : Abs.AVal := .agg [(.sc (.int Go.IntKind.i64 (2))), k121]
def m161 : Abs.Mem :=
  ⟨139, [k120, (.sc (.bool true)), (.func (.func 175) [] [])], [(.ret (.tuple [k122, (.sc (.int Go.IntKind.i64 (0)))]))]⟩
noncomputable def F161 : Abs.FTab := F160.memo [m161]
def m162 : Abs.Mem :=
  ⟨128, [k122], [(.ret (.sc (.int Go.IntKind.i64 (0))))]⟩
noncomputable def F162 : Abs.FTab := F161.memo [m162]
def m163 : Abs.Mem :=
  ⟨77, [k122, (.sc (.slice none 0 0))], [(.ret (.tuple [k122, (.sc (.int Go.IntKind.i64 (0)))]))]⟩
noncomputable def F163 : Abs.FTab := F162.memo [m163]
def m164 : Abs.Mem :=
  ⟨123, [k120, (.iptr [(.sc (.int Go.IntKind.i64 (2))), (.data 4 true []), (.data 3 true []), (.sc (.slice none 0 0)), k63]), (.iptr [(.data 1 false [(.sc (.int Go.IntKind.i64 (1))), (.sc (.int Go.IntKind.i64 (0)))]), (.data 1 false [])])], [(.ret (.tuple [k122, (.sc (.int Go.IntKind.i64 (0)))]))]⟩
noncomputable def F164 : Abs.FTab := F163.memo [m164]
def k123 : Abs.AVal := .agg [(.data 1 false [(.sc (.int Go.IntKind.i64 (1))), (.sc (.int Go.IntKind.i64 (0)))]), (.data 1 true []), (.sc (.int Go.IntKind.i64 (2))), k121]
def m165 : Abs.Mem :=
  ⟨80, [k64, k93, (.sc (.int Go.IntKind.i64 (1)))], [(.ret (.tuple [k123, (.sc (.bool true)), (.sc (.int Go.IntKind.i64 (0)))]))]⟩
noncomputable def F165 : Abs.FTab := F164.memo [m165]
def m166 : Abs.Mem :=
  ⟨30, [k64, k71, k123], [(.ret (.tuple [k123, (.sc (.int Go.IntKind.i64 (0)))]))]⟩
noncomputable def F166 : Abs.FTab := F165.memo [m166]
def m167 : Abs.Mem :=
  ⟨41, [k64, k123], [(.ret (.sc (.int Go.IntKind.i64 (0))))]⟩
noncomputable def F167 : Abs.FTab := F166.memo [m167]
def m168 : Abs.Mem :=
  ⟨34, [(.iptr [k118, (.data 3 false [(.agg [(.sc (.int Go.IntKind.i64 (0))), (.sc (.int Go.IntKind.i64 (0))), (.sc (.int Go.IntKind.i64 (1)))]), (.agg [(.sc (.int Go.IntKind.i64 (0))), (.sc (.int Go.IntKind.i64 (1))), (.sc (.int Go.IntKind.i64 (2)))]), (.agg [(.sc (.int Go.IntKind.i64 (1))), (.sc (.int Go.IntKind.i64 (0))), (.sc (.int Go.IntKind.i64 (3)))]), (.agg [(.sc (.int Go.IntKind.i64 (1))), (.sc (.int Go.IntKind.i64 (1))), (.sc (.int Go.IntKind.i64 (4)))]), (.agg [(.sc (.int Go.IntKind.i64 (2))), (.sc (.int Go.IntKind.i64 (0))), (.sc (.int Go.IntKind.i64 (5)))]), (.agg [(.sc (.int Go.IntKind.i64 (2))), (.sc (.int Go.IntKind.i64 (1))), (.sc (.int Go.IntKind.i64 (6)))]), (.agg [(.sc (.int Go.IntKind.i64 (3))), (.sc (.int Go.IntKind.i64 (0))), (.sc (.int Go.IntKind.i64 (3)))])]), (.sc (.bool false))]), k71, k123], [(.ret (.tuple [(.sc (.int Go.IntKind.i64 (0))), (.sc (.bool false))]))]⟩
noncomputable def F168 : Abs.FTab := F167.memoT [m168]
def k124 : Abs.AVal := .data 1 false [(.sc (.int Go.IntKind.i64 (1))), (.sc (.int Go.IntKind.i64 (-6))), (.sc (.int Go.IntKind.i64 (1))), (.sc (.int Go.IntKind.i64 (1099511627776))), (.sc (.int Go.IntKind.i64 (1))), (.sc (.int Go.IntKind.i64 (1099511627776))), (.sc (.int Go.IntKind.i64 (1099511627776))), (.sc (.int Go.IntKind.i64 (1))), (.sc (.int Go.IntKind.i64 (1)))]
def k125 : Abs.AVal := .agg [(.sc (.int Go.IntKind.i64 (2))), k124]
def m169 : Abs.Mem :=
  ⟨77, [k97, k28], [(.ret (.tuple [k125, (.sc (.int Go.IntKind.i64 (0)))]))]⟩
noncomputable def F169 : Abs.FTab := F168.memo [m169]
def m170 : Abs.Mem :=
  ⟨128, [k125], [(.ret (.sc (.int Go.IntKind.i64 (0))))]⟩
noncomputable def F170 : Abs.FTab := F169.memo [m170]
def m171 : Abs.Mem :=
  ⟨77, [k125, (.sc (.slice none 0 0))], [(.ret (.tuple [k125, (.sc (.int Go.IntKind.i64 (0)))]))]⟩
noncomputable def F171 : Abs.FTab := F170.memo [m171]
def m172 : Abs.Mem :=
  ⟨139, [k125, (.sc (.bool true)), (.func (.func 175) [] [])], [(.ret (.tuple [k125, (.sc (.int Go.IntKind.i64 (0)))]))]⟩
noncomputable def F172 : Abs.FTab := F171.memo [m172]
def m173 : Abs.Mem :=
  ⟨123, [k125, (.iptr [(.sc (.int Go.IntKind.i64 (2))), (.data 4 true []), (.data 3 true []), (.sc (.slice none 0 0)), k63]), (.iptr [(.data 1 false [(.sc (.int Go.IntKind.i64 (1))), (.sc (.int Go.IntKind.i64 (0)))]), (.data 1 false [])])], [(.ret (.tuple [k125, (.sc (.int Go.IntKind.i64 (0)))]))]⟩
noncomputable def F173 : Abs.FTab := F172.memo [m173]
def k126 : Abs.AVal := .agg [(.data 1 false [(.sc (.int Go.IntKind.i64 (1))), (.sc (.int Go.IntKind.i64 (0)))]), (.data 1 true []), (.sc (.int Go.IntKind.i64 (2))), k124]
def m174 : Abs.Mem :=
  ⟨80, [k64, k98, (.sc (.int Go.IntKind.i64 (0)))], [(.ret (.tuple [k126, (.sc (.bool true)), (.sc (.int Go.IntKind.i64 (0)))]))]⟩
noncomputable def F174 : Abs.FTab := F173.memo [m174]
def m175 : Abs.Mem :=
  ⟨30, [k64, k71, k126], [(.ret (.tuple [k126, (.sc (.int Go.IntKind.i64 (0)))]))]⟩
noncomputable def F175 : Abs.FTab := F174.memo [m175]
def m176 : Abs.Mem :=
  ⟨41, [k64, k126], [(.ret (.sc (.int Go.IntKind.i64 (0))))]⟩
noncomputable def F176 : Abs.FTab := F175.memo [m176]
def k127 : Abs.AVal := .agg [(.data 1 false [(.sc (.int Go.IntKind.i64 (1))), (.sc (.int Go.IntKind.i64 (0)))]), (.data 1 true []), (.sc (.int Go.IntKind.i64 (2))), k121, (.sc (.int Go.IntKind.i64 (3))), (.sc (.int Go.IntKind.i64 (1)))]
def m177 : Abs.Mem :=
  ⟨34, [(.iptr [(.data 6 false [k99, k100, k101, k102, k108, k116, k117, k127]), (.data 3 false [(.agg [(.sc (.int Go.IntKind.i64 (0))), (.sc (.int Go.IntKind.i64 (0))), (.sc (.int Go.IntKind.i64 (1)))]), (.agg [(.sc (.int Go.IntKind.i64 (0))), (.sc (.int Go.IntKind.i64 (1))), (.sc (.int Go.IntKind.i64 (2)))]), (.agg [(.sc (.int Go.IntKind.i64 (1))), (.sc (.int Go.IntKind.i64 (0))), (.sc (.int Go.IntKind.i64 (3)))]), (.agg [(.sc (.int Go.IntKind.i64 (1))), (.sc (.int Go.IntKind.i64 (1))), (.sc (.int Go.IntKind.i64 (4)))]), (.agg [(.sc (.int Go.IntKind.i64 (2))), (.sc (.int Go.IntKind.i64 (0))), (.sc (.int Go.IntKind.i64 (5)))]), (.agg [(.sc (.int Go.IntKind.i64 (2))), (.sc (.int Go.IntKind.i64 (1))), (.sc (.int Go.IntKind.i64 (6)))]), (.agg [(.sc (.int Go.IntKind.i64 (3))), (.sc (.int Go.IntKind.i64 (0))), (.sc (.int Go.IntKind.i64 (3)))]), (.agg [(.sc (.int Go.IntKind.i64 (3))), (.sc (.int Go.IntKind.i64 (1))), (.sc (.int Go.IntKind.i64 (7)))])]), (.sc (.bool false))]), k71, k126], [(.ret (.tuple [(.sc (.int Go.IntKind.i64 (0))), (.sc (.bool false))]))]⟩
noncomputable def F177 : Abs.FTab := F176.memoT [m177]
def k128 : Abs.AVal := .data 1 false [(.sc (.int Go.IntKind.i64 (1))), (.sc (.int Go.IntKind.i64 (-1))), (.sc (.int Go.IntKind.i64 (-1))), (.sc (.int Go.IntKind.i64 (1099511627776))), (.sc (.int Go.IntKind.i64 (1))), (.sc (.int Go.IntKind.i64 (1099511627776))), (.sc (.int Go.IntKind.i64 (1099511627776))), (.sc (.int Go.IntKind.i64 (1))), (.sc (.int Go.IntKind.i64 (1)))]
def k129 : Abs.AVal := .agg [(.sc (.int Go.IntKind.i64 (2))), k128]
def m178 : Abs.Mem :=
  ⟨77, [k97, k83], [(.ret (.tuple [k129, (.sc (.int Go.IntKind.i64 (0)))]))]⟩
noncomputable def F178 : Abs.FTab := F177.memo [m178]
def m179 : Abs.Mem :=
  ⟨128, [k129], [(.ret (.sc (.int Go.IntKind.i64 (0))))]⟩
noncomputable def F179 : Abs.FTab := F178.memo [m179]
def k130 : Abs.AVal := .data 1 false [(.sc (.int Go.IntKind.i64 (1))), (.sc (.int Go.IntKind.i64 (-1))), (.sc (.int Go.IntKind.i64 (1))), (.sc (.int Go.IntKind.i64 (1099511627776))), (.sc (.int Go.IntKind.i64 (1))), (.sc (.int Go.IntKind.i64 (1099511627776))), (.sc (.int Go.IntKind.i64 (1))), (.sc (.int Go.IntKind.i64 (-1))), (.sc (.int Go.IntKind.i64 (1)))]
def k131 : Abs.AVal := .agg [(.sc (.int Go.IntKind.i64 (2))), k130]
def m180 : Abs.Mem :=
  ⟨190, [k129, (.sc (.int Go.IntKind.i64 (2))), (.sc (.int Go.IntKind.i64 (0)))], [(.ret (.tuple [k131, (.sc (.int Go.IntKind.i64 (0)))]))]⟩
noncomputable def F180 : Abs.FTab := F179.memo [m180]
def m181 : Abs.Mem :=
  ⟨128, [k131], [(.ret (.sc (.int Go.IntKind.i64 (0))))]⟩
noncomputable def F181 : Abs.FTab := F180.memo [m181]
def m182 : Abs.Mem :=
  ⟨77, [k131, (.sc (.slice none 0 0))], [(.ret (.tuple [k131, (.sc (.int Go.IntKind.i64 (0)))]))]⟩
noncomputable def F182 : Abs.FTab := F181.memo [m182]
def k132 : Abs.AVal := .data 1 false [(.sc (.int Go.IntKind.i64 (1))), (.sc (.int Go.IntKind.i64 (-1))), (.sc (.int Go.IntKind.i64 (1))), (.sc (.int Go.IntKind.i64 (1099511627776))), (.sc (.int Go.IntKind.i64 (1))), (.sc (.int Go.IntKind.i64 (1099511627776))), (.sc (.int Go.IntKind.i64 (1099511627776))), (.sc (.int Go.IntKind.i64 (-1))), (.sc (.int Go.IntKind.i64 (1)))]
def k133 : Abs.AVal := .agg [(.sc (.int Go.IntKind.i64 (2))), k132]
def m183 : Abs.Mem :=
  ⟨139, [k131, (.sc (.bool true)), (.func (.func 175) [] [])], [(.ret (.tuple [k133, (.sc (.int Go.IntKind.i64 (0)))]))]⟩
noncomputable def F183 : Abs.FTab := F182.memo [m183]
def m184 : Abs.Mem :=
  ⟨128, [k133], [(.ret (.sc (.int Go.IntKind.i64 (0))))]⟩
noncomputable def F184 : Abs.FTab := F183.memo [m184]
def m185 : Abs.Mem :=
  ⟨77, [k133, (.sc (.slice none 0 0))], [(.ret (.tuple [k133, (.sc (.int Go.IntKind.i64 (0)))]))]⟩
noncomputable def F185 : Abs.FTab := F184.memo [m185]
def m186 : Abs.Mem :=
  ⟨123, [k131, (.iptr [(.sc (.int Go.IntKind.i64 (2))), (.data 4 true []), (.data 3 true []), (.sc (.slice none 0 0)), k63]), (.iptr [(.data 1 false [(.sc (.int Go.IntKind.i64 (1))), (.sc (.int Go.IntKind.i64 (0)))]), (.data 1 false [])])], [(.ret (.tuple [k133, (.sc (.int Go.IntKind.i64 (0)))]))]⟩
noncomputable def F186 : Abs.FTab := F185.memo [m186]
def k134 : Abs.AVal := .agg [(.data 1 false [(.sc (.int Go.IntKind.i64 (1))), (.sc (.int Go.IntKind.i64 (0)))]), (.data 1 true []), (.sc (.int Go.IntKind.i64 (2))), k132]
def m187 : Abs.Mem :=
  ⟨80, [k64, k98, (.sc (.int Go.IntKind.i64 (1)))], [(.ret (.tuple [k134, (.sc (.bool true)), (.sc (.int Go.IntKind.i64 (0)))]))]⟩
noncomputable def F187 : Abs.FTab := F186.memo [m187]
def m188 : Abs.Mem :=
  ⟨30, [k64, k71, k134], [(.ret (.tuple [k134, (.sc (.int Go.IntKind.i64 (0)))]))]⟩
noncomputable def F188 : Abs.FTab := F187.memo [m188]
def m189 : Abs.Mem :=
  ⟨41, [k64, k134], [(.ret (.sc (.int Go.IntKind.i64 (0))))]⟩
noncomputable def F189 : Abs.FTab := F188.memo [m189]
def k135 : Abs.AVal := .agg [(.data 1 false [(.sc (.int Go.IntKind.i64 (1))), (.sc (.int Go.IntKind.i64 (0)))]), (.data 1 true []), (.sc (.int Go.IntKind.i64 (2))), k124, (.sc (.int Go.IntKind.i64 (4))), (.sc (.int Go.IntKind.i64 (0)))]
def m190 : Abs.Mem :=
  ⟨34, [(.iptr [(.data 6 false [k99, k100, k101, k102, k108, k116, k117, k127, k135]), (.data 3 false [(.agg [(.sc (.int Go.IntKind.i64 (0))), (.sc (.int Go.IntKind.i64 (0))), (.sc (.int Go.IntKind.i64 (1)))]), (.agg [(.sc (.int Go.IntKind.i64 (0))), (.sc (.int Go.IntKind.i64 (1))), (.sc (.int Go.IntKind.i64 (2)))]), (.agg [(.sc (.int Go.IntKind.i64 (1))), (.sc (.int Go.IntKind.i64 (0))), (.sc (.int Go.IntKind.i64 (3)))]), (.agg [(.sc (.int Go.IntKind.i64 (1))), (.sc (.int Go.IntKind.i64 (1))), (.sc (.int Go.IntKind.i64 (4)))]), (.agg [(.sc (.int Go.IntKind.i64 (2))), (.sc (.int Go.IntKind.i64 (0))), (.sc (.int Go.IntKind.i64 (5)))]), (.agg [(.sc (.int Go.IntKind.i64 (2))), (.sc (.int Go.IntKind.i64 (1))), (.sc (.int Go.IntKind.i64 (6)))]), (.agg [(.sc (.int Go.IntKind.i64 (3))), (.sc (.int Go.IntKind.i64 (0))), (.sc (.int Go.IntKind.i64 (3)))]), (.agg [(.sc (.int Go.IntKind.i64 (3))), (.sc (.int Go.IntKind.i64 (1))), (.sc (.int Go.IntKind.i64 (7)))]), (.agg [(.sc (.int Go.IntKind.i64 (4))), (.sc (.int Go.IntKind.i64 (0))), (.sc (.int Go.IntKind.i64 (8)))])]), (.sc (.bool false))]), k71, k134], [(.ret (.tuple [(.sc (.int Go.IntKind.i64 (0))), (.sc (.bool false))]))]⟩
noncomputable def F190 : Abs.FTab := F189.memoT [m190]
def k136 : Abs.AVal := .data 1 false [(.sc (.int Go.IntKind.i64 (1))), (.sc (.int Go.IntKind.i64 (-6))), (.sc (.int Go.IntKind.i64 (-6))), (.sc (.int Go.IntKind.i64 (1099511627776))), (.sc (.int Go.IntKind.i64 (1))), (.sc (.int Go.IntKind.i64 (1))), (.sc (.int Go.IntKind.i64 (1099511627776))), (.sc (.int Go.IntKind.i64 (3))), (.sc (.int Go.IntKind.i64 (1)))]
def k137 : Abs.AVal := .agg [(.sc (.int Go.IntKind.i64 (2))), k136]
def m191 : Abs.Mem :=
  ⟨77, [k106, k28], [(.ret (.tuple [k137, (.sc (.int Go.IntKind.i64 (0)))]))]⟩
noncomputable def F191 : Abs.FTab := F190.memo [m191]
def m192 : Abs.Mem :=
  ⟨128, [k137], [(.ret (.sc (.int Go.IntKind.i64 (0))))]⟩
noncomputable def F192 : Abs.FTab := F191.memo [m192]
def m193 : Abs.Mem :=
  ⟨77, [k137, (.sc (.slice none 0 0))], [(.ret (.tuple [k137, (.sc (.int Go.IntKind.i64 (0)))]))]⟩
noncomputable def F193 : Abs.FTab := F192.memo [m193]
def m194 : Abs.Mem :=
  ⟨139, [k137, (.sc (.bool true)), (.func (.func 175) [] [])], [(.ret (.tuple [k137, (.sc (.int Go.IntKind.i64 (0)))]))]⟩
noncomputable def F194 : Abs.FTab := F193.memo [m194]
def m195 : Abs.Mem :=
  ⟨123, [k137, (.iptr [(.sc (.int Go.IntKind.i64 (2))), (.data 4 true []), (.data 3 true []), (.sc (.slice none 0 0)), k63]), (.iptr [(.data 1 false [(.sc (.int Go.IntKind.i64 (1))), (.sc (.int Go.IntKind.i64 (0)))]), (.data 1 false [])])], [(.ret (.tuple [k137, (.sc (.int Go.IntKind.i64 (0)))]))]⟩
noncomputable def F195 : Abs.FTab := F194.memo [m195]
def k138 : Abs.AVal := .agg [(.data 1 false [(.sc (.int Go.IntKind.i64 (1))), (.sc (.int Go.IntKind.i64 (0)))]), (.data 1 true []), (.sc (.int Go.IntKind.i64 (2))), k136]
def m196 : Abs.Mem :=
  ⟨80, [k64, k107, (.sc (.int Go.IntKind.i64 (0)))], [(.ret (.tuple [k138, (.sc (.bool true)), (.sc (.int Go.IntKind.i64 (0)))]))]⟩
noncomputable def F196 : Abs.FTab := F195.memo [m196]
def m197 : Abs.Mem :=
  ⟨30, [k64, k71, k138], [(.ret (.tuple [k138, (.sc (.int Go.IntKind.i64 (0)))]))]⟩
noncomputable def F197 : Abs.FTab := F196.memo [m197]
def m198 : Abs.Mem :=
  ⟨41, [k64, k138], [(.ret (.sc (.int Go.IntKind.i64 (0))))]⟩
noncomputable def F198 : Abs.FTab := F197.memo [m198]
def k139 : Abs.AVal := .agg [(.data 1 false [(.sc (.int Go.IntKind.i64 (1))), (.sc (.int Go.IntKind.i64 (0)))]), (.data 1 true []), (.sc (.int Go.IntKind.i64 (2))), k132, (.sc (.int Go.IntKind.i64 (4))), (.sc (.int Go.IntKind.i64 (1)))]
def m199 : Abs.Mem :=
  ⟨34, [(.iptr [(.data 6 false [k99, k100, k101, k102, k108, k116, k117, k127, k135, k139]), (.data 3 false [(.agg [(.sc (.int Go.IntKind.i64 (0))), (.sc (.int Go.IntKind.i64 (0))), (.sc (.int Go.IntKind.i64 (1)))]), (.agg [(.sc (.int Go.IntKind.i64 (0))), (.sc (.int Go.IntKind.i64 (1))), (.sc (.int Go.IntKind.i64 (2)))]), (.agg [(.sc (.int Go.IntKind.i64 (1))), (.sc (.int Go.IntKind.i64 (0))), (.sc (.int Go.IntKind.i64 (3)))]), (.agg [(.sc (.int Go.IntKind.i64 (1))), (.sc (.int Go.IntKind.i64 (1))), (.sc (.int Go.IntKind.i64 (4)))]), (.agg [(.sc (.int Go.IntKind.i64 (2))), (.sc (.int Go.IntKind.i64 (0))), (.sc (.int Go.IntKind.i64 (5)))]), (.agg [(.sc (.int Go.IntKind.i64 (2))), (.sc (.int Go.IntKind.i64 (1))), (.sc (.int Go.IntKind.i64 (6)))]), (.agg [(.sc (.int Go.IntKind.i64 (3))), (.sc (.int Go.IntKind.i64 (0))), (.sc (.int Go.IntKind.i64 (3)))]), (.agg [(.sc (.int Go.IntKind.i64 (3))), (.sc (.int Go.IntKind.i64 (1))), (.sc (.int Go.IntKind.i64 (7)))]), (.agg [(.sc (.int Go.IntKind.i64 (4))), (.sc (.int Go.IntKind.i64 (0))), (.sc (.int Go.IntKind.i64 (8)))]), (.agg [(.sc (.int Go.IntKind.i64 (4))), (.sc (.int Go.IntKind.i64 (1))), (.sc (.int Go.IntKind.i64 (9)))])]), (.sc (.bool false))]), k71, k138], [(.ret (.tuple [(.sc (.int Go.IntKind.i64 (0))), (.sc (.bool false))]))]⟩
noncomputable def F199 : Abs.FTab := F198.memoT [m199]
def k140 : Abs.AVal := .data 1 false [(.sc (.int Go.IntKind.i64 (1))), (.sc (.int Go.IntKind.i64 (1))), (.sc (.int Go.IntKind.i64 (-1))), (.sc (.int Go.IntKind.i64 (1099511627776))), (.sc (.int Go.IntKind.i64 (1))), (.sc (.int Go.IntKind.i64 (1))), (.sc (.int Go.IntKind.i64 (1099511627776))), (.sc (.int Go.IntKind.i64 (3))), (.sc (.int Go.IntKind.i64 (1)))]
def k141 : Abs.AVal := .agg [(.sc (.int Go.IntKind.i64 (2))), k140]
def m200 : Abs.Mem :=
  ⟨77, [k106, k83], [(.ret (.tuple [k141, (.sc (.int Go.IntKind.i64 (0)))]))]⟩
noncomputable def F200 : Abs.FTab := F199.memo [m200]
def m201 : Abs.Mem :=
  ⟨128, [k141], [(.ret (.sc (.int Go.IntKind.i64 (0))))]⟩
noncomputable def F201 : Abs.FTab := F200.memo [m201]
def m202 : Abs.Mem :=
  ⟨190, [k141, (.sc (.int Go.IntKind.i64 (2))), (.sc (.int Go.IntKind.i64 (0)))], [(.ret (.tuple [k95, (.sc (.int Go.IntKind.i64 (0)))]))]⟩
noncomputable def F202 : Abs.FTab := F201.memo [m202]
def m203 : Abs.Mem :=
  ⟨80, [k64, k107, (.sc (.int Go.IntKind.i64 (1)))], [(.ret (.tuple [k98, (.sc (.bool true)), (.sc (.int Go.IntKind.i64 (0)))]))]⟩
noncomputable def F203 : Abs.FTab := F202.memo [m203]
def k142 : Abs.AVal := .agg [(.data 1 false [(.sc (.int Go.IntKind.i64 (1))), (.sc (.int Go.IntKind.i64 (0)))]), (.data 1 true []), (.sc (.int Go.IntKind.i64 (2))), k136, (.sc (.int Go.IntKind.i64 (5))), (.sc (.int Go.IntKind.i64 (0)))]
def k143 : Abs.AVal := .data 6 false [k99, k100, k101, k102, k108, k116, k117, k127, k135, k139, k142]
def m204 : Abs.Mem :=
  ⟨34, [(.iptr [k143, (.data 3 false [(.agg [(.sc (.int Go.IntKind.i64 (0))), (.sc (.int Go.IntKind.i64 (0))), (.sc (.int Go.IntKind.i64 (1)))]), (.agg [(.sc (.int Go.IntKind.i64 (0))), (.sc (.int Go.IntKind.i64 (1))), (.sc (.int Go.IntKind.i64 (2)))]), (.agg [(.sc (.int Go.IntKind.i64 (1))), (.sc (.int Go.IntKind.i64 (0))), (.sc (.int Go.IntKind.i64 (3)))]), (.agg [(.sc (.int Go.IntKind.i64 (1))), (.sc (.int Go.IntKind.i64 (1))), (.sc (.int Go.IntKind.i64 (4)))]), (.agg [(.sc (.int Go.IntKind.i64 (2))), (.sc (.int Go.IntKind.i64 (0))), (.sc (.int Go.IntKind.i64 (5)))]), (.agg [(.sc (.int Go.IntKind.i64 (2))), (.sc (.int Go.IntKind.i64 (1))), (.sc (.int Go.IntKind.i64 (6)))]), (.agg [(.sc (.int Go.IntKind.i64 (3))), (.sc (.int Go.IntKind.i64 (0))), (.sc (.int Go.IntKind.i64 (3)))]), (.agg [(.sc (.int Go.IntKind.i64 (3))), (.sc (.int Go.IntKind.i64 (1))), (.sc (.int Go.IntKind.i64 (7)))]), (.agg [(.sc (.int Go.IntKind.i64 (4))), (.sc (.int Go.IntKind.i64 (0))), (.sc (.int Go.IntKind.i64 (8)))]), (.agg [(.sc (.int Go.IntKind.i64 (4))), (.sc (.int Go.IntKind.i64 (1))), (.sc (.int Go.IntKind.i64 (9)))]), (.agg [(.sc (.int Go.IntKind.i64 (5))), (.sc (.int Go.IntKind.i64 (0))), (.sc (.int Go.IntKind.i64 (10)))])]), (.sc (.bool false))]), k71, k98], [(.ret (.tuple [(.sc (.int Go.IntKind.i64 (4))), (.sc (.bool true))]))]⟩
noncomputable def F204 : Abs.FTab := F203.memoT [m204]
def m205 : Abs.Mem :=
  ⟨77, [k112, k24], [(.ret (.tuple [k112, (.sc (.int Go.IntKind.i64 (0)))]))]⟩
noncomputable def F205 : Abs.FTab := F204.memo [m205]
def m206 : Abs.Mem :=
  ⟨190, [k112, (.sc (.int Go.IntKind.i64 (1))), (.sc (.int Go.IntKind.i64 (0)))], [(.ret (.tuple [k66, (.sc (.int Go.IntKind.i64 (0)))]))]⟩
noncomputable def F206 : Abs.FTab := F205.memo [m206]
def m207 : Abs.Mem :=
  ⟨77, [k66, (.sc (.slice none 0 0))], [(.ret (.tuple [k66, (.sc (.int Go.IntKind.i64 (0)))]))]⟩
noncomputable def F207 : Abs.FTab := F206.memo [m207]
def m208 : Abs.Mem :=
  ⟨77, [k68, (.sc (.slice none 0 0))], [(.ret (.tuple [k68, (.sc (.int Go.IntKind.i64 (0)))]))]⟩
noncomputable def F208 : Abs.FTab := F207.memo [m208]
def m209 : Abs.Mem :=
  ⟨123, [k66, (.iptr [(.sc (.int Go.IntKind.i64 (2))), (.data 4 true []), (.data 3 true []), (.sc (.slice none 0 0)), k63]), (.iptr [(.data 1 false [(.sc (.int Go.IntKind.i64 (1))), (.sc (.int Go.IntKind.i64 (0)))]), (.data 1 false [])])], [(.ret (.tuple [k68, (.sc (.int Go.IntKind.i64 (0)))]))]⟩
noncomputable def F209 : Abs.FTab := F208.memo [m209]
def k144 : Abs.AVal := .agg [(.data 1 false [(.sc (.int Go.IntKind.i64 (1))), (.sc (.int Go.IntKind.i64 (0)))]), (.data 1 true []), (.sc (.int Go.IntKind.i64 (2))), k67]
def m210 : Abs.Mem :=
  ⟨80, [k64, k115, (.sc (.int Go.IntKind.i64 (0)))], [(.ret (.tuple [k144, (.sc (.bool true)), (.sc (.int Go.IntKind.i64 (0)))]))]⟩
noncomputable def F210 : Abs.FTab := F209.memo [m210]
def m211 : Abs.Mem :=
  ⟨30, [k64, k71, k144], [(.ret (.tuple [k144, (.sc (.int Go.IntKind.i64 (0)))]))]⟩
noncomputable def F211 : Abs.FTab := F210.memo [m211]
def m212 : Abs.Mem :=
  ⟨41, [k64, k144], [(.ret (.sc (.int Go.IntKind.i64 (0))))]⟩
noncomputable def F212 : Abs.FTab := F211.memo [m212]
def m213 : Abs.Mem :=
  ⟨34, [(.iptr [k143, (.data 3 false [(.agg [(.sc (.int Go.IntKind.i64 (0))), (.sc (.int Go.IntKind.i64 (0))), (.sc (.int Go.IntKind.i64 (1)))]), (.agg [(.sc (.int Go.IntKind.i64 (0))), (.sc (.int Go.IntKind.i64 (1))), (.sc (.int Go.IntKind.i64 (2)))]), (.agg [(.sc (.int Go.IntKind.i64 (1))), (.sc (.int Go.IntKind.i64 (0))), (.sc (.int Go.IntKind.i64 (3)))]), (.agg [(.sc (.int Go.IntKind.i64 (1))), (.sc (.int Go.IntKind.i64 (1))), (.sc (.int Go.IntKind.i64 (4)))]), (.agg [(.sc (.int Go.IntKind.i64 (2))), (.sc (.int Go.IntKind.i64 (0))), (.sc (.int Go.IntKind.i64 (5)))]), (.agg [(.sc (.int Go.IntKind.i64 (2))), (.sc (.int Go.IntKind.i64 (1))), (.sc (.int Go.IntKind.i64 (6)))]), (.agg [(.sc (.int Go.IntKind.i64 (3))), (.sc (.int Go.IntKind.i64 (0))), (.sc (.int Go.IntKind.i64 (3)))]), (.agg [(.sc (.int Go.IntKind.i64 (3))), (.sc (.int Go.IntKind.i64 (1))), (.sc (.int Go.IntKind.i64 (7)))]), (.agg [(.sc (.int Go.IntKind.i64 (4))), (.sc (.int Go.IntKind.i64 (0))), (.sc (.int Go.IntKind.i64 (8)))]), (.agg [(.sc (.int Go.IntKind.i64 (4))), (.sc (.int Go.IntKind.i64 (1))), (.sc (.int Go.IntKind.i64 (9)))]), (.agg [(.sc (.int Go.IntKind.i64 (5))), (.sc (.int Go.IntKind.i64 (0))), (.sc (.int Go.IntKind.i64 (10)))]), (.agg [(.sc (.int Go.IntKind.i64 (5))), (.sc (.int Go.IntKind.i64 (1))), (.sc (.int Go.IntKind.i64 (4)))])]), (.sc (.bool false))]), k71, k144], [(.ret (.tuple [(.sc (.int Go.IntKind.i64 (0))), (.sc (.bool false))]))]⟩
noncomputable def F213 : Abs.FTab := F212.memoT [m213]
def m214 : Abs.Mem :=
  ⟨77, [k112, k83], [(.ret (.tuple [(.agg [(.sc (.int Go.IntKind.i64 (0))), (.sc (.slice none 0 0))]), (.sc (.int Go.IntKind.i64 (4)))]))]⟩
noncomputable def F214 : Abs.FTab := F213.memo [m214]
def m215 : Abs.Mem :=
  ⟨80, [k64, k115, (.sc (.int Go.IntKind.i64 (1)))], [(.ret (.tuple [(.agg [(.sc (.slice none 0 0)), (.sc (.slice none 0 0)), (.sc (.int Go.IntKind.i64 (0))), (.sc (.slice none 0 0))]), (.sc (.bool false)), (.sc (.int Go.IntKind.i64 (0)))]))]⟩
noncomputable def F215 : Abs.FTab := F214.memo [m215]
def m216 : Abs.Mem :=
  ⟨77, [k122, k28], [(.ret (.tuple [k122, (.sc (.int Go.IntKind.i64 (0)))]))]⟩
noncomputable def F216 : Abs.FTab := F215.memo [m216]
def m217 : Abs.Mem :=
  ⟨139, [k122, (.sc (.bool true)), (.func (.func 175) [] [])], [(.ret (.tuple [k122, (.sc (.int Go.IntKind.i64 (0)))]))]⟩
noncomputable def F217 : Abs.FTab := F216.memo [m217]
def m218 : Abs.Mem :=
  ⟨123, [k122, (.iptr [(.sc (.int Go.IntKind.i64 (2))), (.data 4 true []), (.data 3 true []), (.sc (.slice none 0 0)), k63]), (.iptr [(.data 1 false [(.sc (.int Go.IntKind.i64 (1))), (.sc (.int Go.IntKind.i64 (0)))]), (.data 1 false [])])], [(.ret (.tuple [k122, (.sc (.int Go.IntKind.i64 (0)))]))]⟩
noncomputable def F218 : Abs.FTab := F217.memo [m218]
def m219 : Abs.Mem :=
  ⟨80, [k64, k123, (.sc (.int Go.IntKind.i64 (0)))], [(.ret (.tuple [k123, (.sc (.bool true)), (.sc (.int Go.IntKind.i64 (0)))]))]⟩
noncomputable def F219 : Abs.FTab := F218.memo [m219]
def k145 : Abs.AVal := .agg [(.data 1 false [(.sc (.int Go.IntKind.i64 (1))), (.sc (.int Go.IntKind.i64 (0)))]), (.data 1 true []), (.sc (.int Go.IntKind.i64 (2))), k67, (.sc (.int Go.IntKind.i64 (6))), (.sc (.int Go.IntKind.i64 (0)))]
def k146 : Abs.AVal := .data 6 false [k99, k100, k101, k102, k108, k116, k117, k127, k135, k139, k142, k145]
def m220 : Abs.Mem :=
  ⟨34, [(.iptr [k146, (.data 3 false [(.agg [(.sc (.int Go.IntKind.i64 (0))), (.sc (.int Go.IntKind.i64 (0))), (.sc (.int Go.IntKind.i64 (1)))]), (.agg [(.sc (.int Go.IntKind.i64 (0))), (.sc (.int Go.IntKind.i64 (1))), (.sc (.int Go.IntKind.i64 (2)))]), (.agg [(.sc (.int Go.IntKind.i64 (1))), (.sc (.int Go.IntKind.i64 (0))), (.sc (.int Go.IntKind.i64 (3)))]), (.agg [(.sc (.int Go.IntKind.i64 (1))), (.sc (.int Go.IntKind.i64 (1))), (.sc (.int Go.IntKind.i64 (4)))]), (.agg [(.sc (.int Go.IntKind.i64 (2))), (.sc (.int Go.IntKind.i64 (0))), (.sc (.int Go.IntKind.i64 (5)))]), (.agg [(.sc (.int Go.IntKind.i64 (2))), (.sc (.int Go.IntKind.i64 (1))), (.sc (.int Go.IntKind.i64 (6)))]), (.agg [(.sc (.int Go.IntKind.i64 (3))), (.sc (.int Go.IntKind.i64 (0))), (.sc (.int Go.IntKind.i64 (3)))]), (.agg [(.sc (.int Go.IntKind.i64 (3))), (.sc (.int Go.IntKind.i64 (1))), (.sc (.int Go.IntKind.i64 (7)))]), (.agg [(.sc (.int Go.IntKind.i64 (4))), (.sc (.int Go.IntKind.i64 (0))), (.sc (.int Go.IntKind.i64 (8)))]), (.agg [(.sc (.int Go.IntKind.i64 (4))), (.sc (.int Go.IntKind.i64 (1))), (.sc (.int Go.IntKind.i64 (9)))]), (.agg [(.sc (.int Go.IntKind.i64 (5))), (.sc (.int Go.IntKind.i64 (0))), (.sc (.int Go.IntKind.i64 (10)))]), (.agg [(.sc (.int Go.IntKind.i64 (5))), (.sc (.int Go.IntKind.i64 (1))), (.sc (.int Go.IntKind.i64 (4)))]), (.agg [(.sc (.int Go.IntKind.i64 (6))), (.sc (.int Go.IntKind.i64 (0))), (.sc (.int Go.IntKind.i64 (11)))])]), (.sc (.bool false))]), k71, k123], [(.ret (.tuple [(.sc (.int Go.IntKind.i64 (7))), (.sc (.bool true))]))]⟩
noncomputable def F220 : Abs.FTab := F219.memoT [m220]
def k147 : Abs.AVal := .data 1 false [(.sc (.int Go.IntKind.i64 (1))), (.sc (.int Go.IntKind.i64 (-8))), (.sc (.int Go.IntKind.i64 (-1))), (.sc (.int Go.IntKind.i64 (1099511627776))), (.sc (.int Go.IntKind.i64 (1))), (.sc (.int Go.IntKind.i64 (1099511627776))), (.sc (.int Go.IntKind.i64 (1099511627776))), (.sc (.int Go.IntKind.i64 (-6))), (.sc (.int Go.IntKind.i64 (1)))]
def k148 : Abs.AVal := .agg [(.sc (.int Go.IntKind.i64 (2))), k147]
def m221 : Abs.Mem :=
  ⟨77, [k122, k83], [(.ret (.tuple [k148, (.sc (.int Go.IntKind.i64 (0)))]))]⟩
noncomputable def F221 : Abs.FTab := F220.memo [m221]
def m222 : Abs.Mem :=
  ⟨128, [k148], [(.ret (.sc (.int Go.IntKind.i64 (0))))]⟩
noncomputable def F222 : Abs.FTab := F221.memo [m222]
def k149 : Abs.AVal := .data 1 false [(.sc (.int Go.IntKind.i64 (1))), (.sc (.int Go.IntKind.i64 (-8))), (.sc (.int Go.IntKind.i64 (1))), (.sc (.int Go.IntKind.i64 (1099511627776))), (.sc (.int Go.IntKind.i64 (1))), (.sc (.int Go.IntKind.i64 (1099511627776))), (.sc (.int Go.IntKind.i64 (1))), (.sc (.int Go.IntKind.i64 (-8))), (.sc (.int Go.IntKind.i64 (1)))]
def k150 : Abs.AVal := .agg [(.sc (.int Go.IntKind.i64 (2))), k149]
def m223 : Abs.Mem :=
  ⟨190, [k148, (.sc (.int Go.IntKind.i64 (2))), (.sc (.int Go.IntKind.i64 (0)))], [(.ret (.tuple [k150, (.sc (.int Go.IntKind.i64 (0)))]))]⟩
noncomputable def F223 : Abs.FTab := F222.memo [m223]
def m224 : Abs.Mem :=
  ⟨128, [k150], [(.ret (.sc (.int Go.IntKind.i64 (0))))]⟩
noncomputable def F224 : Abs.FTab := F223.memo [m224]
def m225 : Abs.Mem :=
  ⟨77, [k150, (.sc (.slice none 0 0))], [(.ret (.tuple [k150, (.sc (.int Go.IntKind.i64 (0)))]))]⟩
noncomputable def F225 : Abs.FTab := F224.memo [m225]
def k151 : Abs.AVal := .data 1 false [(.sc (.int Go.IntKind.i64 (1))), (.sc (.int Go.IntKind.i64 (-8))), (.sc (.int Go.IntKind.i64 (1))), (.sc (.int Go.IntKind.i64 (1099511627776))), (.sc (.int Go.IntKind.i64 (1))), (.sc (.int Go.IntKind.i64 (1099511627776))), (.sc (.int Go.IntKind.i64 (1099511627776))), (.sc (.int Go.IntKind.i64 (-8))), (.sc (.int Go.IntKind.i64 (1)))]
def k152 : Abs.AVal := .agg [(.sc (.int Go.IntKind.i64 (2))), k151]
def m226 : Abs.Mem :=
  ⟨139, [k150, (.sc (.bool true)), (.func (.func 175) [] [])], [(.ret (.tuple [k152, (.sc (.int Go.IntKind.i64 (0)))]))]⟩
noncomputable def F226 : Abs.FTab := F225.memo [m226]
def m227 : Abs.Mem :=
  ⟨128, [k152], [(.ret (.sc (.int Go.IntKind.i64 (0))))]⟩
noncomputable def F227 : Abs.FTab := F226.memo [m227]
def m228 : Abs.Mem :=
  ⟨77, [k152, (.sc (.slice none 0 0))], [(.ret (.tuple [k152, (.sc (.int Go.IntKind.i64 (0)))]))]⟩
noncomputable def F228 : Abs.FTab := F227.memo [m228]
def m229 : Abs.Mem :=
  ⟨123, [k150, (.iptr [(.sc (.int Go.IntKind.i64 (2))), (.data 4 true []), (.data 3 true []), (.sc (.slice none 0 0)), k63]), (.iptr [(.data 1 false [(.sc (.int Go.IntKind.i64 (1))), (.sc (.int Go.IntKind.i64 (0)))]), (.data 1 false [])])], [(.ret (.tuple [k152, (.sc (.int Go.IntKind.i64 (0)))]))]⟩
noncomputable def F229 : Abs.FTab := F228.memo [m229]
def k153 : Abs.AVal := .agg [(.data 1 false [(.sc (.int Go.IntKind.i64 (1))), (.sc (.int Go.IntKind.i64 (0)))]), (.data 1 true []), (.sc (.int Go.IntKind.i64 (2))), k151]
def m230 : Abs.Mem :=
  ⟨80, [k64, k123, (.sc (.int Go.IntKind.i64 (1)))], [(.ret (.tuple [k153, (.sc (.bool true)), (.sc (.int Go.IntKind.i64 (0)))]))]⟩
noncomputable def F230 : Abs.FTab := F229.memo [m230]
def m231 : Abs.Mem :=
  ⟨30, [k64, k71, k153], [(.ret (.tuple [k123, (.sc (.int Go.IntKind.i64 (0)))]))]⟩
noncomputable def F231 : Abs.FTab := F230.memo [m231]
def m232 : Abs.Mem :=
  ⟨34, [(.iptr [k146, (.data 3 false [(.agg [(.sc (.int Go.IntKind.i64 (0))), (.sc (.int Go.IntKind.i64 (0))), (.sc (.int Go.IntKind.i64 (1)))]), (.agg [(.sc (.int Go.IntKind.i64 (0))), (.sc (.int Go.IntKind.i64 (1))), (.sc (.int Go.IntKind.i64 (2)))]), (.agg [(.sc (.int Go.IntKind.i64 (1))), (.sc (.int Go.IntKind.i64 (0))), (.sc (.int Go.IntKind.i64 (3)))]), (.agg [(.sc (.int Go.IntKind.i64 (1))), (.sc (.int Go.IntKind.i64 (1))), (.sc (.int Go.IntKind.i64 (4)))]), (.agg [(.sc (.int Go.IntKind.i64 (2))), (.sc (.int Go.IntKind.i64 (0))), (.sc (.int Go.IntKind.i64 (5)))]), (.agg [(.sc (.int Go.IntKind.i64 (2))), (.sc (.int Go.IntKind.i64 (1))), (.sc (.int Go.IntKind.i64 (6)))]), (.agg [(.sc (.int Go.IntKind.i64 (3))), (.sc (.int Go.IntKind.i64 (0))), (.sc (.int Go.IntKind.i64 (3)))]), (.agg [(.sc (.int Go.IntKind.i64 (3))), (.sc (.int Go.IntKind.i64 (1))), (.sc (.int Go.IntKind.i64 (7)))]), (.agg [(.sc (.int Go.IntKind.i64 (4))), (.sc (.int Go.IntKind.i64 (0))), (.sc (.int Go.IntKind.i64 (8)))]), (.agg [(.sc (.int Go.IntKind.i64 (4))), (.sc (.int Go.IntKind.i64 (1))), (.sc (.int Go.IntKind.i64 (9)))]), (.agg [(.sc (.int Go.IntKind.i64 (5))), (.sc (.int Go.IntKind.i64 (0))), (.sc (.int Go.IntKind.i64 (10)))]), (.agg [(.sc (.int Go.IntKind.i64 (5))), (.sc (.int Go.IntKind.i64 (1))), (.sc (.int Go.IntKind.i64 (4)))]), (.agg [(.sc (.int Go.IntKind.i64 (6))), (.sc (.int Go.IntKind.i64 (0))), (.sc (.int Go.IntKind.i64 (11)))]), (.agg [(.sc (.int Go.IntKind.i64 (7))), (.sc (.int Go.IntKind.i64 (0))), (.sc (.int Go.IntKind.i64 (7)))])]), (.sc (.bool false))]), k71, k123], [(.ret (.tuple [(.sc (.int Go.IntKind.i64 (7))), (.sc (.bool true))]))]⟩
noncomputable def F232 : Abs.FTab := F231.memoT [m232]
def m233 : Abs.Mem :=
  ⟨77, [k125, k28], [(.ret (.tuple [k125, (.sc (.int Go.IntKind.i64 (0)))]))]⟩
noncomputable def F233 : Abs.FTab := F232.memo [m233]
def m234 : Abs.Mem :=
  ⟨80, [k64, k126, (.sc (.int Go.IntKind.i64 (0)))], [(.ret (.tuple [k126, (.sc (.bool true)), (.sc (.int Go.IntKind.i64 (0)))]))]⟩
noncomputable def F234 : Abs.FTab := F233.memo [m234]
def m235 : Abs.Mem :=
  ⟨34, [(.iptr [k146, (.data 3 false [(.agg [(.sc (.int Go.IntKind.i64 (0))), (.sc (.int Go.IntKind.i64 (0))), (.sc (.int Go.IntKind.i64 (1)))]), (.agg [(.sc (.int Go.IntKind.i64 (0))), (.sc (.int Go.IntKind.i64 (1))), (.sc (.int Go.IntKind.i64 (2)))]), (.agg [(.sc (.int Go.IntKind.i64 (1))), (.sc (.int Go.IntKind.i64 (0))), (.sc (.int Go.IntKind.i64 (3)))]), (.agg [(.sc (.int Go.IntKind.i64 (1))), (.sc (.int Go.IntKind.i64 (1))), (.sc (.int Go.IntKind.i64 (4)))]), (.agg [(.sc (.int Go.IntKind.i64 (2))), (.sc (.int Go.IntKind.i64 (0))), (.sc (.int Go.IntKind.i64 (5)))]), (.agg [(.sc (.int Go.IntKind.i64 (2))), (.sc (.int Go.IntKind.i64 (1))), (.sc (.int Go.IntKind.i64 (6)))]), (.agg [(.sc (.int Go.IntKind.i64 (3))), (.sc (.int Go.IntKind.i64 (0))), (.sc (.int Go.IntKind.i64 (3)))]), (.agg [(.sc (.int Go.IntKind.i64 (3))), (.sc (.int Go.IntKind.i64 (1))), (.sc (.int Go.IntKind.i64 (7)))]), (.agg [(.sc (.int Go.IntKind.i64 (4))), (.sc (.int Go.IntKind.i64 (0))), (.sc (.int Go.IntKind.i64 (8)))]), (.agg [(.sc (.int Go.IntKind.i64 (4))), (.sc (.int Go.IntKind.i64 (1))), (.sc (.int Go.IntKind.i64 (9)))]), (.agg [(.sc (.int Go.IntKind.i64 (5))), (.sc (.int Go.IntKind.i64 (0))), (.sc (.int Go.IntKind.i64 (10)))]), (.agg [(.sc (.int Go.IntKind.i64 (5))), (.sc (.int Go.IntKind.i64 (1))), (.sc (.int Go.IntKind.i64 (4)))]), (.agg [(.sc (.int Go.IntKind.i64 (6))), (.sc (.int Go.IntKind.i64 (0))), (.sc (.int Go.IntKind.i64 (11)))]), (.agg [(.sc (.int Go.IntKind.i64 (7))), (.sc (.int Go.IntKind.i64 (0))), (.sc (.int Go.IntKind.i64 (7)))]), (.agg [(.sc (.int Go.IntKind.i64 (7))), (.sc (.int Go.IntKind.i64 (1))), (.sc (.int Go.IntKind.i64 (7)))])]), (.sc (.bool false))]), k71, k126], [(.ret (.tuple [(.sc (.int Go.IntKind.i64 (8))), (.sc (.bool true))]))]⟩
noncomputable def F235 : Abs.FTab := F234.memoT [m235]
def k154 : Abs.AVal := .data 1 false [(.sc (.int Go.IntKind.i64 (1))), (.sc (.int Go.IntKind.i64 (-6))), (.sc (.int Go.IntKind.i64 (-1))), (.sc (.int Go.IntKind.i64 (1099511627776))), (.sc (.int Go.IntKind.i64 (1))), (.sc (.int Go.IntKind.i64 (1099511627776))), (.sc (.int Go.IntKind.i64 (1099511627776))), (.sc (.int Go.IntKind.i64 (1))), (.sc (.int Go.IntKind.i64 (1)))]
def k155 : Abs.AVal := .agg [(.sc (.int Go.IntKind.i64 (2))), k154]
def m236 : Abs.Mem :=
  ⟨77, [k125, k83], [(.ret (.tuple [k155, (.sc (.int Go.IntKind.i64 (0)))]))]⟩
noncomputable def F236 : Abs.FTab := F235.memo [m236]
def m237 : Abs.Mem :=
  ⟨128, [k155], [(.ret (.sc (.int Go.IntKind.i64 (0))))]⟩
noncomputable def F237 : Abs.FTab := F236.memo [m237]
def m238 : Abs.Mem :=
  ⟨190, [k155, (.sc (.int Go.IntKind.i64 (2))), (.sc (.int Go.IntKind.i64 (0)))], [(.ret (.tuple [k120, (.sc (.int Go.IntKind.i64 (0)))]))]⟩
noncomputable def F238 : Abs.FTab := F237.memo [m238]
def m239 : Abs.Mem :=
  ⟨80, [k64, k126, (.sc (.int Go.IntKind.i64 (1)))], [(.ret (.tuple [k123, (.sc (.bool true)), (.sc (.int Go.IntKind.i64 (0)))]))]⟩
noncomputable def F239 : Abs.FTab := F238.memo [m239]
def m240 : Abs.Mem :=
  ⟨34, [(.iptr [k146, (.data 3 false [(.agg [(.sc (.int Go.IntKind.i64 (0))), (.sc (.int Go.IntKind.i64 (0))), (.sc (.int Go.IntKind.i64 (1)))]), (.agg [(.sc (.int Go.IntKind.i64 (0))), (.sc (.int Go.IntKind.i64 (1))), (.sc (.int Go.IntKind.i64 (2)))]), (.agg [(.sc (.int Go.IntKind.i64 (1))), (.sc (.int Go.IntKind.i64 (0))), (.sc (.int Go.IntKind.i64 (3)))]), (.agg [(.sc (.int Go.IntKind.i64 (1))), (.sc (.int Go.IntKind.i64 (1))), (.sc (.int Go.IntKind.i64 (4)))]), (.agg [(.sc (.int Go.IntKind.i64 (2))), (.sc (.int Go.IntKind.i64 (0))), (.sc (.int Go.IntKind.i64 (5)))]), (.agg [(.sc (.int Go.IntKind.i64 (2))), (.sc (.int Go.IntKind.i64 (1))), (.sc (.int Go.IntKind.i64 (6)))]), (.agg [(.sc (.int Go.IntKind.i64 (3))), (.sc (.int Go.IntKind.i64 (0))), (.sc (.int Go.IntKind.i64 (3)))]), (.agg [(.sc (.int Go.IntKind.i64 (3))), (.sc (.int Go.IntKind.i64 (1))), (.sc (.int Go.IntKind.i64 (7)))]), (.agg [(.sc (.int Go.IntKind.i64 (4))), (.sc (.int Go.IntKind.i64 (0))), (.sc (.int Go.IntKind.i64 (8)))]), (.agg [(.sc (.int Go.IntKind.i64 (4))), (.sc (.int Go.IntKind.i64 (1))), (.sc (.int Go.IntKind.i64 (9)))]), (.agg [(.sc (.int Go.IntKind.i64 (5))), (.sc (.int Go.IntKind.i64 (0))), (.sc (.int Go.IntKind.i64 (10)))]), (.agg [(.sc (.int Go.IntKind.i64 (5))), (.sc (.int Go.IntKind.i64 (1))), (.sc (.int Go.IntKind.i64 (4)))]), (.agg [(.sc (.int Go.IntKind.i64 (6))), (.sc (.int Go.IntKind.i64 (0))), (.sc (.int Go.IntKind.i64 (11)))]), (.agg [(.sc (.int Go.IntKind.i64 (7))), (.sc (.int Go.IntKind.i64 (0))), (.sc (.int Go.IntKind.i64 (7)))]), (.agg [(.sc (.int Go.IntKind.i64 (7))), (.sc (.int Go.IntKind.i64 (1))), (.sc (.int Go.IntKind.i64 (7)))]), (.agg [(.sc (.int Go.IntKind.i64 (8))), (.sc (.int Go.IntKind.i64 (0))), (.sc (.int Go.IntKind.i64 (8)))])]), (.sc (.bool false))]), k71, k123], [(.ret (.tuple [(.sc (.int Go.IntKind.i64 (7))), (.sc (.bool true))]))]⟩
noncomputable def F240 : Abs.FTab := F239.memoT [m240]
def k156 : Abs.AVal := .data 1 false [(.sc (.int Go.IntKind.i64 (1))), (.sc (.int Go.IntKind.i64 (-6))), (.sc (.int Go.IntKind.i64 (1))), (.sc (.int Go.IntKind.i64 (1099511627776))), (.sc (.int Go.IntKind.i64 (1))), (.sc (.int Go.IntKind.i64 (1099511627776))), (.sc (.int Go.IntKind.i64 (1099511627776))), (.sc (.int Go.IntKind.i64 (-1))), (.sc (.int Go.IntKind.i64 (1)))]
def k157 : Abs.AVal := .agg [(.sc (.int Go.IntKind.i64 (2))), k156]
def m241 : Abs.Mem :=
  ⟨77, [k133, k28], [(.ret (.tuple [k157, (.sc (.int Go.IntKind.i64 (0)))]))]⟩
noncomputable def F241 : Abs.FTab := F240.memo [m241]
def m242 : Abs.Mem :=
  ⟨128, [k157], [(.ret (.sc (.int Go.IntKind.i64 (0))))]⟩
noncomputable def F242 : Abs.FTab := F241.memo [m242]
def m243 : Abs.Mem :=
  ⟨77, [k157, (.sc (.slice none 0 0))], [(.ret (.tuple [k157, (.sc (.int Go.IntKind.i64 (0)))]))]⟩
noncomputable def F243 : Abs.FTab := F242.memo [m243]
def m244 : Abs.Mem :=
  ⟨139, [k157, (.sc (.bool true)), (.func (.func 175) [] [])], [(.ret (.tuple [k157, (.sc (.int Go.IntKind.i64 (0)))]))]⟩
noncomputable def F244 : Abs.FTab := F243.memo [m244]
def m245 : Abs.Mem :=
  ⟨123, [k157, (.iptr [(.sc (.int Go.IntKind.i64 (2))), (.data 4 true []), (.data 3 true []), (.sc (.slice none 0 0)), k63]), (.iptr [(.data 1 false [(.sc (.int Go.IntKind.i64 (1))), (.sc (.int Go.IntKind.i64 (0)))]), (.data 1 false [])])], [(.ret (.tuple [k157, (.sc (.int Go.IntKind.i64 (0)))]))]⟩
noncomputable def F245 : Abs.FTab := F244.memo [m245]
def k158 : Abs.AVal := .agg [(.data 1 false [(.sc (.int Go.IntKind.i64 (1))), (.sc (.int Go.IntKind.i64 (0)))]), (.data 1 true []), (.sc (.int Go.IntKind.i64 (2))), k156]
def m246 : Abs.Mem :=
  ⟨80, [k64, k134, (.sc (.int Go.IntKind.i64 (0)))], [(.ret (.tuple [k158, (.sc (.bool true)), (.sc (.int Go.IntKind.i64 (0)))]))]⟩
noncomputable def F246 : Abs.FTab := F245.memo [m246]
def m247 : Abs.Mem :=
  ⟨30, [k64, k71, k158], [(.ret (.tuple [k158, (.sc (.int Go.IntKind.i64 (0)))]))]⟩
noncomputable def F247 : Abs.FTab := F246.memo [m247]
def m248 : Abs.Mem :=
  ⟨41, [k64, k158], [(.ret (.sc (.int Go.IntKind.i64 (0))))]⟩
noncomputable def F248 : Abs.FTab := F247.memo [m248]
def m249 : Abs.Mem :=
  ⟨34, [(.iptr [k146, (.data 3 false [(.agg [(.sc (.int Go.IntKind.i64 (0))), (.sc (.int Go.IntKind.i64 (0))), (.sc (.int Go.IntKind.i64 (1)))]), (.agg [(.sc (.int Go.IntKind.i64 (0))), (.sc (.int Go.IntKind.i64 (1))), (.sc (.int Go.IntKind.i64 (2)))]), (.agg [(.sc (.int Go.IntKind.i64 (1))), (.sc (.int Go.IntKind.i64 (0))), (.sc (.int Go.IntKind.i64 (3)))]), (.agg [(.sc (.int Go.IntKind.i64 (1))), (.sc (.int Go.IntKind.i64 (1))), (.sc (.int Go.IntKind.i64 (4)))]), (.agg [(.sc (.int Go.IntKind.i64 (2))), (.sc (.int Go.IntKind.i64 (0))), (.sc (.int Go.IntKind.i64 (5)))]), (.agg [(.sc (.int Go.IntKind.i64 (2))), (.sc (.int Go.IntKind.i64 (1))), (.sc (.int Go.IntKind.i64 (6)))]), (.agg [(.sc (.int Go.IntKind.i64 (3))), (.sc (.int Go.IntKind.i64 (0))), (.sc (.int Go.IntKind.i64 (3)))]), (.agg [(.sc (.int Go.IntKind.i64 (3))), (.sc (.int Go.IntKind.i64 (1))), (.sc (.int Go.IntKind.i64 (7)))]), (.agg [(.sc (.int Go.IntKind.i64 (4))), (.sc (.int Go.IntKind.i64 (0))), (.sc (.int Go.IntKind.i64 (8)))]), (.agg [(.sc (.int Go.IntKind.i64 (4))), (.sc (.int Go.IntKind.i64 (1))), (.sc (.int Go.IntKind.i64 (9)))]), (.agg [(.sc (.int Go.IntKind.i64 (5))), (.sc (.int Go.IntKind.i64 (0))), (.sc (.int Go.IntKind.i64 (10)))]), (.agg [(.sc (.int Go.IntKind.i64 (5))), (.sc (.int Go.IntKind.i64 (1))), (.sc (.int Go.IntKind.i64 (4)))]), (.agg [(.sc (.int Go.IntKind.i64 (6))), (.sc (.int Go.IntKind.i64 (0))), (.sc (.int Go.IntKind.i64 (11)))]), (.agg [(.sc (.int Go.IntKind.i64 (7))), (.sc (.int Go.IntKind.i64 (0))), (.sc (.int Go.IntKind.i64 (7)))]), (.agg [(.sc (.int Go.IntKind.i64 (7))), (.sc (.int Go.IntKind.i64 (1))), (.sc (.int Go.IntKind.i64 (7)))]), (.agg [(.sc (.int Go.IntKind.i64 (8))), (.sc (.int Go.IntKind.i64 (0))), (.sc (.int Go.IntKind.i64 (8)))]), (.agg [(.sc (.int Go.IntKind.i64 (8))), (.sc (.int Go.IntKind.i64 (1))), (.sc (.int Go.IntKind.i64 (7)))])]), (.sc (.bool false))]), k71, k158], [(.ret (.tuple [(.sc (.int Go.IntKind.i64 (0))), (.sc (.bool false))]))]⟩
noncomputable def F249 : Abs.FTab := F248.memoT [m249]
def k159 : Abs.AVal := .data 1 false [(.sc (.int Go.IntKind.i64 (1))), (.sc (.int Go.IntKind.i64 (-3))), (.sc (.int Go.IntKind.i64 (-1))), (.sc (.int Go.IntKind.i64 (1099511627776))), (.sc (.int Go.IntKind.i64 (1))), (.sc (.int Go.IntKind.i64 (1099511627776))), (.sc (.int Go.IntKind.i64 (1099511627776))), (.sc (.int Go.IntKind.i64 (-1))), (.sc (.int Go.IntKind.i64 (1)))]
def k160 : Abs.AVal := .agg [(.sc (.int Go.IntKind.i64 (2))), k159]
def m250 : Abs.Mem :=
  ⟨77, [k133, k83], [(.ret (.tuple [k160, (.sc (.int Go.IntKind.i64 (0)))]))]⟩
noncomputable def F250 : Abs.FTab := F249.memo [m250]
def m251 : Abs.Mem :=
  ⟨128, [k160], [(.ret (.sc (.int Go.IntKind.i64 (0))))]⟩
noncomputable def F251 : Abs.FTab := F250.memo [m251]
def k161 : Abs.AVal := .data 1 false [(.sc (.int Go.IntKind.i64 (1))), (.sc (.int Go.IntKind.i64 (-3))), (.sc (.int Go.IntKind.i64 (1))), (.sc (.int Go.IntKind.i64 (1099511627776))), (.sc (.int Go.IntKind.i64 (1))), (.sc (.int Go.IntKind.i64 (1099511627776))), (.sc (.int Go.IntKind.i64 (1))), (.sc (.int Go.IntKind.i64 (-3))), (.sc (.int Go.IntKind.i64 (1)))]
def k162 : Abs.AVal := .agg [(.sc (.int Go.IntKind.i64 (2))), k161]
def m252 : Abs.Mem :=
  ⟨190, [k160, (.sc (.int Go.IntKind.i64 (2))), (.sc (.int Go.IntKind.i64 (0)))], [(.ret (.tuple [k162, (.sc (.int Go.IntKind.i64 (0)))]))]⟩
noncomputable def F252 : Abs.FTab := F251.memo [m252]
def m253 : Abs.Mem :=
  ⟨128, [k162], [(.ret (.sc (.int Go.IntKind.i64 (0))))]⟩
noncomputable def F253 : Abs.FTab := F252.memo [m253]
def m254 : Abs.Mem :=
  ⟨77, [k162, (.sc (.slice none 0 0))], [(.ret (.tuple [k162, (.sc (.int Go.IntKind.i64 (0)))]))]⟩
noncomputable def F254 : Abs.FTab := F253.memo [m254]
def k163 : Abs.AVal := .data 1 false [(.sc (.int Go.IntKind.i64 (1))), (.sc (.int Go.IntKind.i64 (-3))), (.sc (.int Go.IntKind.i64 (1))), (.sc (.int Go.IntKind.i64 (1099511627776))), (.sc (.int Go.IntKind.i64 (1))), (.sc (.int Go.IntKind.i64 (1099511627776))), (.sc (.int Go.IntKind.i64 (1099511627776))), (.sc (.int Go.IntKind.i64 (-3))), (.sc (.int Go.IntKind.i64 (1)))]
def k164 : Abs.AVal := .agg [(.sc (.int Go.IntKind.i64 (2))), k163]
def m255 : Abs.Mem :=
  ⟨139, [k162, (.sc (.bool true)), (.func (.func 175) [] [])], [(.ret (.tuple [k164, (.sc (.int Go.IntKind.i64 (0)))]))]⟩
noncomputable def F255 : Abs.FTab := F254.memo [m255]
def m256 : Abs.Mem :=
  ⟨128, [k164], [(.ret (.sc (.int Go.IntKind.i64 (0))))]⟩
noncomputable def F256 : Abs.FTab := F255.memo [m256]
def m257 : Abs.Mem :=
  ⟨77, [k164, (.sc (.slice none 0 0))], [(.ret (.tuple [k164, (.sc (.int Go.IntKind.i64 (0)))]))]⟩
noncomputable def F257 : Abs.FTab := F256.memo [m257]
def m258 : Abs.Mem :=
  ⟨123, [k162, (.iptr [(.sc (.int Go.IntKind.i64 (2))), (.data 4 true []), (.data 3 true []), (.sc (.slice none 0 0)), k63]), (.iptr [(.data 1 false [(.sc (.int Go.IntKind.i64 (1))), (.sc (.int Go.IntKind.i64 (0)))]), (.data 1 false [])])], [(.ret (.tuple [k164, (.sc (.int Go.IntKind.i64 (0)))]))]⟩
noncomputable def F258 : Abs.FTab := F257.memo [m258]
def k165 : Abs.AVal := .agg [(.data 1 false [(.sc (.int Go.IntKind.i64 (1))), (.sc (.int Go.IntKind.i64 (0)))]), (.data 1 true []), (.sc (.int Go.IntKind.i64 (2))), k163]
def m259 : Abs.Mem :=
  ⟨80, [k64, k134, (.sc (.int Go.IntKind.i64 (1)))], [(.ret (.tuple [k165, (.sc (.bool true)), (.sc (.int Go.IntKind.i64 (0)))]))]⟩
noncomputable def F259 : Abs.FTab := F258.memo [m259]
def m260 : Abs.Mem :=
  ⟨30, [k64, k71, k165], [(.ret (.tuple [k165, (.sc (.int Go.IntKind.i64 (0)))]))]⟩
noncomputable def F260 : Abs.FTab := F259.memo [m260]
def m261 : Abs.Mem :=
  ⟨41, [k64, k165], [(.ret (.sc (.int Go.IntKind.i64 (0))))]⟩
noncomputable def F261 : Abs.FTab := F260.memo [m261]
def k166 : Abs.AVal := .agg [(.data 1 false [(.sc (.int Go.IntKind.i64 (1))), (.sc (.int Go.IntKind.i64 (0)))]), (.data 1 true []), (.sc (.int Go.IntKind.i64 (2))), k156, (.sc (.int Go.IntKind.i64 (9))), (.sc (.int Go.IntKind.i64 (0)))]
def m262 : Abs.Mem :=
  ⟨34, [(.iptr [(.data 6 false [k99, k100, k101, k102, k108, k116, k117, k127, k135, k139, k142, k145, k166]), (.data 3 false [(.agg [(.sc (.int Go.IntKind.i64 (0))), (.sc (.int Go.IntKind.i64 (0))), (.sc (.int Go.IntKind.i64 (1)))]), (.agg [(.sc (.int Go.IntKind.i64 (0))), (.sc (.int Go.IntKind.i64 (1))), (.sc (.int Go.IntKind.i64 (2)))]), (.agg [(.sc (.int Go.IntKind.i64 (1))), (.sc (.int Go.IntKind.i64 (0))), (.sc (.int Go.IntKind.i64 (3)))]), (.agg [(.sc (.int Go.IntKind.i64 (1))), (.sc (.int Go.IntKind.i64 (1))), (.sc (.int Go.IntKind.i64 (4)))]), (.agg [(.sc (.int Go.IntKind.i64 (2))), (.sc (.int Go.IntKind.i64 (0))), (.sc (.int Go.IntKind.i64 (5)))]), (.agg [(.sc (.int Go.IntKind.i64 (2))), (.sc (.int Go.IntKind.i64 (1))), (.sc (.int Go.IntKind.i64 (6)))]), (.agg [(.sc (.int Go.IntKind.i64 (3))), (.sc (.int Go.IntKind.i64 (0))), (.sc (.int Go.IntKind.i64 (3)))]), (.agg [(.sc (.int Go.IntKind.i64 (3))), (.sc (.int Go.IntKind.i64 (1))), (.sc (.int Go.IntKind.i64 (7)))]), (.agg [(.sc (.int Go.IntKind.i64 (4))), (.sc (.int Go.IntKind.i64 (0))), (.sc (.int Go.IntKind.i64 (8)))]), (.agg [(.sc (.int Go.IntKind.i64 (4))), (.sc (.int Go.IntKind.i64 (1))), (.sc (.int Go.IntKind.i64 (9)))]), (.agg [(.sc (.int Go.IntKind.i64 (5))), (.sc (.int Go.IntKind.i64 (0))), (.sc (.int Go.IntKind.i64 (10)))]), (.agg [(.sc (.int Go.IntKind.i64 (5))), (.sc (.int Go.IntKind.i64 (1))), (.sc (.int Go.IntKind.i64 (4)))]), (.agg [(.sc (.int Go.IntKind.i64 (6))), (.sc (.int Go.IntKind.i64 (0))), (.sc (.int Go.IntKind.i64 (11)))]), (.agg [(.sc (.int Go.IntKind.i64 (7))), (.sc (.int Go.IntKind.i64 (0))), (.sc (.int Go.IntKind.i64 (7)))]), (.agg [(.sc (.int Go.IntKind.i64 (7))), (.sc (.int Go.IntKind.i64 (1))), (.sc (.int Go.IntKind.i64 (7)))]), (.agg [(.sc (.int Go.IntKind.i64 (8))), (.sc (.int Go.IntKind.i64 (0))), (.sc (.int Go.IntKind.i64 (8)))]), (.agg [(.sc (.int Go.IntKind.i64 (8))), (.sc (.int Go.IntKind.i64 (1))), (.sc (.int Go.IntKind.i64 (7)))]), (.agg [(.sc (.int Go.IntKind.i64 (9))), (.sc (.int Go.IntKind.i64 (0))), (.sc (.int Go.IntKind.i64 (12)))])]), (.sc (.bool false))]), k71, k165], [(.ret (.tuple [(.sc (.int Go.IntKind.i64 (0))), (.sc (.bool false))]))]⟩
noncomputable def F262 : Abs.FTab := F261.memoT [m262]
def m263 : Abs.Mem :=
  ⟨77, [k137, k28], [(.ret (.tuple [k137, (.sc (.int Go.IntKind.i64 (0)))]))]⟩
noncomputable def F263 : Abs.FTab := F262.memo [m263]
def m264 : Abs.Mem :=
  ⟨80, [k64, k138, (.sc (.int Go.IntKind.i64 (0)))], [(.ret (.tuple [k138, (.sc (.bool true)), (.sc (.int Go.IntKind.i64 (0)))]))]⟩
noncomputable def F264 : Abs.FTab := F263.memo [m264]
def k167 : Abs.AVal := .agg [(.data 1 false [(.sc (.int Go.IntKind.i64 (1))), (.sc (.int Go.IntKind.i64 (0)))]), (.data 1 true []), (.sc (.int Go.IntKind.i64 (2))), k163, (.sc (.int Go.IntKind.i64 (9))), (.sc (.int Go.IntKind.i64 (1)))]
def k168 : Abs.AVal := .data 6 false [k99, k100, k101, k102, k108, k116, k117, k127, k135, k139, k142, k145, k166, k167]
def m265 : Abs.Mem :=
  ⟨34, [(.iptr [k168, (.data 3 false [(.agg [(.sc (.int Go.IntKind.i64 (0))), (.sc (.int Go.IntKind.i64 (0))), (.sc (.int Go.IntKind.i64 (1)))]), (.agg [(.sc (.int Go.IntKind.i64 (0))), (.sc (.int Go.IntKind.i64 (1))), (.sc (.int Go.IntKind.i64 (2)))]), (.agg [(.sc (.int Go.IntKind.i64 (1))), (.sc (.int Go.IntKind.i64 (0))), (.sc (.int Go.IntKind.i64 (3)))]), (.agg [(.sc (.int Go.IntKind.i64 (1))), (.sc (.int Go.IntKind.i64 (1))), (.sc (.int Go.IntKind.i64 (4)))]), (.agg [(.sc (.int Go.IntKind.i64 (2))), (.sc (.int Go.IntKind.i64 (0))), (.sc (.int Go.IntKind.i64 (5)))]), (.agg [(.sc (.int Go.IntKind.i64 (2))), (.sc (.int Go.IntKind.i64 (1))), (.sc (.int Go.IntKind.i64 (6)))]), (.agg [(.sc (.int Go.IntKind.i64 (3))), (.sc (.int Go.IntKind.i64 (0))), (.sc (.int Go.IntKind.i64 (3)))]), (.agg [(.sc (.int Go.IntKind.i64 (3))), (.sc (.int Go.IntKind.i64 (1))), (.sc (.int Go.IntKind.i64 (7)))]), (.agg [(.sc (.int Go.IntKind.i64 (4))), (.sc (.int Go.IntKind.i64 (0))), (.sc (.int Go.IntKind.i64 (8)))]), (.agg [(.sc (.int Go.IntKind.i64 (4))), (.sc (.int Go.IntKind.i64 (1))), (.sc (.int Go.IntKind.i64 (9)))]), (.agg [(.sc (.int Go.IntKind.i64 (5))), (.sc (.int Go.IntKind.i64 (0))), (.sc (.int Go.IntKind.i64 (10)))]), (.agg [(.sc (.int Go.IntKind.i64 (5))), (.sc (.int Go.IntKind.i64 (1))), (.sc (.int Go.IntKind.i64 (4)))]), (.agg [(.sc (.int Go.IntKind.i64 (6))), (.sc (.int Go.IntKind.i64 (0))), (.sc (.int Go.IntKind.i64 (11)))]), (.agg [(.sc (.int Go.IntKind.i64 (7))), (.sc (.int Go.IntKind.i64 (0))), (.sc (.int Go.IntKind.i64 (7)))]), (.agg [(.sc (.int Go.IntKind.i64 (7))), (.sc (.int Go.IntKind.i64 (1))), (.sc (.int Go.IntKind.i64 (7)))]), (.agg [(.sc (.int Go.IntKind.i64 (8))), (.sc (.int Go.IntKind.i64 (0))), (.sc (.int Go.IntKind.i64 (8)))]), (.agg [(.sc (.int Go.IntKind.i64 (8))), (.sc (.int Go.IntKind.i64 (1))), (.sc (.int Go.IntKind.i64 (7)))]), (.agg [(.sc (.int Go.IntKind.i64 (9))), (.sc (.int Go.IntKind.i64 (0))), (.sc (.int Go.IntKind.i64 (12)))]), (.agg [(.sc (.int Go.IntKind.i64 (9))), (.sc (.int Go.IntKind.i64 (1))), (.sc (.int Go.IntKind.i64 (13)))])]), (.sc (.bool false))]), k71, k138], [(.ret (.tuple [(.sc (.int Go.IntKind.i64 (10))), (.sc (.bool true))]))]⟩
noncomputable def F265 : Abs.FTab := F264.memoT [m265]
def m266 : Abs.Mem :=
  ⟨77, [k137, k83], [(.ret (.tuple [k137, (.sc (.int Go.IntKind.i64 (0)))]))]⟩
noncomputable def F266 : Abs.FTab := F265.memo [m266]
def m267 : Abs.Mem :=
  ⟨190, [k137, (.sc (.int Go.IntKind.i64 (2))), (.sc (.int Go.IntKind.i64 (0)))], [(.ret (.tuple [k120, (.sc (.int Go.IntKind.i64 (0)))]))]⟩
noncomputable def F267 : Abs.FTab := F266.memo [m267]
def m268 : Abs.Mem :=
  ⟨80, [k64, k138, (.sc (.int Go.IntKind.i64 (1)))], [(.ret (.tuple [k123, (.sc (.bool true)), (.sc (.int Go.IntKind.i64 (0)))]))]⟩
noncomputable def F268 : Abs.FTab := F267.memo [m268]
def m269 : Abs.Mem :=
  ⟨34, [(.iptr [k168, (.data 3 false [(.agg [(.sc (.int Go.IntKind.i64 (0))), (.sc (.int Go.IntKind.i64 (0))), (.sc (.int Go.IntKind.i64 (1)))]), (.agg [(.sc (.int Go.IntKind.i64 (0))), (.sc (.int Go.IntKind.i64 (1))), (.sc (.int Go.IntKind.i64 (2)))]), (.agg [(.sc (.int Go.IntKind.i64 (1))), (.sc (.int Go.IntKind.i64 (0))), (.sc (.int Go.IntKind.i64 (3)))]), (.agg [(.sc (.int Go.IntKind.i64 (1))), (.sc (.int Go.IntKind.i64 (1))), (.sc (.int Go.IntKind.i64 (4)))]), (.agg [(.sc (.int Go.IntKind.i64 (2))), (.sc (.int Go.IntKind.i64 (0))), (.sc (.int Go.IntKind.i64 (5)))]), (.agg [(.sc (.int Go.IntKind.i64 (2))), (.sc (.int Go.IntKind.i64 (1))), (.sc (.int Go.IntKind.i64 (6)))]), (.agg [(.sc (.int Go.IntKind.i64 (3))), (.sc (.int Go.IntKind.i64 (0))), (.sc (.int Go.IntKind.i64 (3)))]), (.agg [(.sc (.int Go.IntKind.i64 (3))), (.sc (.int Go.IntKind.i64 (1))), (.sc (.int Go.IntKind.i64 (7)))]), (.agg [(.sc (.int Go.IntKind.i64 (4))), (.sc (.int Go.IntKind.i64 (0))), (.sc (.int Go.IntKind.i64 (8)))]), (.agg [(.sc (.int Go.IntKind.i64 (4))), (.sc (.int Go.IntKind.i64 (1))), (.sc (.int Go.IntKind.i64 (9)))]), (.agg [(.sc (.int Go.IntKind.i64 (5))), (.sc (.int Go.IntKind.i64 (0))), (.sc (.int Go.IntKind.i64 (10)))]), (.agg [(.sc (.int Go.IntKind.i64 (5))), (.sc (.int Go.IntKind.i64 (1))), (.sc (.int Go.IntKind.i64 (4)))]), (.agg [(.sc (.int Go.IntKind.i64 (6))), (.sc (.int Go.IntKind.i64 (0))), (.sc (.int Go.IntKind.i64 (11)))]), (.agg [(.sc (.int Go.IntKind.i64 (7))), (.sc (.int Go.IntKind.i64 (0))), (.sc (.int Go.IntKind.i64 (7)))]), (.agg [(.sc (.int Go.IntKind.i64 (7))), (.sc (.int Go.IntKind.i64 (1))), (.sc (.int Go.IntKind.i64 (7)))]), (.agg [(.sc (.int Go.IntKind.i64 (8))), (.sc (.int Go.IntKind.i64 (0))), (.sc (.int Go.IntKind.i64 (8)))]), (.agg [(.sc (.int Go.IntKind.i64 (8))), (.sc (.int Go.IntKind.i64 (1))), (.sc (.int Go.IntKind.i64 (7)))]), (.agg [(.sc (.int Go.IntKind.i64 (9))), (.sc (.int Go.IntKind.i64 (0))), (.sc (.int Go.IntKind.i64 (12)))]), (.agg [(.sc (.int Go.IntKind.i64 (9))), (.sc (.int Go.IntKind.i64 (1))), (.sc (.int Go.IntKind.i64 (13)))]), (.agg [(.sc (.int Go.IntKind.i64 (10))), (.sc (.int Go.IntKind.i64 (0))), (.sc (.int Go.IntKind.i64 (10)))])]), (.sc (.bool false))]), k71, k123], [(.ret (.tuple [(.sc (.int Go.IntKind.i64 (7))), (.sc (.bool true))]))]⟩
noncomputable def F269 : Abs.FTab := F268.memoT [m269]
def k169 : Abs.AVal := .data 1 false [(.sc (.int Go.IntKind.i64 (1))), (.sc (.int Go.IntKind.i64 (-6))), (.sc (.int Go.IntKind.i64 (-6))), (.sc (.int Go.IntKind.i64 (1099511627776))), (.sc (.int Go.IntKind.i64 (1))), (.sc (.int Go.IntKind.i64 (1))), (.sc (.int Go.IntKind.i64 (1099511627776))), (.sc (.int Go.IntKind.i64 (1))), (.sc (.int Go.IntKind.i64 (1)))]
def k170 : Abs.AVal := .agg [(.sc (.int Go.IntKind.i64 (2))), k169]
def m270 : Abs.Mem :=
  ⟨77, [k68, k28], [(.ret (.tuple [k170, (.sc (.int Go.IntKind.i64 (0)))]))]⟩
noncomputable def F270 : Abs.FTab := F269.memo [m270]
def m271 : Abs.Mem :=
  ⟨128, [k170], [(.ret (.sc (.int Go.IntKind.i64 (0))))]⟩
noncomputable def F271 : Abs.FTab := F270.memo [m271]
def m272 : Abs.Mem :=
  ⟨77, [k170, (.sc (.slice none 0 0))], [(.ret (.tuple [k170, (.sc (.int Go.IntKind.i64 (0)))]))]⟩
noncomputable def F272 : Abs.FTab := F271.memo [m272]
def m273 : Abs.Mem :=
  ⟨139, [k170, (.sc (.bool true)), (.func (.func 175) [] [])], [(.ret (.tuple [k170, (.sc (.int Go.IntKind.i64 (0)))]))]⟩
noncomputable def F273 : Abs.FTab := F272.memo [m273]
def m274 : Abs.Mem :=
  ⟨123, [k170, (.iptr [(.sc (.int Go.IntKind.i64 (2))), (.data 4 true []), (.data 3 true []), (.sc (.slice none 0 0)), k63]), (.iptr [(.data 1 false [(.sc (.int Go.IntKind.i64 (1))), (.sc (.int Go.IntKind.i64 (0)))]), (.data 1 false [])])], [(.ret (.tuple [k170, (.sc (.int Go.IntKind.i64 (0)))]))]⟩
noncomputable def F274 : Abs.FTab := F273.memo [m274]
def k171 : Abs.AVal := .agg [(.data 1 false [(.sc (.int Go.IntKind.i64 (1))), (.sc (.int Go.IntKind.i64 (0)))]), (.data 1 true []), (.sc (.int Go.IntKind.i64 (2))), k169]
def m275 : Abs.Mem :=
  ⟨80, [k64, k144, (.sc (.int Go.IntKind.i64 (0)))], [(.ret (.tuple [k171, (.sc (.bool true)), (.sc (.int Go.IntKind.i64 (0)))]))]⟩
noncomputable def F275 : Abs.FTab := F274.memo [m275]
def m276 : Abs.Mem :=
  ⟨30, [k64, k71, k171], [(.ret (.tuple [k171, (.sc (.int Go.IntKind.i64 (0)))]))]⟩
noncomputable def F276 : Abs.FTab := F275.memo [m276]
def m277 : Abs.Mem :=
  ⟨41, [k64, k171], [(.ret (.sc (.int Go.IntKind.i64 (0))))]⟩
noncomputable def F277 : Abs.FTab := F276.memo [m277]
def m278 : Abs.Mem :=
  ⟨34, [(.iptr [k168, (.data 3 false [(.agg [(.sc (.int Go.IntKind.i64 (0))), (.sc (.int Go.IntKind.i64 (0))), (.sc (.int Go.IntKind.i64 (1)))]), (.agg [(.sc (.int Go.IntKind.i64 (0))), (.sc (.int Go.IntKind.i64 (1))), (.sc (.int Go.IntKind.i64 (2)))]), (.agg [(.sc (.int Go.IntKind.i64 (1))), (.sc (.int Go.IntKind.i64 (0))), (.sc (.int Go.IntKind.i64 (3)))]), (.agg [(.sc (.int Go.IntKind.i64 (1))), (.sc (.int Go.IntKind.i64 (1))), (.sc (.int Go.IntKind.i64 (4)))]), (.agg [(.sc (.int Go.IntKind.i64 (2))), (.sc (.int Go.IntKind.i64 (0))), (.sc (.int Go.IntKind.i64 (5)))]), (.agg [(.sc (.int Go.IntKind.i64 (2))), (.sc (.int Go.IntKind.i64 (1))), (.sc (.int Go.IntKind.i64 (6)))]), (.agg [(.sc (.int Go.IntKind.i64 (3))), (.sc (.int Go.IntKind.i64 (0))), (.sc (.int Go.IntKind.i64 (3)))]), (.agg [(.sc (.int Go.IntKind.i64 (3))), (.sc (.int Go.IntKind.i64 (1))), (.sc (.int Go.IntKind.i64 (7)))]), (.agg [(.sc (.int Go.IntKind.i64 (4))), (.sc (.int Go.IntKind.i64 (0))), (.sc (.int Go.IntKind.i64 (8)))]), (.agg [(.sc (.int Go.IntKind.i64 (4))), (.sc (.int Go.IntKind.i64 (1))), (.sc (.int Go.IntKind.i64 (9)))]), (.agg [(.sc (.int Go.IntKind.i64 (5))), (.sc (.int Go.IntKind.i64 (0))), (.sc (.int Go.IntKind.i64 (10)))]), (.agg [(.sc (.int Go.IntKind.i64 (5))), (.sc (.int Go.IntKind.i64 (1))), (.sc (.int Go.IntKind.i64 (4)))]), (.agg [(.sc (.int Go.IntKind.i64 (6))), (.sc (.int Go.IntKind.i64 (0))), (.sc (.int Go.IntKind.i64 (11)))]), (.agg [(.sc (.int Go.IntKind.i64 (7))), (.sc (.int Go.IntKind.i64 (0))), (.sc (.int Go.IntKind.i64 (7)))]), (.agg [(.sc (.int Go.IntKind.i64 (7))), (.sc (.int Go.IntKind.i64 (1))), (.sc (.int Go.IntKind.i64 (7)))]), (.agg [(.sc (.int Go.IntKind.i64 (8))), (.sc (.int Go.IntKind.i64 (0))), (.sc (.int Go.IntKind.i64 (8)))]), (.agg [(.sc (.int Go.IntKind.i64 (8))), (.sc (.int Go.IntKind.i64 (1))), (.sc (.int Go.IntKind.i64 (7)))]), (.agg [(.sc (.int Go.IntKind.i64 (9))), (.sc (.int Go.IntKind.i64 (0))), (.sc (.int Go.IntKind.i64 (12)))]), (.agg [(.sc (.int Go.IntKind.i64 (9))), (.sc (.int Go.IntKind.i64 (1))), (.sc (.int Go.IntKind.i64 (13)))]), (.agg [(.sc (.int Go.IntKind.i64 (10))), (.sc (.int Go.IntKind.i64 (0))), (.sc (.int Go.IntKind.i64 (10)))]), (.agg [(.sc (.int Go.IntKind.i64 (10))), (.sc (.int Go.IntKind.i64 (1))), (.sc (.int Go.IntKind.i64 (7)))])]), (.sc (.bool false))]), k71, k171], [(.ret (.tuple [(.sc (.int Go.IntKind.i64 (0))), (.sc (.bool false))]))]⟩
noncomputable def F278 : Abs.FTab := F277.memoT [m278]
def k172 : Abs.AVal := .data 1 false [(.sc (.int Go.IntKind.i64 (1))), (.sc (.int Go.IntKind.i64 (-1))), (.sc (.int Go.IntKind.i64 (-1))), (.sc (.int Go.IntKind.i64 (1099511627776))), (.sc (.int Go.IntKind.i64 (1))), (.sc (.int Go.IntKind.i64 (1))), (.sc (.int Go.IntKind.i64 (1099511627776))), (.sc (.int Go.IntKind.i64 (1))), (.sc (.int Go.IntKind.i64 (1)))]
def k173 : Abs.AVal := .agg [(.sc (.int Go.IntKind.i64 (2))), k172]
def m279 : Abs.Mem :=
  ⟨77, [k68, k83], [(.ret (.tuple [k173, (.sc (.int Go.IntKind.i64 (0)))]))]⟩
noncomputable def F279 : Abs.FTab := F278.memo [m279]
def m280 : Abs.Mem :=
  ⟨128, [k173], [(.ret (.sc (.int Go.IntKind.i64 (0))))]⟩
noncomputable def F280 : Abs.FTab := F279.memo [m280]
def m281 : Abs.Mem :=
  ⟨190, [k173, (.sc (.int Go.IntKind.i64 (2))), (.sc (.int Go.IntKind.i64 (0)))], [(.ret (.tuple [k131, (.sc (.int Go.IntKind.i64 (0)))]))]⟩
noncomputable def F281 : Abs.FTab := F280.memo [m281]
def m282 : Abs.Mem :=
  ⟨80, [k64, k144, (.sc (.int Go.IntKind.i64 (1)))], [(.ret (.tuple [k134, (.sc (.bool true)), (.sc (.int Go.IntKind.i64 (0)))]))]⟩
noncomputable def F282 : Abs.FTab := F281.memo [m282]
def k174 : Abs.AVal := .agg [(.data 1 false [(.sc (.int Go.IntKind.i64 (1))), (.sc (.int Go.IntKind.i64 (0)))]), (.data 1 true []), (.sc (.int Go.IntKind.i64 (2))), k169, (.sc (.int Go.IntKind.i64 (11))), (.sc (.int Go.IntKind.i64 (0)))]
def k175 : Abs.AVal := .data 6 false [k99, k100, k101, k102, k108, k116, k117, k127, k135, k139, k142, k145, k166, k167, k174]
def m283 : Abs.Mem :=
  ⟨34, [(.iptr [k175, (.data 3 false [(.agg [(.sc (.int Go.IntKind.i64 (0))), (.sc (.int Go.IntKind.i64 (0))), (.sc (.int Go.IntKind.i64 (1)))]), (.agg [(.sc (.int Go.IntKind.i64 (0))), (.sc (.int Go.IntKind.i64 (1))), (.sc (.int Go.IntKind.i64 (2)))]), (.agg [(.sc (.int Go.IntKind.i64 (1))), (.sc (.int Go.IntKind.i64 (0))), (.sc (.int Go.IntKind.i64 (3)))]), (.agg [(.sc (.int Go.IntKind.i64 (1))), (.sc (.int Go.IntKind.i64 (1))), (.sc (.int Go.IntKind.i64 (4)))]), (.agg [(.sc (.int Go.IntKind.i64 (2))), (.sc (.int Go.IntKind.i64 (0))), (.sc (.int Go.IntKind.i64 (5)))]), (.agg [(.sc (.int Go.IntKind.i64 (2))), (.sc (.int Go.IntKind.i64 (1))), (.sc (.int Go.IntKind.i64 (6)))]), (.agg [(.sc (.int Go.IntKind.i64 (3))), (.sc (.int Go.IntKind.i64 (0))), (.sc (.int Go.IntKind.i64 (3)))]), (.agg [(.sc (.int Go.IntKind.i64 (3))), (.sc (.int Go.IntKind.i64 (1))), (.sc (.int Go.IntKind.i64 (7)))]), (.agg [(.sc (.int Go.IntKind.i64 (4))), (.sc (.int Go.IntKind.i64 (0))), (.sc (.int Go.IntKind.i64 (8)))]), (.agg [(.sc (.int Go.IntKind.i64 (4))), (.sc (.int Go.IntKind.i64 (1))), (.sc (.int Go.IntKind.i64 (9)))]), (.agg [(.sc (.int Go.IntKind.i64 (5))), (.sc (.int Go.IntKind.i64 (0))), (.sc (.int Go.IntKind.i64 (10)))]), (.agg [(.sc (.int Go.IntKind.i64 (5))), (.sc (.int Go.IntKind.i64 (1))), (.sc (.int Go.IntKind.i64 (4)))]), (.agg [(.sc (.int Go.IntKind.i64 (6))), (.sc (.int Go.IntKind.i64 (0))), (.sc (.int Go.IntKind.i64 (11)))]), (.agg [(.sc (.int Go.IntKind.i64 (7))), (.sc (.int Go.IntKind.i64 (0))), (.sc (.int Go.IntKind.i64 (7)))]), (.agg [(.sc (.int Go.IntKind.i64 (7))), (.sc (.int Go.IntKind.i64 (1))), (.sc (.int Go.IntKind.i64 (7)))]), (.agg [(.sc (.int Go.IntKind.i64 (8))), (.sc (.int Go.IntKind.i64 (0))), (.sc (.int Go.IntKind.i64 (8)))]), (.agg [(.sc (.int Go.IntKind.i64 (8))), (.sc (.int Go.IntKind.i64 (1))), (.sc (.int Go.IntKind.i64 (7)))]), (.agg [(.sc (.int Go.IntKind.i64 (9))), (.sc (.int Go.IntKind.i64 (0))), (.sc (.int Go.IntKind.i64 (12)))]), (.agg [(.sc (.int Go.IntKind.i64 (9))), (.sc (.int Go.IntKind.i64 (1))), (.sc (.int Go.IntKind.i64 (13)))]), (.agg [(.sc (.int Go.IntKind.i64 (10))), (.sc (.int Go.IntKind.i64 (0))), (.sc (.int Go.IntKind.i64 (10)))]), (.agg [(.sc (.int Go.IntKind.i64 (10))), (.sc (.int Go.IntKind.i64 (1))), (.sc (.int Go.IntKind.i64 (7)))]), (.agg [(.sc (.int Go.IntKind.i64 (11))), (.sc (.int Go.IntKind.i64 (0))), (.sc (.int Go.IntKind.i64 (14)))])]), (.sc (.bool false))]), k71, k134], [(.ret (.tuple [(.sc (.int Go.IntKind.i64 (9))), (.sc (.bool true))]))]⟩
noncomputable def F283 : Abs.FTab := F282.memoT [m283]
def m284 : Abs.Mem :=
  ⟨77, [k157, k28], [(.ret (.tuple [k157, (.sc (.int Go.IntKind.i64 (0)))]))]⟩
noncomputable def F284 : Abs.FTab := F283.memo [m284]
def m285 : Abs.Mem :=
  ⟨80, [k64, k158, (.sc (.int Go.IntKind.i64 (0)))], [(.ret (.tuple [k158, (.sc (.bool true)), (.sc (.int Go.IntKind.i64 (0)))]))]⟩
noncomputable def F285 : Abs.FTab := F284.memo [m285]
def m286 : Abs.Mem :=
  ⟨34, [(.iptr [k175, (.data 3 false [(.agg [(.sc (.int Go.IntKind.i64 (0))), (.sc (.int Go.IntKind.i64 (0))), (.sc (.int Go.IntKind.i64 (1)))]), (.agg [(.sc (.int Go.IntKind.i64 (0))), (.sc (.int Go.IntKind.i64 (1))), (.sc (.int Go.IntKind.i64 (2)))]), (.agg [(.sc (.int Go.IntKind.i64 (1))), (.sc (.int Go.IntKind.i64 (0))), (.sc (.int Go.IntKind.i64 (3)))]), (.agg [(.sc (.int Go.IntKind.i64 (1))), (.sc (.int Go.IntKind.i64 (1))), (.sc (.int Go.IntKind.i64 (4)))]), (.agg [(.sc (.int Go.IntKind.i64 (2))), (.sc (.int Go.IntKind.i64 (0))), (.sc (.int Go.IntKind.i64 (5)))]), (.agg [(.sc (.int Go.IntKind.i64 (2))), (.sc (.int Go.IntKind.i64 (1))), (.sc (.int Go.IntKind.i64 (6)))]), (.agg [(.sc (.int Go.IntKind.i64 (3))), (.sc (.int Go.IntKind.i64 (0))), (.sc (.int Go.IntKind.i64 (3)))]), (.agg [(.sc (.int Go.IntKind.i64 (3))), (.sc (.int Go.IntKind.i64 (1))), (.sc (.int Go.IntKind.i64 (7)))]), (.agg [(.sc (.int Go.IntKind.i64 (4))), (.sc (.int Go.IntKind.i64 (0))), (.sc (.int Go.IntKind.i64 (8)))]), (.agg [(.sc (.int Go.IntKind.i64 (4))), (.sc (.int Go.IntKind.i64 (1))), (.sc (.int Go.IntKind.i64 (9)))]), (.agg [(.sc (.int Go.IntKind.i64 (5))), (.sc (.int Go.IntKind.i64 (0))), (.sc (.int Go.IntKind.i64 (10)))]), (.agg [(.sc (.int Go.IntKind.i64 (5))), (.sc (.int Go.IntKind.i64 (1))), (.sc (.int Go.IntKind.i64 (4)))]), (.agg [(.sc (.int Go.IntKind.i64 (6))), (.sc (.int Go.IntKind.i64 (0))), (.sc (.int Go.IntKind.i64 (11)))]), (.agg [(.sc (.int Go.IntKind.i64 (7))), (.sc (.int Go.IntKind.i64 (0))), (.sc (.int Go.IntKind.i64 (7)))]), (.agg [(.sc (.int Go.IntKind.i64 (7))), (.sc (.int Go.IntKind.i64 (1))), (.sc (.int Go.IntKind.i64 (7)))]), (.agg [(.sc (.int Go.IntKind.i64 (8))), (.sc (.int Go.IntKind.i64 (0))), (.sc (.int Go.IntKind.i64 (8)))]), (.agg [(.sc (.int Go.IntKind.i64 (8))), (.sc (.int Go.IntKind.i64 (1))), (.sc (.int Go.IntKind.i64 (7)))]), (.agg [(.sc (.int Go.IntKind.i64 (9))), (.sc (.int Go.IntKind.i64 (0))), (.sc (.int Go.IntKind.i64 (12)))]), (.agg [(.sc (.int Go.IntKind.i64 (9))), (.sc (.int Go.IntKind.i64 (1))), (.sc (.int Go.IntKind.i64 (13)))]), (.agg [(.sc (.int Go.IntKind.i64 (10))), (.sc (.int Go.IntKind.i64 (0))), (.sc (.int Go.IntKind.i64 (10)))]), (.agg [(.sc (.int Go.IntKind.i64 (10))), (.sc (.int Go.IntKind.i64 (1))), (.sc (.int Go.IntKind.i64 (7)))]), (.agg [(.sc (.int Go.IntKind.i64 (11))), (.sc (.int Go.IntKind.i64 (0))), (.sc (.int Go.IntKind.i64 (14)))]), (.agg [(.sc (.int Go.IntKind.i64 (11))), (.sc (.int Go.IntKind.i64 (1))), (.sc (.int Go.IntKind.i64 (9)))])]), (.sc (.bool false))]), k71, k158], [(.ret (.tuple [(.sc (.int Go.IntKind.i64 (12))), (.sc (.bool true))]))]⟩
noncomputable def F286 : Abs.FTab := F285.memoT [m286]
def k176 : Abs.AVal := .data 1 false [(.sc (.int Go.IntKind.i64 (1))), (.sc (.int Go.IntKind.i64 (-6))), (.sc (.int Go.IntKind.i64 (-1))), (.sc (.int Go.IntKind.i64 (1099511627776))), (.sc (.int Go.IntKind.i64 (1))), (.sc (.int Go.IntKind.i64 (1099511627776))), (.sc (.int Go.IntKind.i64 (1099511627776))), (.sc (.int Go.IntKind.i64 (-1))), (.sc (.int Go.IntKind.i64 (1)))]
def k177 : Abs.AVal := .agg [(.sc (.int Go.IntKind.i64 (2))), k176]
def m287 : Abs.Mem :=
  ⟨77, [k157, k83], [(.ret (.tuple [k177, (.sc (.int Go.IntKind.i64 (0)))]))]⟩
noncomputable def F287 : Abs.FTab := F286.memo [m287]
def m288 : Abs.Mem :=
  ⟨128, [k177], [(.ret (.sc (.int Go.IntKind.i64 (0))))]⟩
noncomputable def F288 : Abs.FTab := F287.memo [m288]
def m289 : Abs.Mem :=
  ⟨190, [k177, (.sc (.int Go.IntKind.i64 (2))), (.sc (.int Go.IntKind.i64 (0)))], [(.ret (.tuple [k120, (.sc (.int Go.IntKind.i64 (0)))]))]⟩
noncomputable def F289 : Abs.FTab := F288.memo [m289]
def m290 : Abs.Mem :=
  ⟨80, [k64, k158, (.sc (.int Go.IntKind.i64 (1)))], [(.ret (.tuple [k123, (.sc (.bool true)), (.sc (.int Go.IntKind.i64 (0)))]))]⟩
noncomputable def F290 : Abs.FTab := F289.memo [m290]
def m291 : Abs.Mem :=
  ⟨34, [(.iptr [k175, (.data 3 false [(.agg [(.sc (.int Go.IntKind.i64 (0))), (.sc (.int Go.IntKind.i64 (0))), (.sc (.int Go.IntKind.i64 (1)))]), (.agg [(.sc (.int Go.IntKind.i64 (0))), (.sc (.int Go.IntKind.i64 (1))), (.sc (.int Go.IntKind.i64 (2)))]), (.agg [(.sc (.int Go.IntKind.i64 (1))), (.sc (.int Go.IntKind.i64 (0))), (.sc (.int Go.IntKind.i64 (3)))]), (.agg [(.sc (.int Go.IntKind.i64 (1))), (.sc (.int Go.IntKind.i64 (1))), (.sc (.int Go.IntKind.i64 (4)))]), (.agg [(.sc (.int Go.IntKind.i64 (2))), (.sc (.int Go.IntKind.i64 (0))), (.sc (.int Go.IntKind.i64 (5)))]), (.agg [(.sc (.int Go.IntKind.i64 (2))), (.sc (.int Go.IntKind.i64 (1))), (.sc (.int Go.IntKind.i64 (6)))]), (.agg [(.sc (.int Go.IntKind.i64 (3))), (.sc (.int Go.IntKind.i64 (0))), (.sc (.int Go.IntKind.i64 (3)))]), (.agg [(.sc (.int Go.IntKind.i64 (3))), (.sc (.int Go.IntKind.i64 (1))), (.sc (.int Go.IntKind.i64 (7)))]), (.agg [(.sc (.int Go.IntKind.i64 (4))), (.sc (.int Go.IntKind.i64 (0))), (.sc (.int Go.IntKind.i64 (8)))]), (.agg [(.sc (.int Go.IntKind.i64 (4))), (.sc (.int Go.IntKind.i64 (1))), (.sc (.int Go.IntKind.i64 (9)))]), (.agg [(.sc (.int Go.IntKind.i64 (5))), (.sc (.int Go.IntKind.i64 (0))), (.sc (.int Go.IntKind.i64 (10)))]), (.agg [(.sc (.int Go.IntKind.i64 (5))), (.sc (.int Go.IntKind.i64 (1))), (.sc (.int Go.IntKind.i64 (4)))]), (.agg [(.sc (.int Go.IntKind.i64 (6))), (.sc (.int Go.IntKind.i64 (0))), (.sc (.int Go.IntKind.i64 (11)))]), (.agg [(.sc (.int Go.IntKind.i64 (7))), (.sc (.int Go.IntKind.i64 (0))), (.sc (.int Go.IntKind.i64 (7)))]), (.agg [(.sc (.int Go.IntKind.i64 (7))), (.sc (.int Go.IntKind.i64 (1))), (.sc (.int Go.IntKind.i64 (7)))]), (.agg [(.sc (.int Go.IntKind.i64 (8))), (.sc (.int Go.IntKind.i64 (0))), (.sc (.int Go.IntKind.i64 (8)))]), (.agg [(.sc (.int Go.IntKind.i64 (8))), (.sc (.int Go.IntKind.i64 (1))), (.sc (.int Go.IntKind.i64 (7)))]), (.agg [(.sc (.int Go.IntKind.i64 (9))), (.sc (.int Go.IntKind.i64 (0))), (.sc (.int Go.IntKind.i64 (12)))]), (.agg [(.sc (.int Go.IntKind.i64 (9))), (.sc (.int Go.IntKind.i64 (1))), (.sc (.int Go.IntKind.i64 (13)))]), (.agg [(.sc (.int Go.IntKind.i64 (10))), (.sc (.int Go.IntKind.i64 (0))), (.sc (.int Go.IntKind.i64 (10)))]), (.agg [(.sc (.int Go.IntKind.i64 (10))), (.sc (.int Go.IntKind.i64 (1))), (.sc (.int Go.IntKind.i64 (7)))]), (.agg [(.sc (.int Go.IntKind.i64 (11))), (.sc (.int Go.IntKind.i64 (0))), (.sc (.int Go.IntKind.i64 (14)))]), (.agg [(.sc (.int Go.IntKind.i64 (11))), (.sc (.int Go.IntKind.i64 (1))), (.sc (.int Go.IntKind.i64 (9)))]), (.agg [(.sc (.int Go.IntKind.i64 (12))), (.sc (.int Go.IntKind.i64 (0))), (.sc (.int Go.IntKind.i64 (12)))])]), (.sc (.bool false))]), k71, k123], [(.ret (.tuple [(.sc (.int Go.IntKind.i64 (7))), (.sc (.bool true))]))]⟩
noncomputable def F291 : Abs.FTab := F290.memoT [m291]
def k178 : Abs.AVal := .data 1 false [(.sc (.int Go.IntKind.i64 (1))), (.sc (.int Go.IntKind.i64 (-6))), (.sc (.int Go.IntKind.i64 (1))), (.sc (.int Go.IntKind.i64 (1099511627776))), (.sc (.int Go.IntKind.i64 (1))), (.sc (.int Go.IntKind.i64 (1099511627776))), (.sc (.int Go.IntKind.i64 (1099511627776))), (.sc (.int Go.IntKind.i64 (-3))), (.sc (.int Go.IntKind.i64 (1)))]
def k179 : Abs.AVal := .agg [(.sc (.int Go.IntKind.i64 (2))), k178]
def m292 : Abs.Mem :=
  ⟨77, [k164, k28], [(.ret (.tuple [k179, (.sc (.int Go.IntKind.i64 (0)))]))]⟩
noncomputable def F292 : Abs.FTab := F291.memo [m292]
def m293 : Abs.Mem :=
  ⟨128, [k179], [(.ret (.sc (.int Go.IntKind.i64 (0))))]⟩
noncomputable def F293 : Abs.FTab := F292.memo [m293]
def m294 : Abs.Mem :=
  ⟨77, [k179, (.sc (.slice none 0 0))], [(.ret (.tuple [k179, (.sc (.int Go.IntKind.i64 (0)))]))]⟩
noncomputable def F294 : Abs.FTab := F293.memo [m294]
def m295 : Abs.Mem :=
  ⟨139, [k179, (.sc (.bool true)), (.func (.func 175) [] [])], [(.ret (.tuple [k179, (.sc (.int Go.IntKind.i64 (0)))]))]⟩
noncomputable def F295 : Abs.FTab := F294.memo [m295]
def m296 : Abs.Mem :=
  ⟨123, [k179, (.iptr [(.sc (.int Go.IntKind.i64 (2))), (.data 4 true []), (.data 3 true []), (.sc (.slice none 0 0)), k63]), (.iptr [(.data 1 false [(.sc (.int Go.IntKind.i64 (1))), (.sc (.int Go.IntKind.i64 (0)))]), (.data 1 false [])])], [(.ret (.tuple [k179, (.sc (.int Go.IntKind.i64 (0)))]))]⟩
noncomputable def F296 : Abs.FTab := F295.memo [m296]
def k180 : Abs.AVal := .agg [(.data 1 false [(.sc (.int Go.IntKind.i64 (1))), (.sc (.int Go.IntKind.i64 (0)))]), (.data 1 true []), (.sc (.int Go.IntKind.i64 (2))), k178]
def m297 : Abs.Mem :=
  ⟨80, [k64, k165, (.sc (.int Go.IntKind.i64 (0)))], [(.ret (.tuple [k180, (.sc (.bool true)), (.sc (.int Go.IntKind.i64 (0)))]))]⟩
noncomputable def F297 : Abs.FTab := F296.memo [m297]
def m298 : Abs.Mem :=
  ⟨30, [k64, k71, k180], [(.ret (.tuple [k180, (.sc (.int Go.IntKind.i64 (0)))]))]⟩
noncomputable def F298 : Abs.FTab := F297.memo [m298]
def m299 : Abs.Mem :=
  ⟨41, [k64, k180], [(.ret (.sc (.int Go.IntKind.i64 (0))))]⟩
noncomputable def F299 : Abs.FTab := F298.memo [m299]
def m300 : Abs.Mem :=
  ⟨34, [(.iptr [k175, (.data 3 false [(.agg [(.sc (.int Go.IntKind.i64 (0))), (.sc (.int Go.IntKind.i64 (0))), (.sc (.int Go.IntKind.i64 (1)))]), (.agg [(.sc (.int Go.IntKind.i64 (0))), (.sc (.int Go.IntKind.i64 (1))), (.sc (.int Go.IntKind.i64 (2)))]), (.agg [(.sc (.int Go.IntKind.i64 (1))), (.sc (.int Go.IntKind.i64 (0))), (.sc (.int Go.IntKind.i64 (3)))]), (.agg [(.sc (.int Go.IntKind.i64 (1))), (.sc (.int Go.IntKind.i64 (1))), (.sc (.int Go.IntKind.i64 (4)))]), (.agg [(.sc (.int Go.IntKind.i64 (2))), (.sc (.int Go.IntKind.i64 (0))), (.sc (.int Go.IntKind.i64 (5)))]), (.agg [(.sc (.int Go.IntKind.i64 (2))), (.sc (.int Go.IntKind.i64 (1))), (.sc (.int Go.IntKind.i64 (6)))]), (.agg [(.sc (.int Go.IntKind.i64 (3))), (.sc (.int Go.IntKind.i64 (0))), (.sc (.int Go.IntKind.i64 (3)))]), (.agg [(.sc (.int Go.IntKind.i64 (3))), (.sc (.int Go.IntKind.i64 (1))), (.sc (.int Go.IntKind.i64 (7)))]), (.agg [(.sc (.int Go.IntKind.i64 (4))), (.sc (.int Go.IntKind.i64 (0))), (.sc (.int Go.IntKind.i64 (8)))]), (.agg [(.sc (.int Go.IntKind.i64 (4))), (.sc (.int Go.IntKind.i64 (1))), (.sc (.int Go.IntKind.i64 (9)))]), (.agg [(.sc (.int Go.IntKind.i64 (5))), (.sc (.int Go.IntKind.i64 (0))), (.sc (.int Go.IntKind.i64 (10)))]), (.agg [(.sc (.int Go.IntKind.i64 (5))), (.sc (.int Go.IntKind.i64 (1))), (.sc (.int Go.IntKind.i64 (4)))]), (.agg [(.sc (.int Go.IntKind.i64 (6))), (.sc (.int Go.IntKind.i64 (0))), (.sc (.int Go.IntKind.i64 (11)))]), (.agg [(.sc (.int Go.IntKind.i64 (7))), (.sc (.int Go.IntKind.i64 (0))), (.sc (.int Go.IntKind.i64 (7)))]), (.agg [(.sc (.int Go.IntKind.i64 (7))), (.sc (.int Go.IntKind.i64 (1))), (.sc (.int Go.IntKind.i64 (7)))]), (.agg [(.sc (.int Go.IntKind.i64 (8))), (.sc (.int Go.IntKind.i64 (0))), (.sc (.int Go.IntKind.i64 (8)))]), (.agg [(.sc (.int Go.IntKind.i64 (8))), (.sc (.int Go.IntKind.i64 (1))), (.sc (.int Go.IntKind.i64 (7)))]), (.agg [(.sc (.int Go.IntKind.i64 (9))), (.sc (.int Go.IntKind.i64 (0))), (.sc (.int Go.IntKind.i64 (12)))]), (.agg [(.sc (.int Go.IntKind.i64 (9))), (.sc (.int Go.IntKind.i64 (1))), (.sc (.int Go.IntKind.i64 (13)))]), (.agg [(.sc (.int Go.IntKind.i64 (10))), (.sc (.int Go.IntKind.i64 (0))), (.sc (.int Go.IntKind.i64 (10)))]), (.agg [(.sc (.int Go.IntKind.i64 (10))), (.sc (.int Go.IntKind.i64 (1))), (.sc (.int Go.IntKind.i64 (7)))]), (.agg [(.sc (.int Go.IntKind.i64 (11))), (.sc (.int Go.IntKind.i64 (0))), (.sc (.int Go.IntKind.i64 (14)))]), (.agg [(.sc (.int Go.IntKind.i64 (11))), (.sc (.int Go.IntKind.i64 (1))), (.sc (.int Go.IntKind.i64 (9)))]), (.agg [(.sc (.int Go.IntKind.i64 (12))), (.sc (.int Go.IntKind.i64 (0))), (.sc (.int Go.IntKind.i64 (12)))]), (.agg [(.sc (.int Go.IntKind.i64 (12))), (.sc (.int Go.IntKind.i64 (1))), (.sc (.int Go.IntKind.i64 (7)))])]), (.sc (.bool false))]), k71, k180], [(.ret (.tuple [(.sc (.int Go.IntKind.i64 (0))), (.sc (.bool false))]))]⟩
noncomputable def F300 : Abs.FTab := F299.memoT [m300]
def k181 : Abs.AVal := .data 1 false [(.sc (.int Go.IntKind.i64 (1))), (.sc (.int Go.IntKind.i64 (-5))), (.sc (.int Go.IntKind.i64 (-1))), (.sc (.int Go.IntKind.i64 (1099511627776))), (.sc (.int Go.IntKind.i64 (1))), (.sc (.int Go.IntKind.i64 (1099511627776))), (.sc (.int Go.IntKind.i64 (1099511627776))), (.sc (.int Go.IntKind.i64 (-3))), (.sc (.int Go.IntKind.i64 (1)))]
def k182 : Abs.AVal := .agg [(.sc (.int Go.IntKind.i64 (2))), k181]
def m301 : Abs.Mem :=
  ⟨77, [k164, k83], [(.ret (.tuple [k182, (.sc (.int Go.IntKind.i64 (0)))]))]⟩
noncomputable def F301 : Abs.FTab := F300.memo [m301]
def m302 : Abs.Mem :=
  ⟨128, [k182], [(.ret (.sc (.int Go.IntKind.i64 (0))))]⟩
noncomputable def F302 : Abs.FTab := F301.memo [m302]
def k183 : Abs.AVal := .data 1 false [(.sc (.int Go.IntKind.i64 (1))), (.sc (.int Go.IntKind.i64 (-5))), (.sc (.int Go.IntKind.i64 (1))), (.sc (.int Go.IntKind.i64 (1099511627776))), (.sc (.int Go.IntKind.i64 (1))), (.sc (.int Go.IntKind.i64 (1099511627776))), (.sc (.int Go.IntKind.i64 (1))), (.sc (.int Go.IntKind.i64 (-5))), (.sc (.int Go.IntKind.i64 (1)))]
def k184 : Abs.AVal := .agg [(.sc (.int Go.IntKind.i64 (2))), k183]
def m303 : Abs.Mem :=
  ⟨190, [k182, (.sc (.int Go.IntKind.i64 (2))), (.sc (.int Go.IntKind.i64 (0)))], [(.ret (.tuple [k184, (.sc (.int Go.IntKind.i64 (0)))]))]⟩
noncomputable def F303 : Abs.FTab := F302.memo [m303]
def m304 : Abs.Mem :=
  ⟨128, [k184], [(.ret (.sc (.int Go.IntKind.i64 (0))))]⟩
noncomputable def F304 : Abs.FTab := F303.memo [m304]
def m305 : Abs.Mem :=
  ⟨77, [k184, (.sc (.slice none 0 0))], [(.ret (.tuple [k184, (.sc (.int Go.IntKind.i64 (0)))]))]⟩
noncomputable def F305 : Abs.FTab := F304.memo [m305]
def k185 : Abs.AVal := .data 1 false [(.sc (.int Go.IntKind.i64 (1))), (.sc (.int Go.IntKind.i64 (-5))), (.sc (.int Go.IntKind.i64 (1))), (.sc (.int Go.IntKind.i64 (1099511627776))), (.sc (.int Go.IntKind.i64 (1))), (.sc (.int Go.IntKind.i64 (1099511627776))), (.sc (.int Go.IntKind.i64 (1099511627776))), (.sc (.int Go.IntKind.i64 (-5))), (.sc (.int Go.IntKind.i64 (1)))]
def k186 : Abs.AVal := .agg [(.sc (.int Go.IntKind.i64 (2))), k185]
def m306 : Abs.Mem :=
  ⟨139, [k184, (.sc (.bool true)), (.func (.func 175) [] [])], [(.ret (.tuple [k186, (.sc (.int Go.IntKind.i64 (0)))]))]⟩
noncomputable def F306 : Abs.FTab := F305.memo [m306]
def m307 : Abs.Mem :=
  ⟨128, [k186], [(.ret (.sc (.int Go.IntKind.i64 (0))))]⟩
noncomputable def F307 : Abs.FTab := F306.memo [m307]
def m308 : Abs.Mem :=
  ⟨77, [k186, (.sc (.slice none 0 0))], [(.ret (.tuple [k186, (.sc (.int Go.IntKind.i64 (0)))]))]⟩
noncomputable def F308 : Abs.FTab := F307.memo [m308]
def m309 : Abs.Mem :=
  ⟨123, [k184, (.iptr [(.sc (.int Go.IntKind.i64 (2))), (.data 4 true []), (.data 3 true []), (.sc (.slice none 0 0)), k63]), (.iptr [(.data 1 false [(.sc (.int Go.IntKind.i64 (1))), (.sc (.int Go.IntKind.i64 (0)))]), (.data 1 false [])])], [(.ret (.tuple [k186, (.sc (.int Go.IntKind.i64 (0)))]))]⟩
noncomputable def F309 : Abs.FTab := F308.memo [m309]
def k187 : Abs.AVal := .agg [(.data 1 false [(.sc (.int Go.IntKind.i64 (1))), (.sc (.int Go.IntKind.i64 (0)))]), (.data 1 true []), (.sc (.int Go.IntKind.i64 (2))), k185]
def m310 : Abs.Mem :=
  ⟨80, [k64, k165, (.sc (.int Go.IntKind.i64 (1)))], [(.ret (.tuple [k187, (.sc (.bool true)), (.sc (.int Go.IntKind.i64 (0)))]))]⟩
noncomputable def F310 : Abs.FTab := F309.memo [m310]
def m311 : Abs.Mem :=
  ⟨30, [k64, k71, k187], [(.ret (.tuple [k187, (.sc (.int Go.IntKind.i64 (0)))]))]⟩
noncomputable def F311 : Abs.FTab := F310.memo [m311]
def m312 : Abs.Mem :=
  ⟨41, [k64, k187], [(.ret (.sc (.int Go.IntKind.i64 (0))))]⟩
noncomputable def F312 : Abs.FTab := F311.memo [m312]
def k188 : Abs.AVal := .agg [(.data 1 false [(.sc (.int Go.IntKind.i64 (1))), (.sc (.int Go.IntKind.i64 (0)))]), (.data 1 true []), (.sc (.int Go.IntKind.i64 (2))), k178, (.sc (.int Go.IntKind.i64 (13))), (.sc (.int Go.IntKind.i64 (0)))]
def m313 : Abs.Mem :=
  ⟨34, [(.iptr [(.data 6 false [k99, k100, k101, k102, k108, k116, k117, k127, k135, k139, k142, k145, k166, k167, k174, k188]), (.data 3 false [(.agg [(.sc (.int Go.IntKind.i64 (0))), (.sc (.int Go.IntKind.i64 (0))), (.sc (.int Go.IntKind.i64 (1)))]), (.agg [(.sc (.int Go.IntKind.i64 (0))), (.sc (.int Go.IntKind.i64 (1))), (.sc (.int Go.IntKind.i64 (2)))]), (.agg [(.sc (.int Go.IntKind.i64 (1))), (.sc (.int Go.IntKind.i64 (0))), (.sc (.int Go.IntKind.i64 (3)))]), (.agg [(.sc (.int Go.IntKind.i64 (1))), (.sc (.int Go.IntKind.i64 (1))), (.sc (.int Go.IntKind.i64 (4)))]), (.agg [(.sc (.int Go.IntKind.i64 (2))), (.sc (.int Go.IntKind.i64 (0))), (.sc (.int Go.IntKind.i64 (5)))]), (.agg [(.sc (.int Go.IntKind.i64 (2))), (.sc (.int Go.IntKind.i64 (1))), (.sc (.int Go.IntKind.i64 (6)))]), (.agg [(.sc (.int Go.IntKind.i64 (3))), (.sc (.int Go.IntKind.i64 (0))), (.sc (.int Go.IntKind.i64 (3)))]), (.agg [(.sc (.int Go.IntKind.i64 (3))), (.sc (.int Go.IntKind.i64 (1))), (.sc (.int Go.IntKind.i64 (7)))]), (.agg [(.sc (.int Go.IntKind.i64 (4))), (.sc (.int Go.IntKind.i64 (0))), (.sc (.int Go.IntKind.i64 (8)))]), (.agg [(.sc (.int Go.IntKind.i64 (4))), (.sc (.int Go.IntKind.i64 (1))), (.sc (.int Go.IntKind.i64 (9)))]), (.agg [(.sc (.int Go.IntKind.i64 (5))), (.sc (.int Go.IntKind.i64 (0))), (.sc (.int Go.IntKind.i64 (10)))]), (.agg [(.sc (.int Go.IntKind.i64 (5))), (.sc (.int Go.IntKind.i64 (1))), (.sc (.int Go.IntKind.i64 (4)))]), (.agg [(.sc (.int Go.IntKind.i64 (6))), (.sc (.int Go.IntKind.i64 (0))), (.sc (.int Go.IntKind.i64 (11)))]), (.agg [(.sc (.int Go.IntKind.i64 (7))), (.sc (.int Go.IntKind.i64 (0))), (.sc (.int Go.IntKind.i64 (7)))]), (.agg [(.sc (.int Go.IntKind.i64 (7))), (.sc (.int Go.IntKind.i64 (1))), (.sc (.int Go.IntKind.i64 (7)))]), (.agg [(.sc (.int Go.IntKind.i64 (8))), (.sc (.int Go.IntKind.i64 (0))), (.sc (.int Go.IntKind.i64 (8)))]), (.agg [(.sc (.int Go.IntKind.i64 (8))), (.sc (.int Go.IntKind.i64 (1))), (.sc (.int Go.IntKind.i64 (7)))]), (.agg [(.sc (.int Go.IntKind.i64 (9))), (.sc (.int Go.IntKind.i64 (0))), (.sc (.int Go.IntKind.i64 (12)))]), (.agg [(.sc (.int Go.IntKind.i64 (9))), (.sc (.int Go.IntKind.i64 (1))), (.sc (.int Go.IntKind.i64 (13)))]), (.agg [(.sc (.int Go.IntKind.i64 (10))), (.sc (.int Go.IntKind.i64 (0))), (.sc (.int Go.IntKind.i64 (10)))]), (.agg [(.sc (.int Go.IntKind.i64 (10))), (.sc (.int Go.IntKind.i64 (1))), (.sc (.int Go.IntKind.i64 (7)))]), (.agg [(.sc (.int Go.IntKind.i64 (11))), (.sc (.int Go.IntKind.i64 (0))), (.sc (.int Go.IntKind.i64 (14)))]), (.agg [(.sc (.int Go.IntKind.i64 (11))), (.sc (.int Go.IntKind.i64 (1))), (.sc (.int Go.IntKind.i64 (9)))]), (.agg [(.sc (.int Go.IntKind.i64 (12))), (.sc (.int Go.IntKind.i64 (0))), (.sc (.int Go.IntKind.i64 (12)))]), (.agg [(.sc (.int Go.IntKind.i64 (12))), (.sc (.int Go.IntKind.i64 (1))), (.sc (.int Go.IntKind.i64 (7)))]), (.agg [(.sc (.int Go.IntKind.i64 (13))), (.sc (.int Go.IntKind.i64 (0))), (.sc (.int Go.IntKind.i64 (15)))])]), (.sc (.bool false))]), k71, k187], [(.ret (.tuple [(.sc (.int Go.IntKind.i64 (0))), (.sc (.bool false))]))]⟩
noncomputable def F313 : Abs.FTab := F312.memoT [m313]
def m314 : Abs.Mem :=
  ⟨77, [k170, k28], [(.ret (.tuple [k170, (.sc (.int Go.IntKind.i64 (0)))]))]⟩
noncomputable def F314 : Abs.FTab := F313.memo [m314]
def m315 : Abs.Mem :=
  ⟨80, [k64, k171, (.sc (.int Go.IntKind.i64 (0)))], [(.ret (.tuple [k171, (.sc (.bool true)), (.sc (.int Go.IntKind.i64 (0)))]))]⟩
noncomputable def F315 : Abs.FTab := F314.memo [m315]
def k189 : Abs.AVal := .agg [(.data 1 false [(.sc (.int Go.IntKind.i64 (1))), (.sc (.int Go.IntKind.i64 (0)))]), (.data 1 true []), (.sc (.int Go.IntKind.i64 (2))), k185, (.sc (.int Go.IntKind.i64 (13))), (.sc (.int Go.IntKind.i64 (1)))]
def k190 : Abs.AVal := .data 6 false [k99, k100, k101, k102, k108, k116, k117, k127, k135, k139, k142, k145, k166, k167, k174, k188, k189]
def m316 : Abs.Mem :=
  ⟨34, [(.iptr [k190, (.data 3 false [(.agg [(.sc (.int Go.IntKind.i64 (0))), (.sc (.int Go.IntKind.i64 (0))), (.sc (.int Go.IntKind.i64 (1)))]), (.agg [(.sc (.int Go.IntKind.i64 (0))), (.sc (.int Go.IntKind.i64 (1))), (.sc (.int Go.IntKind.i64 (2)))]), (.agg [(.sc (.int Go.IntKind.i64 (1))), (.sc (.int Go.IntKind.i64 (0))), (.sc (.int Go.IntKind.i64 (3)))]), (.agg [(.sc (.int Go.IntKind.i64 (1))), (.sc (.int Go.IntKind.i64 (1))), (.sc (.int Go.IntKind.i64 (4)))]), (.agg [(.sc (.int Go.IntKind.i64 (2))), (.sc (.int Go.IntKind.i64 (0))), (.sc (.int Go.IntKind.i64 (5)))]), (.agg [(.sc (.int Go.IntKind.i64 (2))), (.sc (.int Go.IntKind.i64 (1))), (.sc (.int Go.IntKind.i64 (6)))]), (.agg [(.sc (.int Go.IntKind.i64 (3))), (.sc (.int Go.IntKind.i64 (0))), (.sc (.int Go.IntKind.i64 (3)))]), (.agg [(.sc (.int Go.IntKind.i64 (3))), (.sc (.int Go.IntKind.i64 (1))), (.sc (.int Go.IntKind.i64 (7)))]), (.agg [(.sc (.int Go.IntKind.i64 (4))), (.sc (.int Go.IntKind.i64 (0))), (.sc (.int Go.IntKind.i64 (8)))]), (.agg [(.sc (.int Go.IntKind.i64 (4))), (.sc (.int Go.IntKind.i64 (1))), (.sc (.int Go.IntKind.i64 (9)))]), (.agg [(.sc (.int Go.IntKind.i64 (5))), (.sc (.int Go.IntKind.i64 (0))), (.sc (.int Go.IntKind.i64 (10)))]), (.agg [(.sc (.int Go.IntKind.i64 (5))), (.sc (.int Go.IntKind.i64 (1))), (.sc (.int Go.IntKind.i64 (4)))]), (.agg [(.sc (.int Go.IntKind.i64 (6))), (.sc (.int Go.IntKind.i64 (0))), (.sc (.int Go.IntKind.i64 (11)))]), (.agg [(.sc (.int Go.IntKind.i64 (7))), (.sc (.int Go.IntKind.i64 (0))), (.sc (.int Go.IntKind.i64 (7)))]), (.agg [(.sc (.int Go.IntKind.i64 (7))), (.sc (.int Go.IntKind.i64 (1))), (.sc (.int Go.IntKind.i64 (7)))]), (.agg [(.sc (.int Go.IntKind.i64 (8))), (.sc (.int Go.IntKind.i64 (0))), (.sc (.int Go.IntKind.i64 (8)))]), (.agg [(.sc (.int Go.IntKind.i64 (8))), (.sc (.int Go.IntKind.i64 (1))), (.sc (.int Go.IntKind.i64 (7)))]), (.agg [(.sc (.int Go.IntKind.i64 (9))), (.sc (.int Go.IntKind.i64 (0))), (.sc (.int Go.IntKind.i64 (12)))]), (.agg [(.sc (.int Go.IntKind.i64 (9))), (.sc (.int Go.IntKind.i64 (1))), (.sc (.int Go.IntKind.i64 (13)))]), (.agg [(.sc (.int Go.IntKind.i64 (10))), (.sc (.int Go.IntKind.i64 (0))), (.sc (.int Go.IntKind.i64 (10)))]), (.agg [(.sc (.int Go.IntKind.i64 (10))), (.sc (.int Go.IntKind.i64 (1))), (.sc (.int Go.IntKind.i64 (7)))]), (.agg [(.sc (.int Go.IntKind.i64 (11))), (.sc (.int Go.IntKind.i64 (0))), (.sc (.int Go.IntKind.i64 (14)))]), (.agg [(.sc (.int Go.IntKind.i64 (11))), (.sc (.int Go.IntKind.i64 (1))), (.sc (.int Go.IntKind.i64 (9)))]), (.agg [(.sc (.int Go.IntKind.i64 (12))), (.sc (.int Go.IntKind.i64 (0))), (.sc (.int Go.IntKind.i64 (12)))]), (.agg [(.sc (.int Go.IntKind.i64 (12))), (.sc (.int Go.IntKind.i64 (1))), (.sc (.int Go.IntKind.i64 (7)))]), (.agg [(.sc (.int Go.IntKind.i64 (13))), (.sc (.int Go.IntKind.i64 (0))), (.sc (.int Go.IntKind.i64 (15)))]), (.agg [(.sc (.int Go.IntKind.i64 (13))), (.sc (.int Go.IntKind.i64 (1))), (.sc (.int Go.IntKind.i64 (16)))])]), (.sc (.bool false))]), k71, k171], [(.ret (.tuple [(.sc (.int Go.IntKind.i64 (14))), (.sc (.bool true))]))]⟩
noncomputable def F316 : Abs.FTab := F315.memoT [m316]
def m317 : Abs.Mem :=
  ⟨77, [k170, k83], [(.ret (.tuple [k170, (.sc (.int Go.IntKind.i64 (0)))]))]⟩
noncomputable def F317 : Abs.FTab := F316.memo [m317]
def m318 : Abs.Mem :=
  ⟨190, [k170, (.sc (.int Go.IntKind.i64 (2))), (.sc (.int Go.IntKind.i64 (0)))], [(.ret (.tuple [k120, (.sc (.int Go.IntKind.i64 (0)))]))]⟩
noncomputable def F318 : Abs.FTab := F317.memo [m318]
def m319 : Abs.Mem :=
  ⟨80, [k64, k171, (.sc (.int Go.IntKind.i64 (1)))], [(.ret (.tuple [k123, (.sc (.bool true)), (.sc (.int Go.IntKind.i64 (0)))]))]⟩
noncomputable def F319 : Abs.FTab := F318.memo [m319]
def m320 : Abs.Mem :=
  ⟨34, [(.iptr [k190, (.data 3 false [(.agg [(.sc (.int Go.IntKind.i64 (0))), (.sc (.int Go.IntKind.i64 (0))), (.sc (.int Go.IntKind.i64 (1)))]), (.agg [(.sc (.int Go.IntKind.i64 (0))), (.sc (.int Go.IntKind.i64 (1))), (.sc (.int Go.IntKind.i64 (2)))]), (.agg [(.sc (.int Go.IntKind.i64 (1))), (.sc (.int Go.IntKind.i64 (0))), (.sc (.int Go.IntKind.i64 (3)))]), (.agg [(.sc (.int Go.IntKind.i64 (1))), (.sc (.int Go.IntKind.i64 (1))), (.sc (.int Go.IntKind.i64 (4)))]), (.agg [(.sc (.int Go.IntKind.i64 (2))), (.sc (.int Go.IntKind.i64 (0))), (.sc (.int Go.IntKind.i64 (5)))]), (.agg [(.sc (.int Go.IntKind.i64 (2))), (.sc (.int Go.IntKind.i64 (1))), (.sc (.int Go.IntKind.i64 (6)))]), (.agg [(.sc (.int Go.IntKind.i64 (3))), (.sc (.int Go.IntKind.i64 (0))), (.sc (.int Go.IntKind.i64 (3)))]), (.agg [(.sc (.int Go.IntKind.i64 (3))), (.sc (.int Go.IntKind.i64 (1))), (.sc (.int Go.IntKind.i64 (7)))]), (.agg [(.sc (.int Go.IntKind.i64 (4))), (.sc (.int Go.IntKind.i64 (0))), (.sc (.int Go.IntKind.i64 (8)))]), (.agg [(.sc (.int Go.IntKind.i64 (4))), (.sc (.int Go.IntKind.i64 (1))), (.sc (.int Go.IntKind.i64 (9)))]), (.agg [(.sc (.int Go.IntKind.i64 (5))), (.sc (.int Go.IntKind.i64 (0))), (.sc (.int Go.IntKind.i64 (10)))]), (.agg [(.sc (.int Go.IntKind.i64 (5))), (.sc (.int Go.IntKind.i64 (1))), (.sc (.int Go.IntKind.i64 (4)))]), (.agg [(.sc (.int Go.IntKind.i64 (6))), (.sc (.int Go.IntKind.i64 (0))), (.sc (.int Go.IntKind.i64 (11)))]), (.agg [(.sc (.int Go.IntKind.i64 (7))), (.sc (.int Go.IntKind.i64 (0))), (.sc (.int Go.IntKind.i64 (7)))]), (.agg [(.sc (.int Go.IntKind.i64 (7))), (.sc (.int Go.IntKind.i64 (1))), (.sc (.int Go.IntKind.i64 (7)))]), (.agg [(.sc (.int Go.IntKind.i64 (8))), (.sc (.int Go.IntKind.i64 (0))), (.sc (.int Go.IntKind.i64 (8)))]), (.agg [(.sc (.int Go.IntKind.i64 (8))), (.sc (.int Go.IntKind.i64 (1))), (.sc (.int Go.IntKind.i64 (7)))]), (.agg [(.sc (.int Go.IntKind.i64 (9))), (.sc (.int Go.IntKind.i64 (0))), (.sc (.int Go.IntKind.i64 (12)))]), (.agg [(.sc (.int Go.IntKind.i64 (9))), (.sc (.int Go.IntKind.i64 (1))), (.sc (.int Go.IntKind.i64 (13)))]), (.agg [(.sc (.int Go.IntKind.i64 (10))), (.sc (.int Go.IntKind.i64 (0))), (.sc (.int Go.IntKind.i64 (10)))]), (.agg [(.sc (.int Go.IntKind.i64 (10))), (.sc (.int Go.IntKind.i64 (1))), (.sc (.int Go.IntKind.i64 (7)))]), (.agg [(.sc (.int Go.IntKind.i64 (11))), (.sc (.int Go.IntKind.i64 (0))), (.sc (.int Go.IntKind.i64 (14)))]), (.agg [(.sc (.int Go.IntKind.i64 (11))), (.sc (.int Go.IntKind.i64 (1))), (.sc (.int Go.IntKind.i64 (9)))]), (.agg [(.sc (.int Go.IntKind.i64 (12))), (.sc (.int Go.IntKind.i64 (0))), (.sc (.int Go.IntKind.i64 (12)))]), (.agg [(.sc (.int Go.IntKind.i64 (12))), (.sc (.int Go.IntKind.i64 (1))), (.sc (.int Go.IntKind.i64 (7)))]), (.agg [(.sc (.int Go.IntKind.i64 (13))), (.sc (.int Go.IntKind.i64 (0))), (.sc (.int Go.IntKind.i64 (15)))]), (.agg [(.sc (.int Go.IntKind.i64 (13))), (.sc (.int Go.IntKind.i64 (1))), (.sc (.int Go.IntKind.i64 (16)))]), (.agg [(.sc (.int Go.IntKind.i64 (14))), (.sc (.int Go.IntKind.i64 (0))), (.sc (.int Go.IntKind.i64 (14)))])]), (.sc (.bool false))]), k71, k123], [(.ret (.tuple [(.sc (.int Go.IntKind.i64 (7))), (.sc (.bool true))]))]⟩
noncomputable def F320 : Abs.FTab := F319.memoT [m320]
def m321 : Abs.Mem :=
  ⟨77, [k179, k28], [(.ret (.tuple [k179, (.sc (.int Go.IntKind.i64 (0)))]))]⟩
noncomputable def F321 : Abs.FTab := F320.memo [m321]
def m322 : Abs.Mem :=
  ⟨80, [k64, k180, (.sc (.int Go.IntKind.i64 (0)))], [(.ret (.tuple [k180, (.sc (.bool true)), (.sc (.int Go.IntKind.i64 (0)))]))]⟩
noncomputable def F322 : Abs.FTab := F321.memo [m322]
def m323 : Abs.Mem :=
  ⟨34, [(.iptr [k190, (.data 3 false [(.agg [(.sc (.int Go.IntKind.i64 (0))), (.sc (.int Go.IntKind.i64 (0))), (.sc (.int Go.IntKind.i64 (1)))]), (.agg [(.sc (.int Go.IntKind.i64 (0))), (.sc (.int Go.IntKind.i64 (1))), (.sc (.int Go.IntKind.i64 (2)))]), (.agg [(.sc (.int Go.IntKind.i64 (1))), (.sc (.int Go.IntKind.i64 (0))), (.sc (.int Go.IntKind.i64 (3)))]), (.agg [(.sc (.int Go.IntKind.i64 (1))), (.sc (.int Go.IntKind.i64 (1))), (.sc (.int Go.IntKind.i64 (4)))]), (.agg [(.sc (.int Go.IntKind.i64 (2))), (.sc (.int Go.IntKind.i64 (0))), (.sc (.int Go.IntKind.i64 (5)))]), (.agg [(.sc (.int Go.IntKind.i64 (2))), (.sc (.int Go.IntKind.i64 (1))), (.sc (.int Go.IntKind.i64 (6)))]), (.agg [(.sc (.int Go.IntKind.i64 (3))), (.sc (.int Go.IntKind.i64 (0))), (.sc (.int Go.IntKind.i64 (3)))]), (.agg [(.sc (.int Go.IntKind.i64 (3))), (.sc (.int Go.IntKind.i64 (1))), (.sc (.int Go.IntKind.i64 (7)))]), (.agg [(.sc (.int Go.IntKind.i64 (4))), (.sc (.int Go.IntKind.i64 (0))), (.sc (.int Go.IntKind.i64 (8)))]), (.agg [(.sc (.int Go.IntKind.i64 (4))), (.sc (.int Go.IntKind.i64 (1))), (.sc (.int Go.IntKind.i64 (9)))]), (.agg [(.sc (.int Go.IntKind.i64 (5))), (.sc (.int Go.IntKind.i64 (0))), (.sc (.int Go.IntKind.i64 (10)))]), (.agg [(.sc (.int Go.IntKind.i64 (5))), (.sc (.int Go.IntKind.i64 (1))), (.sc (.int Go.IntKind.i64 (4)))]), (.agg [(.sc (.int Go.IntKind.i64 (6))), (.sc (.int Go.IntKind.i64 (0))), (.sc (.int Go.IntKind.i64 (11)))]), (.agg [(.sc (.int Go.IntKind.i64 (7))), (.sc (.int Go.IntKind.i64 (0))), (.sc (.int Go.IntKind.i64 (7)))]), (.agg [(.sc (.int Go.IntKind.i64 (7))), (.sc (.int Go.IntKind.i64 (1))), (.sc (.int Go.IntKind.i64 (7)))]), (.agg [(.sc (.int Go.IntKind.i64 (8))), (.sc (.int Go.IntKind.i64 (0))), (.sc (.int Go.IntKind.i64 (8)))]), (.agg [(.sc (.int Go.IntKind.i64 (8))), (.sc (.int Go.IntKind.i64 (1))), (.sc (.int Go.IntKind.i64 (7)))]), (.agg [(.sc (.int Go.IntKind.i64 (9))), (.sc (.int Go.IntKind.i64 (0))), (.sc (.int Go.IntKind.i64 (12)))]), (.agg [(.sc (.int Go.IntKind.i64 (9))), (.sc (.int Go.IntKind.i64 (1))), (.sc (.int Go.IntKind.i64 (13)))]), (.agg [(.sc (.int Go.IntKind.i64 (10))), (.sc (.int Go.IntKind.i64 (0))), (.sc (.int Go.IntKind.i64 (10)))]), (.agg [(.sc (.int Go.IntKind.i64 (10))), (.sc (.int Go.IntKind.i64 (1))), (.sc (.int Go.IntKind.i64 (7)))]), (.agg [(.sc (.int Go.IntKind.i64 (11))), (.sc (.int Go.IntKind.i64 (0))), (.sc (.int Go.IntKind.i64 (14)))]), (.agg [(.sc (.int Go.IntKind.i64 (11))), (.sc (.int Go.IntKind.i64 (1))), (.sc (.int Go.IntKind.i64 (9)))]), (.agg [(.sc (.int Go.IntKind.i64 (12))), (.sc (.int Go.IntKind.i64 (0))), (.sc (.int Go.IntKind.i64 (12)))]), (.agg [(.sc (.int Go.IntKind.i64 (12))), (.sc (.int Go.IntKind.i64 (1))), (.sc (.int Go.IntKind.i64 (7)))]), (.agg [(.sc (.int Go.IntKind.i64 (13))), (.sc (.int Go.IntKind.i64 (0))), (.sc (.int Go.IntKind.i64 (15)))]), (.agg [(.sc (.int Go.IntKind.i64 (13))), (.sc (.int Go.IntKind.i64 (1))), (.sc (.int Go.IntKind.i64 (16)))]), (.agg [(.sc (.int Go.IntKind.i64 (14))), (.sc (.int Go.IntKind.i64 (0))), (.sc (.int Go.IntKind.i64 (14)))]), (.agg [(.sc (.int Go.IntKind.i64 (14))), (.sc (.int Go.IntKind.i64 (1))), (.sc (.int Go.IntKind.i64 (7)))])]), (.sc (.bool false))]), k71, k180], [(.ret (.tuple [(.sc (.int Go.IntKind.i64 (15))), (.sc (.bool true))]))]⟩
noncomputable def F323 : Abs.FTab := F322.memoT [m323]
def k191 : Abs.AVal := .data 1 false [(.sc (.int Go.IntKind.i64 (1))), (.sc (.int Go.IntKind.i64 (-6))), (.sc (.int Go.IntKind.i64 (-1))), (.sc (.int Go.IntKind.i64 (1099511627776))), (.sc (.int Go.IntKind.i64 (1))), (.sc (.int Go.IntKind.i64 (1099511627776))), (.sc (.int Go.IntKind.i64 (1099511627776))), (.sc (.int Go.IntKind.i64 (-3))), (.sc (.int Go.IntKind.i64 (1)))]
def k192 : Abs.AVal := .agg [(.sc (.int Go.IntKind.i64 (2))), k191]
def m324 : Abs.Mem :=
  ⟨77, [k179, k83], [(.ret (.tuple [k192, (.sc (.int Go.IntKind.i64 (0)))]))]⟩
noncomputable def F324 : Abs.FTab := F323.memo [m324]
def m325 : Abs.Mem :=
  ⟨128, [k192], [(.ret (.sc (.int Go.IntKind.i64 (0))))]⟩
noncomputable def F325 : Abs.FTab := F324.memo [m325]
def m326 : Abs.Mem :=
  ⟨190, [k192, (.sc (.int Go.IntKind.i64 (2))), (.sc (.int Go.IntKind.i64 (0)))], [(.ret (.tuple [k120, (.sc (.int Go.IntKind.i64 (0)))]))]⟩
noncomputable def F326 : Abs.FTab := F325.memo [m326]
def m327 : Abs.Mem :=
  ⟨80, [k64, k180, (.sc (.int Go.IntKind.i64 (1)))], [(.ret (.tuple [k123, (.sc (.bool true)), (.sc (.int Go.IntKind.i64 (0)))]))]⟩
noncomputable def F327 : Abs.FTab := F326.memo [m327]
def m328 : Abs.Mem :=
  ⟨34, [(.iptr [k190, (.data 3 false [(.agg [(.sc (.int Go.IntKind.i64 (0))), (.sc (.int Go.IntKind.i64 (0))), (.sc (.int Go.IntKind.i64 (1)))]), (.agg [(.sc (.int Go.IntKind.i64 (0))), (.sc (.int Go.IntKind.i64 (1))), (.sc (.int Go.IntKind.i64 (2)))]), (.agg [(.sc (.int Go.IntKind.i64 (1))), (.sc (.int Go.IntKind.i64 (0))), (.sc (.int Go.IntKind.i64 (3)))]), (.agg [(.sc (.int Go.IntKind.i64 (1))), (.sc (.int Go.IntKind.i64 (1))), (.sc (.int Go.IntKind.i64 (4)))]), (.agg [(.sc (.int Go.IntKind.i64 (2))), (.sc (.int Go.IntKind.i64 (0))), (.sc (.int Go.IntKind.i64 (5)))]), (.agg [(.sc (.int Go.IntKind.i64 (2))), (.sc (.int Go.IntKind.i64 (1))), (.sc (.int Go.IntKind.i64 (6)))]), (.agg [(.sc (.int Go.IntKind.i64 (3))), (.sc (.int Go.IntKind.i64 (0))), (.sc (.int Go.IntKind.i64 (3)))]), (.agg [(.sc (.int Go.IntKind.i64 (3))), (.sc (.int Go.IntKind.i64 (1))), (.sc (.int Go.IntKind.i64 (7)))]), (.agg [(.sc (.int Go.IntKind.i64 (4))), (.sc (.int Go.IntKind.i64 (0))), (.sc (.int Go.IntKind.i64 (8)))]), (.agg [(.sc (.int Go.IntKind.i64 (4))), (.sc (.int Go.IntKind.i64 (1))), (.sc (.int Go.IntKind.i64 (9)))]), (.agg [(.sc (.int Go.IntKind.i64 (5))), (.sc (.int Go.IntKind.i64 (0))), (.sc (.int Go.IntKind.i64 (10)))]), (.agg [(.sc (.int Go.IntKind.i64 (5))), (.sc (.int Go.IntKind.i64 (1))), (.sc (.int Go.IntKind.i64 (4)))]), (.agg [(.sc (.int Go.IntKind.i64 (6))), (.sc (.int Go.IntKind.i64 (0))), (.sc (.int Go.IntKind.i64 (11)))]), (.agg [(.sc (.int Go.IntKind.i64 (7))), (.sc (.int Go.IntKind.i64 (0))), (.sc (.int Go.IntKind.i64 (7)))]), (.agg [(.sc (.int Go.IntKind.i64 (7))), (.sc (.int Go.IntKind.i64 (1))), (.sc (.int Go.IntKind.i64 (7)))]), (.agg [(.sc (.int Go.IntKind.i64 (8))), (.sc (.int Go.IntKind.i64 (0))), (.sc (.int Go.IntKind.i64 (8)))]), (.agg [(.sc (.int Go.IntKind.i64 (8))), (.sc (.int Go.IntKind.i64 (1))), (.sc (.int Go.IntKind.i64 (7)))]), (.agg [(.sc (.int Go.IntKind.i64 (9))), (.sc (.int Go.IntKind.i64 (0))), (.sc (.int Go.IntKind.i64 (12)))]), (.agg [(.sc (.int Go.IntKind.i64 (9))), (.sc (.int Go.IntKind.i64 (1))), (.sc (.int Go.IntKind.i64 (13)))]), (.agg [(.sc (.int Go.IntKind.i64 (10))), (.sc (.int Go.IntKind.i64 (0))), (.sc (.int Go.IntKind.i64 (10)))]), (.agg [(.sc (.int Go.IntKind.i64 (10))), (.sc (.int Go.IntKind.i64 (1))), (.sc (.int Go.IntKind.i64 (7)))]), (.agg [(.sc (.int Go.IntKind.i64 (11))), (.sc (.int Go.IntKind.i64 (0))), (.sc (.int Go.IntKind.i64 (14)))]), (.agg [(.sc (.int Go.IntKind.i64 (11))), (.sc (.int Go.IntKind.i64 (1))), (.sc (.int Go.IntKind.i64 (9)))]), (.agg [(.sc (.int Go.IntKind.i64 (12))), (.sc (.int Go.IntKind.i64 (0))), (.sc (.int Go.IntKind.i64 (12)))]), (.agg [(.sc (.int Go.IntKind.i64 (12))), (.sc (.int Go.IntKind.i64 (1))), (.sc (.int Go.IntKind.i64 (7)))]), (.agg [(.sc (.int Go.IntKind.i64 (13))), (.sc (.int Go.IntKind.i64 (0))), (.sc (.int Go.IntKind.i64 (15)))]), (.agg [(.sc (.int Go.IntKind.i64 (13))), (.sc (.int Go.IntKind.i64 (1))), (.sc (.int Go.IntKind.i64 (16)))]), (.agg [(.sc (.int Go.IntKind.i64 (14))), (.sc (.int Go.IntKind.i64 (0))), (.sc (.int Go.IntKind.i64 (14)))]), (.agg [(.sc (.int Go.IntKind.i64 (14))), (.sc (.int Go.IntKind.i64 (1))), (.sc (.int Go.IntKind.i64 (7)))]), (.agg [(.sc (.int Go.IntKind.i64 (15))), (.sc (.int Go.IntKind.i64 (0))), (.sc (.int Go.IntKind.i64 (15)))])]), (.sc (.bool false))]), k71, k123], [(.ret (.tuple [(.sc (.int Go.IntKind.i64 (7))), (.sc (.bool true))]))]⟩
noncomputable def F328 : Abs.FTab := F327.memoT [m328]
def k193 : Abs.AVal := .data 1 false [(.sc (.int Go.IntKind.i64 (1))), (.sc (.int Go.IntKind.i64 (-6))), (.sc (.int Go.IntKind.i64 (1))), (.sc (.int Go.IntKind.i64 (1099511627776))), (.sc (.int Go.IntKind.i64 (1))), (.sc (.int Go.IntKind.i64 (1099511627776))), (.sc (.int Go.IntKind.i64 (1099511627776))), (.sc (.int Go.IntKind.i64 (-5))), (.sc (.int Go.IntKind.i64 (1)))]
def k194 : Abs.AVal := .agg [(.sc (.int Go.IntKind.i64 (2))), k193]
def m329 : Abs.Mem :=
  ⟨77, [k186, k28], [(.ret (.tuple [k194, (.sc (.int Go.IntKind.i64 (0)))]))]⟩
noncomputable def F329 : Abs.FTab := F328.memo [m329]
def m330 : Abs.Mem :=
  ⟨128, [k194], [(.ret (.sc (.int Go.IntKind.i64 (0))))]⟩
noncomputable def F330 : Abs.FTab := F329.memo [m330]
def m331 : Abs.Mem :=
  ⟨77, [k194, (.sc (.slice none 0 0))], [(.ret (.tuple [k194, (.sc (.int Go.IntKind.i64 (0)))]))]⟩
noncomputable def F331 : Abs.FTab := F330.memo [m331]
def m332 : Abs.Mem :=
  ⟨139, [k194, (.sc (.bool true)), (.func (.func 175) [] [])], [(.ret (.tuple [k194, (.sc (.int Go.IntKind.i64 (0)))]))]⟩
noncomputable def F332 : Abs.FTab := F331.memo [m332]
def m333 : Abs.Mem :=
  ⟨123, [k194, (.iptr [(.sc (.int Go.IntKind.i64 (2))), (.data 4 true []), (.data 3 true []), (.sc (.slice none 0 0)), k63]), (.iptr [(.data 1 false [(.sc (.int Go.IntKind.i64 (1))), (.sc (.int Go.IntKind.i64 (0)))]), (.data 1 false [])])], [(.ret (.tuple [k194, (.sc (.int Go.IntKind.i64 (0)))]))]⟩
noncomputable def F333 : Abs.FTab := F332.memo [m333]
def k195 : Abs.AVal := .agg [(.data 1 false [(.sc (.int Go.IntKind.i64 (1))), (.sc (.int Go.IntKind.i64 (0)))]), (.data 1 true []), (.sc (.int Go.IntKind.i64 (2))), k193]
def m334 : Abs.Mem :=
  ⟨80, [k64, k187, (.sc (.int Go.IntKind.i64 (0)))], [(.ret (.tuple [k195, (.sc (.bool true)), (.sc (.int Go.IntKind.i64 (0)))]))]⟩
noncomputable def F334 : Abs.FTab := F333.memo [m334]
def m335 : Abs.Mem :=
  ⟨30, [k64, k71, k195], [(.ret (.tuple [k195, (.sc (.int Go.IntKind.i64 (0)))]))]⟩
noncomputable def F335 : Abs.FTab := F334.memo [m335]
def m336 : Abs.Mem :=
  ⟨41, [k64, k195], [(.ret (.sc (.int Go.IntKind.i64 (0))))]⟩
noncomputable def F336 : Abs.FTab := F335.memo [m336]
def m337 : Abs.Mem :=
  ⟨34, [(.iptr [k190, (.data 3 false [(.agg [(.sc (.int Go.IntKind.i64 (0))), (.sc (.int Go.IntKind.i64 (0))), (.sc (.int Go.IntKind.i64 (1)))]), (.agg [(.sc (.int Go.IntKind.i64 (0))), (.sc (.int Go.IntKind.i64 (1))), (.sc (.int Go.IntKind.i64 (2)))]), (.agg [(.sc (.int Go.IntKind.i64 (1))), (.sc (.int Go.IntKind.i64 (0))), (.sc (.int Go.IntKind.i64 (3)))]), (.agg [(.sc (.int Go.IntKind.i64 (1))), (.sc (.int Go.IntKind.i64 (1))), (.sc (.int Go.IntKind.i64 (4)))]), (.agg [(.sc (.int Go.IntKind.i64 (2))), (.sc (.int Go.IntKind.i64 (0))), (.sc (.int Go.IntKind.i64 (5)))]), (.agg [(.sc (.int Go.IntKind.i64 (2))), (.sc (.int Go.IntKind.i64 (1))), (.sc (.int Go.IntKind.i64 (6)))]), (.agg [(.sc (.int Go.IntKind.i64 (3))), (.sc (.int Go.IntKind.i64 (0))), (.sc (.int Go.IntKind.i64 (3)))]), (.agg [(.sc (.int Go.IntKind.i64 (3))), (.sc (.int Go.IntKind.i64 (1))), (.sc (.int Go.IntKind.i64 (7)))]), (.agg [(.sc (.int Go.IntKind.i64 (4))), (.sc (.int Go.IntKind.i64 (0))), (.sc (.int Go.IntKind.i64 (8)))]), (.agg [(.sc (.int Go.IntKind.i64 (4))), (.sc (.int Go.IntKind.i64 (1))), (.sc (.int Go.IntKind.i64 (9)))]), (.agg [(.sc (.int Go.IntKind.i64 (5))), (.sc (.int Go.IntKind.i64 (0))), (.sc (.int Go.IntKind.i64 (10)))]), (.agg [(.sc (.int Go.IntKind.i64 (5))), (.sc (.int Go.IntKind.i64 (1))), (.sc (.int Go.IntKind.i64 (4)))]), (.agg [(.sc (.int Go.IntKind.i64 (6))), (.sc (.int Go.IntKind.i64 (0))), (.sc (.int Go.IntKind.i64 (11)))]), (.agg [(.sc (.int Go.IntKind.i64 (7))), (.sc (.int Go.IntKind.i64 (0))), (.sc (.int Go.IntKind.i64 (7)))]), (.agg [(.sc (.int Go.IntKind.i64 (7))), (.sc (.int Go.IntKind.i64 (1))), (.sc (.int Go.IntKind.i64 (7)))]), (.agg [(.sc (.int Go.IntKind.i64 (8))), (.sc (.int Go.IntKind.i64 (0))), (.sc (.int Go.IntKind.i64 (8)))]), (.agg [(.sc (.int Go.IntKind.i64 (8))), (.sc (.int Go.IntKind.i64 (1))), (.sc (.int Go.IntKind.i64 (7)))]), (.agg [(.sc (.int Go.IntKind.i64 (9))), (.sc (.int Go.IntKind.i64 (0))), (.sc (.int Go.IntKind.i64 (12)))]), (.agg [(.sc (.int Go.IntKind.i64 (9))), (.sc (.int Go.IntKind.i64 (1))), (.sc (.int Go.IntKind.i64 (13)))]), (.agg [(.sc (.int Go.IntKind.i64 (10))), (.sc (.int Go.IntKind.i64 (0))), (.sc (.int Go.IntKind.i64 (10)))]), (.agg [(.sc (.int Go.IntKind.i64 (10))), (.sc (.int Go.IntKind.i64 (1))), (.sc (.int Go.IntKind.i64 (7)))]), (.agg [(.sc (.int Go.IntKind.i64 (11))), (.sc (.int Go.IntKind.i64 (0))), (.sc (.int Go.IntKind.i64 (14)))]), (.agg [(.sc (.int Go.IntKind.i64 (11))), (.sc (.int Go.IntKind.i64 (1))), (.sc (.int Go.IntKind.i64 (9)))]), (.agg [(.sc (.int Go.IntKind.i64 (12))), (.sc (.int Go.IntKind.i64 (0))), (.sc (.int Go.IntKind.i64 (12)))]), (.agg [(.sc (.int Go.IntKind.i64 (12))), (.sc (.int Go.IntKind.i64 (1))), (.sc (.int Go.IntKind.i64 (7)))]), (.agg [(.sc (.int Go.IntKind.i64 (13))), (.sc (.int Go.IntKind.i64 (0))), (.sc (.int Go.IntKind.i64 (15)))]), (.agg [(.sc (.int Go.IntKind.i64 (13))), (.sc (.int Go.IntKind.i64 (1))), (.sc (.int Go.IntKind.i64 (16)))]), (.agg [(.sc (.int Go.IntKind.i64 (14))), (.sc (.int Go.IntKind.i64 (0))), (.sc (.int Go.IntKind.i64 (14)))]), (.agg [(.sc (.int Go.IntKind.i64 (14))), (.sc (.int Go.IntKind.i64 (1))), (.sc (.int Go.IntKind.i64 (7)))]), (.agg [(.sc (.int Go.IntKind.i64 (15))), (.sc (.int Go.IntKind.i64 (0))), (.sc (.int Go.IntKind.i64 (15)))]), (.agg [(.sc (.int Go.IntKind.i64 (15))), (.sc (.int Go.IntKind.i64 (1))), (.sc (.int Go.IntKind.i64 (7)))])]), (.sc (.bool false))]), k71, k195], [(.ret (.tuple [(.sc (.int Go.IntKind.i64 (0))), (.sc (.bool false))]))]⟩
noncomputable def F337 : Abs.FTab := F336.memoT [m337]
def k196 : Abs.AVal := .data 1 false [(.sc (.int Go.IntKind.i64 (1))), (.sc (.int Go.IntKind.i64 (-7))), (.sc (.int Go.IntKind.i64 (-1))), (.sc (.int Go.IntKind.i64 (1099511627776))), (.sc (.int Go.IntKind.i64 (1))), (.sc (.int Go.IntKind.i64 (1099511627776))), (.sc (.int Go.IntKind.i64 (1099511627776))), (.sc (.int Go.IntKind.i64 (-5))), (.sc (.int Go.IntKind.i64 (1)))]
def k197 : Abs.AVal := .agg [(.sc (.int Go.IntKind.i64 (2))), k196]
def m338 : Abs.Mem :=
  ⟨77, [k186, k83], [(.ret (.tuple [k197, (.sc (.int Go.IntKind.i64 (0)))]))]⟩
noncomputable def F338 : Abs.FTab := F337.memo [m338]
def m339 : Abs.Mem :=
  ⟨128, [k197], [(.ret (.sc (.int Go.IntKind.i64 (0))))]⟩
noncomputable def F339 : Abs.FTab := F338.memo [m339]
def k198 : Abs.AVal := .data 1 false [(.sc (.int Go.IntKind.i64 (1))), (.sc (.int Go.IntKind.i64 (-7))), (.sc (.int Go.IntKind.i64 (1))), (.sc (.int Go.IntKind.i64 (1099511627776))), (.sc (.int Go.IntKind.i64 (1))), (.sc (.int Go.IntKind.i64 (1099511627776))), (.sc (.int Go.IntKind.i64 (1))), (.sc (.int Go.IntKind.i64 (-7))), (.sc (.int Go.IntKind.i64 (1)))]
def k199 : Abs.AVal := .agg [(.sc (.int Go.IntKind.i64 (2))), k198]
def m340 : Abs.Mem :=
  ⟨190, [k197, (.sc (.int Go.IntKind.i64 (2))), (.sc (.int Go.IntKind.i64 (0)))], [(.ret (.tuple [k199, (.sc (.int Go.IntKind.i64 (0)))]))]⟩
noncomputable def F340 : Abs.FTab := F339.memo [m340]
def m341 : Abs.Mem :=
  ⟨128, [k199], [(.ret (.sc (.int Go.IntKind.i64 (0))))]⟩
noncomputable def F341 : Abs.FTab := F340.memo [m341]
def m342 : Abs.Mem :=
  ⟨77, [k199, (.sc (.slice none 0 0))], [(.ret (.tuple [k199, (.sc (.int Go.IntKind.i64 (0)))]))]⟩
noncomputable def F342 : Abs.FTab := F341.memo [m342]
def k200 : Abs.AVal := .data 1 false [(.sc (.int Go.IntKind.i64 (1))), (.sc (.int Go.IntKind.i64 (-7))), (.sc (.int Go.IntKind.i64 (1))), (.sc (.int Go.IntKind.i64 (1099511627776))), (.sc (.int Go.IntKind.i64 (1))), (.sc (.int Go.IntKind.i64 (1099511627776))), (.sc (.int Go.IntKind.i64 (1099511627776))), (.sc (.int Go.IntKind.i64 (-7))), (.sc (.int Go.IntKind.i64 (1)))]
def k201 : Abs.AVal := .agg [(.sc (.int Go.IntKind.i64 (2))), k200]
def m343 : Abs.Mem :=
  ⟨139, [k199, (.sc (.bool true)), (.func (.func 175) [] [])], [(.ret (.tuple [k201, (.sc (.int Go.IntKind.i64 (0)))]))]⟩
noncomputable def F343 : Abs.FTab := F342.memo [m343]
def m344 : Abs.Mem :=
  ⟨128, [k201], [(.ret (.sc (.int Go.IntKind.i64 (0))))]⟩
noncomputable def F344 : Abs.FTab := F343.memo [m344]
def m345 : Abs.Mem :=
  ⟨77, [k201, (.sc (.slice none 0 0))], [(.ret (.tuple [k201, (.sc (.int Go.IntKind.i64 (0)))]))]⟩
noncomputable def F345 : Abs.FTab := F344.memo [m345]
def m346 : Abs.Mem :=
  ⟨123, [k199, (.iptr [(.sc (.int Go.IntKind.i64 (2))), (.data 4 true []), (.data 3 true []), (.sc (.slice none 0 0)), k63]), (.iptr [(.data 1 false [(.sc (.int Go.IntKind.i64 (1))), (.sc (.int Go.IntKind.i64 (0)))]), (.data 1 false [])])], [(.ret (.tuple [k201, (.sc (.int Go.IntKind.i64 (0)))]))]⟩
noncomputable def F346 : Abs.FTab := F345.memo [m346]
def k202 : Abs.AVal := .agg [(.data 1 false [(.sc (.int Go.IntKind.i64 (1))), (.sc (.int Go.IntKind.i64 (0)))]), (.data 1 true []), (.sc (.int Go.IntKind.i64 (2))), k200]
def m347 : Abs.Mem :=
  ⟨80, [k64, k187, (.sc (.int Go.IntKind.i64 (1)))], [(.ret (.tuple [k202, (.sc (.bool true)), (.sc (.int Go.IntKind.i64 (0)))]))]⟩
noncomputable def F347 : Abs.FTab := F346.memo [m347]
def m348 : Abs.Mem :=
  ⟨30, [k64, k71, k202], [(.ret (.tuple [k123, (.sc (.int Go.IntKind.i64 (0)))]))]⟩
noncomputable def F348 : Abs.FTab := F347.memo [m348]
def k203 : Abs.AVal := .agg [(.data 1 false [(.sc (.int Go.IntKind.i64 (1))), (.sc (.int Go.IntKind.i64 (0)))]), (.data 1 true []), (.sc (.int Go.IntKind.i64 (2))), k193, (.sc (.int Go.IntKind.i64 (16))), (.sc (.int Go.IntKind.i64 (0)))]
def k204 : Abs.AVal := .data 6 false [k99, k100, k101, k102, k108, k116, k117, k127, k135, k139, k142, k145, k166, k167, k174, k188, k189, k203]
def m349 : Abs.Mem :=
  ⟨34, [(.iptr [k204, (.data 3 false [(.agg [(.sc (.int Go.IntKind.i64 (0))), (.sc (.int Go.IntKind.i64 (0))), (.sc (.int Go.IntKind.i64 (1)))]), (.agg [(.sc (.int Go.IntKind.i64 (0))), (.sc (.int Go.IntKind.i64 (1))), (.sc (.int Go.IntKind.i64 (2)))]), (.agg [(.sc (.int Go.IntKind.i64 (1))), (.sc (.int Go.IntKind.i64 (0))), (.sc (.int Go.IntKind.i64 (3)))]), (.agg [(.sc (.int Go.IntKind.i64 (1))), (.sc (.int Go.IntKind.i64 (1))), (.sc (.int Go.IntKind.i64 (4)))]), (.agg [(.sc (.int Go.IntKind.i64 (2))), (.sc (.int Go.IntKind.i64 (0))), (.sc (.int Go.IntKind.i64 (5)))]), (.agg [(.sc (.int Go.IntKind.i64 (2))), (.sc (.int Go.IntKind.i64 (1))), (.sc (.int Go.IntKind.i64 (6)))]), (.agg [(.sc (.int Go.IntKind.i64 (3))), (.sc (.int Go.IntKind.i64 (0))), (.sc (.int Go.IntKind.i64 (3)))]), (.agg [(.sc (.int Go.IntKind.i64 (3))), (.sc (.int Go.IntKind.i64 (1))), (.sc (.int Go.IntKind.i64 (7)))]), (.agg [(.sc (.int Go.IntKind.i64 (4))), (.sc (.int Go.IntKind.i64 (0))), (.sc (.int Go.IntKind.i64 (8)))]), (.agg [(.sc (.int Go.IntKind.i64 (4))), (.sc (.int Go.IntKind.i64 (1))), (.sc (.int Go.IntKind.i64 (9)))]), (.agg [(.sc (.int Go.IntKind.i64 (5))), (.sc (.int Go.IntKind.i64 (0))), (.sc (.int Go.IntKind.i64 (10)))]), (.agg [(.sc (.int Go.IntKind.i64 (5))), (.sc (.int Go.IntKind.i64 (1))), (.sc (.int Go.IntKind.i64 (4)))]), (.agg [(.sc (.int Go.IntKind.i64 (6))), (.sc (.int Go.IntKind.i64 (0))), (.sc (.int Go.IntKind.i64 (11)))]), (.agg [(.sc (.int Go.IntKind.i64 (7))), (.sc (.int Go.IntKind.i64 (0))), (.sc (.int Go.IntKind.i64 (7)))]), (.agg [(.sc (.int Go.IntKind.i64 (7))), (.sc (.int Go.IntKind.i64 (1))), (.sc (.int Go.IntKind.i64 (7)))]), (.agg [(.sc (.int Go.IntKind.i64 (8))), (.sc (.int Go.IntKind.i64 (0))), (.sc (.int Go.IntKind.i64 (8)))]), (.agg [(.sc (.int Go.IntKind.i64 (8))), (.sc (.int Go.IntKind.i64 (1))), (.sc (.int Go.IntKind.i64 (7)))]), (.agg [(.sc (.int Go.IntKind.i64 (9))), (.sc (.int Go.IntKind.i64 (0))), (.sc (.int Go.IntKind.i64 (12)))]), (.agg [(.sc (.int Go.IntKind.i64 (9))), (.sc (.int Go.IntKind.i64 (1))), (.sc (.int Go.IntKind.i64 (13)))]), (.agg [(.sc (.int Go.IntKind.i64 (10))), (.sc (.int Go.IntKind.i64 (0))), (.sc (.int Go.IntKind.i64 (10)))]), (.agg [(.sc (.int Go.IntKind.i64 (10))), (.sc (.int Go.IntKind.i64 (1))), (.sc (.int Go.IntKind.i64 (7)))]), (.agg [(.sc (.int Go.IntKind.i64 (11))), (.sc (.int Go.IntKind.i64 (0))), (.sc (.int Go.IntKind.i64 (14)))]), (.agg [(.sc (.int Go.IntKind.i64 (11))), (.sc (.int Go.IntKind.i64 (1))), (.sc (.int Go.IntKind.i64 (9)))]), (.agg [(.sc (.int Go.IntKind.i64 (12))), (.sc (.int Go.IntKind.i64 (0))), (.sc (.int Go.IntKind.i64 (12)))]), (.agg [(.sc (.int Go.IntKind.i64 (12))), (.sc (.int Go.IntKind.i64 (1))), (.sc (.int Go.IntKind.i64 (7)))]), (.agg [(.sc (.int Go.IntKind.i64 (13))), (.sc (.int Go.IntKind.i64 (0))), (.sc (.int Go.IntKind.i64 (15)))]), (.agg [(.sc (.int Go.IntKind.i64 (13))), (.sc (.int Go.IntKind.i64 (1))), (.sc (.int Go.IntKind.i64 (16)))]), (.agg [(.sc (.int Go.IntKind.i64 (14))), (.sc (.int Go.IntKind.i64 (0))), (.sc (.int Go.IntKind.i64 (14)))]), (.agg [(.sc (.int Go.IntKind.i64 (14))), (.sc (.int Go.IntKind.i64 (1))), (.sc (.int Go.IntKind.i64 (7)))]), (.agg [(.sc (.int Go.IntKind.i64 (15))), (.sc (.int Go.IntKind.i64 (0))), (.sc (.int Go.IntKind.i64 (15)))]), (.agg [(.sc (.int Go.IntKind.i64 (15))), (.sc (.int Go.IntKind.i64 (1))), (.sc (.int Go.IntKind.i64 (7)))]), (.agg [(.sc (.int Go.IntKind.i64 (16))), (.sc (.int Go.IntKind.i64 (0))), (.sc (.int Go.IntKind.i64 (17)))])]), (.sc (.bool false))]), k71, k123], [(.ret (.tuple [(.sc (.int Go.IntKind.i64 (7))), (.sc (.bool true))]))]⟩
noncomputable def F349 : Abs.FTab := F348.memoT [m349]
def m350 : Abs.Mem :=
  ⟨77, [k194, k28], [(.ret (.tuple [k194, (.sc (.int Go.IntKind.i64 (0)))]))]⟩
noncomputable def F350 : Abs.FTab := F349.memo [m350]
def m351 : Abs.Mem :=
  ⟨80, [k64, k195, (.sc (.int Go.IntKind.i64 (0)))], [(.ret (.tuple [k195, (.sc (.bool true)), (.sc (.int Go.IntKind.i64 (0)))]))]⟩
noncomputable def F351 : Abs.FTab := F350.memo [m351]
def m352 : Abs.Mem :=
  ⟨34, [(.iptr [k204, (.data 3 false [(.agg [(.sc (.int Go.IntKind.i64 (0))), (.sc (.int Go.IntKind.i64 (0))), (.sc (.int Go.IntKind.i64 (1)))]), (.agg [(.sc (.int Go.IntKind.i64 (0))), (.sc (.int Go.IntKind.i64 (1))), (.sc (.int Go.IntKind.i64 (2)))]), (.agg [(.sc (.int Go.IntKind.i64 (1))), (.sc (.int Go.IntKind.i64 (0))), (.sc (.int Go.IntKind.i64 (3)))]), (.agg [(.sc (.int Go.IntKind.i64 (1))), (.sc (.int Go.IntKind.i64 (1))), (.sc (.int Go.IntKind.i64 (4)))]), (.agg [(.sc (.int Go.IntKind.i64 (2))), (.sc (.int Go.IntKind.i64 (0))), (.sc (.int Go.IntKind.i64 (5)))]), (.agg [(.sc (.int Go.IntKind.i64 (2))), (.sc (.int Go.IntKind.i64 (1))), (.sc (.int Go.IntKind.i64 (6)))]), (.agg [(.sc (.int Go.IntKind.i64 (3))), (.sc (.int Go.IntKind.i64 (0))), (.sc (.int Go.IntKind.i64 (3)))]), (.agg [(.sc (.int Go.IntKind.i64 (3))), (.sc (.int Go.IntKind.i64 (1))), (.sc (.int Go.IntKind.i64 (7)))]), (.agg [(.sc (.int Go.IntKind.i64 (4))), (.sc (.int Go.IntKind.i64 (0))), (.sc (.int Go.IntKind.i64 (8)))]), (.agg [(.sc (.int Go.IntKind.i64 (4))), (.sc (.int Go.IntKind.i64 (1))), (.sc (.int Go.IntKind.i64 (9)))]), (.agg [(.sc (.int Go.IntKind.i64 (5))), (.sc (.int Go.IntKind.i64 (0))), (.sc (.int Go.IntKind.i64 (10)))]), (.agg [(.sc (.int Go.IntKind.i64 (5))), (.sc (.int Go.IntKind.i64 (1))), (.sc (.int Go.IntKind.i64 (4)))]), (.agg [(.sc (.int Go.IntKind.i64 (6))), (.sc (.int Go.IntKind.i64 (0))), (.sc (.int Go.IntKind.i64 (11)))]), (.agg [(.sc (.int Go.IntKind.i64 (7))), (.sc (.int Go.IntKind.i64 (0))), (.sc (.int Go.IntKind.i64 (7)))]), (.agg [(.sc (.int Go.IntKind.i64 (7))), (.sc (.int Go.IntKind.i64 (1))), (.sc (.int Go.IntKind.i64 (7)))]), (.agg [(.sc (.int Go.IntKind.i64 (8))), (.sc (.int Go.IntKind.i64 (0))), (.sc (.int Go.IntKind.i64 (8)))]), (.agg [(.sc (.int Go.IntKind.i64 (8))), (.sc (.int Go.IntKind.i64 (1))), (.sc (.int Go.IntKind.i64 (7)))]), (.agg [(.sc (.int Go.IntKind.i64 (9))), (.sc (.int Go.IntKind.i64 (0))), (.sc (.int Go.IntKind.i64 (12)))]), (.agg [(.sc (.int Go.IntKind.i64 (9))), (.sc (.int Go.IntKind.i64 (1))), (.sc (.int Go.IntKind.i64 (13)))]), (.agg [(.sc (.int Go.IntKind.i64 (10))), (.sc (.int Go.IntKind.i64 (0))), (.sc (.int Go.IntKind.i64 (10)))]), (.agg [(.sc (.int Go.IntKind.i64 (10))), (.sc (.int Go.IntKind.i64 (1))), (.sc (.int Go.IntKind.i64 (7)))]), (.agg [(.sc (.int Go.IntKind.i64 (11))), (.sc (.int Go.IntKind.i64 (0))), (.sc (.int Go.IntKind.i64 (14)))]), (.agg [(.sc (.int Go.IntKind.i64 (11))), (.sc (.int Go.IntKind.i64 (1))), (.sc (.int Go.IntKind.i64 (9)))]), (.agg [(.sc (.int Go.IntKind.i64 (12))), (.sc (.int Go.IntKind.i64 (0))), (.sc (.int Go.IntKind.i64 (12)))]), (.agg [(.sc (.int Go.IntKind.i64 (12))), (.sc (.int Go.IntKind.i64 (1))), (.sc (.int Go.IntKind.i64 (7)))]), (.agg [(.sc (.int Go.IntKind.i64 (13))), (.sc (.int Go.IntKind.i64 (0))), (.sc (.int Go.IntKind.i64 (15)))]), (.agg [(.sc (.int Go.IntKind.i64 (13))), (.sc (.int Go.IntKind.i64 (1))), (.sc (.int Go.IntKind.i64 (16)))]), (.agg [(.sc (.int Go.IntKind.i64 (14))), (.sc (.int Go.IntKind.i64 (0))), (.sc (.int Go.IntKind.i64 (14)))]), (.agg [(.sc (.int Go.IntKind.i64 (14))), (.sc (.int Go.IntKind.i64 (1))), (.sc (.int Go.IntKind.i64 (7)))]), (.agg [(.sc (.int Go.IntKind.i64 (15))), (.sc (.int Go.IntKind.i64 (0))), (.sc (.int Go.IntKind.i64 (15)))]), (.agg [(.sc (.int Go.IntKind.i64 (15))), (.sc (.int Go.IntKind.i64 (1))), (.sc (.int Go.IntKind.i64 (7)))]), (.agg [(.sc (.int Go.IntKind.i64 (16))), (.sc (.int Go.IntKind.i64 (0))), (.sc (.int Go.IntKind.i64 (17)))]), (.agg [(.sc (.int Go.IntKind.i64 (16))), (.sc (.int Go.IntKind.i64 (1))), (.sc (.int Go.IntKind.i64 (7)))])]), (.sc (.bool false))]), k71, k195], [(.ret (.tuple [(.sc (.int Go.IntKind.i64 (17))), (.sc (.bool true))]))]⟩
noncomputable def F352 : Abs.FTab := F351.memoT [m352]
def m353 : Abs.Mem :=
  ⟨77, [k194, k83], [(.ret (.tuple [k197, (.sc (.int Go.IntKind.i64 (0)))]))]⟩
noncomputable def F353 : Abs.FTab := F352.memo [m353]
def m354 : Abs.Mem :=
  ⟨80, [k64, k195, (.sc (.int Go.IntKind.i64 (1)))], [(.ret (.tuple [k202, (.sc (.bool true)), (.sc (.int Go.IntKind.i64 (0)))]))]⟩
noncomputable def F354 : Abs.FTab := F353.memo [m354]
def m355 : Abs.Mem :=
  ⟨34, [(.iptr [k204, (.data 3 false [(.agg [(.sc (.int Go.IntKind.i64 (0))), (.sc (.int Go.IntKind.i64 (0))), (.sc (.int Go.IntKind.i64 (1)))]), (.agg [(.sc (.int Go.IntKind.i64 (0))), (.sc (.int Go.IntKind.i64 (1))), (.sc (.int Go.IntKind.i64 (2)))]), (.agg [(.sc (.int Go.IntKind.i64 (1))), (.sc (.int Go.IntKind.i64 (0))), (.sc (.int Go.IntKind.i64 (3)))]), (.agg [(.sc (.int Go.IntKind.i64 (1))), (.sc (.int Go.IntKind.i64 (1))), (.sc (.int Go.IntKind.i64 (4)))]), (.agg [(.sc (.int Go.IntKind.i64 (2))), (.sc (.int Go.IntKind.i64 (0))), (.sc (.int Go.IntKind.i64 (5)))]), (.agg [(.sc (.int Go.IntKind.i64 (2))), (.sc (.int Go.IntKind.i64 (1))), (.sc (.int Go.IntKind.i64 (6)))]), (.agg [(.sc (.int Go.IntKind.i64 (3))), (.sc (.int Go.IntKind.i64 (0))), (.sc (.int Go.IntKind.i64 (3)))]), (.agg [(.sc (.int Go.IntKind.i64 (3))), (.sc (.int Go.IntKind.i64 (1))), (.sc (.int Go.IntKind.i64 (7)))]), (.agg [(.sc (.int Go.IntKind.i64 (4))), (.sc (.int Go.IntKind.i64 (0))), (.sc (.int Go.IntKind.i64 (8)))]), (.agg [(.sc (.int Go.IntKind.i64 (4))), (.sc (.int Go.IntKind.i64 (1))), (.sc (.int Go.IntKind.i64 (9)))]), (.agg [(.sc (.int Go.IntKind.i64 (5))), (.sc (.int Go.IntKind.i64 (0))), (.sc (.int Go.IntKind.i64 (10)))]), (.agg [(.sc (.int Go.IntKind.i64 (5))), (.sc (.int Go.IntKind.i64 (1))), (.sc (.int Go.IntKind.i64 (4)))]), (.agg [(.sc (.int Go.IntKind.i64 (6))), (.sc (.int Go.IntKind.i64 (0))), (.sc (.int Go.IntKind.i64 (11)))]), (.agg [(.sc (.int Go.IntKind.i64 (7))), (.sc (.int Go.IntKind.i64 (0))), (.sc (.int Go.IntKind.i64 (7)))]), (.agg [(.sc (.int Go.IntKind.i64 (7))), (.sc (.int Go.IntKind.i64 (1))), (.sc (.int Go.IntKind.i64 (7)))]), (.agg [(.sc (.int Go.IntKind.i64 (8))), (.sc (.int Go.IntKind.i64 (0))), (.sc (.int Go.IntKind.i64 (8)))]), (.agg [(.sc (.int Go.IntKind.i64 (8))), (.sc (.int Go.IntKind.i64 (1))), (.sc (.int Go.IntKind.i64 (7)))]), (.agg [(.sc (.int Go.IntKind.i64 (9))), (.sc (.int Go.IntKind.i64 (0))), (.sc (.int Go.IntKind.i64 (12)))]), (.agg [(.sc (.int Go.IntKind.i64 (9))), (.sc (.int Go.IntKind.i64 (1))), (.sc (.int Go.IntKind.i64 (13)))]), (.agg [(.sc (.int Go.IntKind.i64 (10))), (.sc (.int Go.IntKind.i64 (0))), (.sc (.int Go.IntKind.i64 (10)))]), (.agg [(.sc (.int Go.IntKind.i64 (10))), (.sc (.int Go.IntKind.i64 (1))), (.sc (.int Go.IntKind.i64 (7)))]), (.agg [(.sc (.int Go.IntKind.i64 (11))), (.sc (.int Go.IntKind.i64 (0))), (.sc (.int Go.IntKind.i64 (14)))]), (.agg [(.sc (.int Go.IntKind.i64 (11))), (.sc (.int Go.IntKind.i64 (1))), (.sc (.int Go.IntKind.i64 (9)))]), (.agg [(.sc (.int Go.IntKind.i64 (12))), (.sc (.int Go.IntKind.i64 (0))), (.sc (.int Go.IntKind.i64 (12)))]), (.agg [(.sc (.int Go.IntKind.i64 (12))), (.sc (.int Go.IntKind.i64 (1))), (.sc (.int Go.IntKind.i64 (7)))]), (.agg [(.sc (.int Go.IntKind.i64 (13))), (.sc (.int Go.IntKind.i64 (0))), (.sc (.int Go.IntKind.i64 (15)))]), (.agg [(.sc (.int Go.IntKind.i64 (13))), (.sc (.int Go.IntKind.i64 (1))), (.sc (.int Go.IntKind.i64 (16)))]), (.agg [(.sc (.int Go.IntKind.i64 (14))), (.sc (.int Go.IntKind.i64 (0))), (.sc (.int Go.IntKind.i64 (14)))]), (.agg [(.sc (.int Go.IntKind.i64 (14))), (.sc (.int Go.IntKind.i64 (1))), (.sc (.int Go.IntKind.i64 (7)))]), (.agg [(.sc (.int Go.IntKind.i64 (15))), (.sc (.int Go.IntKind.i64 (0))), (.sc (.int Go.IntKind.i64 (15)))]), (.agg [(.sc (.int Go.IntKind.i64 (15))), (.sc (.int Go.IntKind.i64 (1))), (.sc (.int Go.IntKind.i64 (7)))]), (.agg [(.sc (.int Go.IntKind.i64 (16))), (.sc (.int Go.IntKind.i64 (0))), (.sc (.int Go.IntKind.i64 (17)))]), (.agg [(.sc (.int Go.IntKind.i64 (16))), (.sc (.int Go.IntKind.i64 (1))), (.sc (.int Go.IntKind.i64 (7)))]), (.agg [(.sc (.int Go.IntKind.i64 (17))), (.sc (.int Go.IntKind.i64 (0))), (.sc (.int Go.IntKind.i64 (17)))])]), (.sc (.bool false))]), k71, k123], [(.ret (.tuple [(.sc (.int Go.IntKind.i64 (7))), (.sc (.bool true))]))]⟩
noncomputable def F355 : Abs.FTab := F354.memoT [m355]
def k205 : Abs.AVal := .data 3 false [(.agg [(.sc (.int Go.IntKind.i64 (0))), (.sc (.int Go.IntKind.i64 (0))), (.sc (.int Go.IntKind.i64 (1)))]), (.agg [(.sc (.int Go.IntKind.i64 (0))), (.sc (.int Go.IntKind.i64 (1))), (.sc (.int Go.IntKind.i64 (2)))]), (.agg [(.sc (.int Go.IntKind.i64 (1))), (.sc (.int Go.IntKind.i64 (0))), (.sc (.int Go.IntKind.i64 (3)))]), (.agg [(.sc (.int Go.IntKind.i64 (1))), (.sc (.int Go.IntKind.i64 (1))), (.sc (.int Go.IntKind.i64 (4)))]), (.agg [(.sc (.int Go.IntKind.i64 (2))), (.sc (.int Go.IntKind.i64 (0))), (.sc (.int Go.IntKind.i64 (5)))]), (.agg [(.sc (.int Go.IntKind.i64 (2))), (.sc (.int Go.IntKind.i64 (1))), (.sc (.int Go.IntKind.i64 (6)))]), (.agg [(.sc (.int Go.IntKind.i64 (3))), (.sc (.int Go.IntKind.i64 (0))), (.sc (.int Go.IntKind.i64 (3)))]), (.agg [(.sc (.int Go.IntKind.i64 (3))), (.sc (.int Go.IntKind.i64 (1))), (.sc (.int Go.IntKind.i64 (7)))]), (.agg [(.sc (.int Go.IntKind.i64 (4))), (.sc (.int Go.IntKind.i64 (0))), (.sc (.int Go.IntKind.i64 (8)))]), (.agg [(.sc (.int Go.IntKind.i64 (4))), (.sc (.int Go.IntKind.i64 (1))), (.sc (.int Go.IntKind.i64 (9)))]), (.agg [(.sc (.int Go.IntKind.i64 (5))), (.sc (.int Go.IntKind.i64 (0))), (.sc (.int Go.IntKind.i64 (10)))]), (.agg [(.sc (.int Go.IntKind.i64 (5))), (.sc (.int Go.IntKind.i64 (1))), (.sc (.int Go.IntKind.i64 (4)))]), (.agg [(.sc (.int Go.IntKind.i64 (6))), (.sc (.int Go.IntKind.i64 (0))), (.sc (.int Go.IntKind.i64 (11)))]), (.agg [(.sc (.int Go.IntKind.i64 (7))), (.sc (.int Go.IntKind.i64 (0))), (.sc (.int Go.IntKind.i64 (7)))]), (.agg [(.sc (.int Go.IntKind.i64 (7))), (.sc (.int Go.IntKind.i64 (1))), (.sc (.int Go.IntKind.i64 (7)))]), (.agg [(.sc (.int Go.IntKind.i64 (8))), (.sc (.int Go.IntKind.i64 (0))), (.sc (.int Go.IntKind.i64 (8)))]), (.agg [(.sc (.int Go.IntKind.i64 (8))), (.sc (.int Go.IntKind.i64 (1))), (.sc (.int Go.IntKind.i64 (7)))]), (.agg [(.sc (.int Go.IntKind.i64 (9))), (.sc (.int Go.IntKind.i64 (0))), (.sc (.int Go.IntKind.i64 (12)))]), (.agg [(.sc (.int Go.IntKind.i64 (9))), (.sc (.int Go.IntKind.i64 (1))), (.sc (.int Go.IntKind.i64 (13)))]), (.agg [(.sc (.int Go.IntKind.i64 (10))), (.sc (.int Go.IntKind.i64 (0))), (.sc (.int Go.IntKind.i64 (10)))]), (.agg [(.sc (.int Go.IntKind.i64 (10))), (.sc (.int Go.IntKind.i64 (1))), (.sc (.int Go.IntKind.i64 (7)))]), (.agg [(.sc (.int Go.IntKind.i64 (11))), (.sc (.int Go.IntKind.i64 (0))), (.sc (.int Go.IntKind.i64 (14)))]), (.agg [(.sc (.int Go.IntKind.i64 (11))), (.sc (.int Go.IntKind.i64 (1))), (.sc (.int Go.IntKind.i64 (9)))]), (.agg [(.sc (.int Go.IntKind.i64 (12))), (.sc (.int Go.IntKind.i64 (0))), (.sc (.int Go.IntKind.i64 (12)))]), (.agg [(.sc (.int Go.IntKind.i64 (12))), (.sc (.int Go.IntKind.i64 (1))), (.sc (.int Go.IntKind.i64 (7)))]), (.agg [(.sc (.int Go.IntKind.i64 (13))), (.sc (.int Go.IntKind.i64 (0))), (.sc (.int Go.IntKind.i64 (15)))]), (.agg [(.sc (.int Go.IntKind.i64 (13))), (.sc (.int Go.IntKind.i64 (1))), (.sc (.int Go.IntKind.i64 (16)))]), (.agg [(.sc (.int Go.IntKind.i64 (14))), (.sc (.int Go.IntKind.i64 (0))), (.sc (.int Go.IntKind.i64 (14)))]), (.agg [(.sc (.int Go.IntKind.i64 (14))), (.sc (.int Go.IntKind.i64 (1))), (.sc (.int Go.IntKind.i64 (7)))]), (.agg [(.sc (.int Go.IntKind.i64 (15))), (.sc (.int Go.IntKind.i64 (0))), (.sc (.int Go.IntKind.i64 (15)))]), (.agg [(.sc (.int Go.IntKind.i64 (15))), (.sc (.int Go.IntKind.i64 (1))), (.sc (.int Go.IntKind.i64 (7)))]), (.agg [(.sc (.int Go.IntKind.i64 (16))), (.sc (.int Go.IntKind.i64 (0))), (.sc (.int Go.IntKind.i64 (17)))]), (.agg [(.sc (.int Go.IntKind.i64 (16))), (.sc (.int Go.IntKind.i64 (1))), (.sc (.int Go.IntKind.i64 (7)))]), (.agg [(.sc (.int Go.IntKind.i64 (17))), (.sc (.int Go.IntKind.i64 (0))), (.sc (.int Go.IntKind.i64 (17)))]), (.agg [(.sc (.int Go.IntKind.i64 (17))), (.sc (.int Go.IntKind.i64 (1))), (.sc (.int Go.IntKind.i64 (7)))])]
def m356 : Abs.Mem :=
  ⟨12, [k64, k71], [(.ret (.tuple [(.agg [k204, k205, (.sc (.bool true))]), (.sc (.int Go.IntKind.i64 (0)))]))]⟩
noncomputable def F356 : Abs.FTab := F355.memo [m356]
def m357 : Abs.Mem :=
  ⟨40, [k64, (.agg [(.sc (.int Go.IntKind.i64 (2))), (.sc (.int Go.IntKind.i64 (0))), (.sc (.int Go.IntKind.i64 (0))), (.sc (.int Go.IntKind.i64 (12))), (.sc (.string ⟨#[]⟩)), (.sc (.int Go.IntKind.i64 (0))), k52, (.sc (.int Go.IntKind.i64 (0))), (.sc (.bool false)), (.sc (.bool false)), (.sc (.int Go.IntKind.i64 (0))), (.sc (.slice none 0 0))])], [(.ret (.sc (.int Go.IntKind.i64 (0))))]⟩
noncomputable def F357 : Abs.FTab := F356.memo [m357]
def m358 : Abs.Mem :=
  ⟨200, [k53, (.sc (.slice none 0 0)), (.data 1 true []), (.sc (.slice none 0 0))], [(.ret (.tuple [(.sc (.int Go.IntKind.i64 (1))), (.sc (.int Go.IntKind.i64 (3))), (.sc (.int Go.IntKind.i64 (0))), (.sc (.bool false))]))]⟩
noncomputable def F358 : Abs.FTab := F357.memo [m358]
def m359 : Abs.Mem :=
  ⟨85, [(.iptr [(.sc (.int Go.IntKind.i64 (2))), (.data 4 true []), (.data 3 true []), (.sc (.slice none 0 0)), k63, (.sc (.int Go.IntKind.i64 (3))), (.sc (.bool true)), (.sc (.int Go.IntKind.i64 (2))), (.sc (.int Go.IntKind.i64 (0))), (.sc (.int Go.IntKind.i64 (0))), (.sc (.int Go.IntKind.i64 (12))), (.sc (.string ⟨#[]⟩)), (.sc (.int Go.IntKind.i64 (0))), k52, (.sc (.int Go.IntKind.i64 (0))), (.sc (.bool false)), (.sc (.bool false)), (.sc (.int Go.IntKind.i64 (0))), (.sc (.slice none 0 0)), (.sc (.int Go.IntKind.i64 (0))), (.sc (.int Go.IntKind.i64 (0))), (.sc (.int Go.IntKind.i64 (0))), (.sc (.int Go.IntKind.i64 (0))), (.sc (.string ⟨#[]⟩)), (.sc (.int Go.IntKind.i64 (0))), (.sc (.slice none 0 0)), (.sc (.int Go.IntKind.i64 (0))), (.sc (.bool false)), (.sc (.bool false)), (.sc (.int Go.IntKind.i64 (0))), (.sc (.slice none 0 0)), k204, k205, (.sc (.bool true)), (.data 1 false [(.data 1 false [(.sc (.int Go.IntKind.i64 (1))), (.sc (.int Go.IntKind.i64 (2)))]), (.data 1 false [(.sc (.int Go.IntKind.i64 (3))), (.sc (.int Go.IntKind.i64 (4)))]), (.data 1 false [(.sc (.int Go.IntKind.i64 (5))), (.sc (.int Go.IntKind.i64 (6)))]), (.data 1 false [(.sc (.int Go.IntKind.i64 (3))), (.sc (.int Go.IntKind.i64 (7)))]), (.data 1 false [(.sc (.int Go.IntKind.i64 (8))), (.sc (.int Go.IntKind.i64 (9)))]), (.data 1 false [(.sc (.int Go.IntKind.i64 (10))), (.sc (.int Go.IntKind.i64 (4)))]), (.data 1 false [(.sc (.int Go.IntKind.i64 (11)))]), (.data 1 false [(.sc (.int Go.IntKind.i64 (7))), (.sc (.int Go.IntKind.i64 (7)))]), (.data 1 false [(.sc (.int Go.IntKind.i64 (8))), (.sc (.int Go.IntKind.i64 (7)))]), (.data 1 false [(.sc (.int Go.IntKind.i64 (12))), (.sc (.int Go.IntKind.i64 (13)))]), (.data 1 false [(.sc (.int Go.IntKind.i64 (10))), (.sc (.int Go.IntKind.i64 (7)))]), (.data 1 false [(.sc (.int Go.IntKind.i64 (14))), (.sc (.int Go.IntKind.i64 (9)))]), (.data 1 false [(.sc (.int Go.IntKind.i64 (12))), (.sc (.int Go.IntKind.i64 (7)))]), (.data 1 false [(.sc (.int Go.IntKind.i64 (15))), (.sc (.int Go.IntKind.i64 (16)))]), (.data 1 false [(.sc (.int Go.IntKind.i64 (14))), (.sc (.int Go.IntKind.i64 (7)))]), (.data 1 false [(.sc (.int Go.IntKind.i64 (15))), (.sc (.int Go.IntKind.i64 (7)))]), (.data 1 false [(.sc (.int Go.IntKind.i64 (17))), (.sc (.int Go.IntKind.i64 (7)))]), (.data 1 false [(.sc (.int Go.IntKind.i64 (17))), (.sc (.int Go.IntKind.i64 (7)))])]), (.data 1 false [(.data 1 false [(.sc (.bool false)), (.sc (.bool true))]), (.data 1 false [(.sc (.bool false)), (.sc (.bool true))]), (.data 1 false [(.sc (.bool false)), (.sc (.bool true))]), (.data 1 false [(.sc (.bool false)), (.sc (.bool true))]), (.data 1 false [(.sc (.bool false)), (.sc (.bool true))]), (.data 1 false [(.sc (.bool false)), (.sc (.bool true))]), (.data 1 false [(.sc (.bool false))]), (.data 1 false [(.sc (.bool false)), (.sc (.bool true))]), (.data 1 false [(.sc (.bool false)), (.sc (.bool true))]), (.data 1 false [(.sc (.bool false)), (.sc (.bool true))]), (.data 1 false [(.sc (.bool false)), (.sc (.bool true))]), (.data 1 false [(.sc (.bool false)), (.sc (.bool true))]), (.data 1 false [(.sc (.bool false)), (.sc (.bool true))]), (.data 1 false [(.sc (.bool false)), (.sc (.bool true))]), (.data 1 false [(.sc (.bool false)), (.sc (.bool true))]), (.data 1 false [(.sc (.bool false)), (.sc (.bool true))]), (.data 1 false [(.sc (.bool false)), (.sc (.bool true))]), (.data 1 false [(.sc (.bool false)), (.sc (.bool true))])])]), (.data 1 false [(.sc (.bool true)), (.sc (.bool true)), (.sc (.bool true)), (.sc (.bool true)), (.sc (.bool true)), (.sc (.bool true)), (.sc (.bool true)), (.sc (.bool true)), (.sc (.bool true)), (.sc (.bool true)), (.sc (.bool true)), (.sc (.bool true)), (.sc (.bool true)), (.sc (.bool true)), (.sc (.bool true)), (.sc (.bool true)), (.sc (.bool true)), (.sc (.bool true))])], [(.ret (.data 1 false [(.sc (.int Go.IntKind.i64 (18))), (.sc (.int Go.IntKind.i64 (11))), (.sc (.int Go.IntKind.i64 (17))), (.sc (.int Go.IntKind.i64 (2))), (.sc (.int Go.IntKind.i64 (10))), (.sc (.int Go.IntKind.i64 (13))), (.sc (.int Go.IntKind.i64 (16))), (.sc (.int Go.IntKind.i64 (1))), (.sc (.int Go.IntKind.i64 (3))), (.sc (.int Go.IntKind.i64 (9))), (.sc (.int Go.IntKind.i64 (12))), (.sc (.int Go.IntKind.i64 (15))), (.sc (.int Go.IntKind.i64 (4))), (.sc (.int Go.IntKind.i64 (8))), (.sc (.int Go.IntKind.i64 (14))), (.sc (.int Go.IntKind.i64 (5))), (.sc (.int Go.IntKind.i64 (7))), (.sc (.int Go.IntKind.i64 (6)))]))]⟩
noncomputable def F359 : Abs.FTab := F358.memoT [m359]
def m360 : Abs.Mem :=
  ⟨6, [k11, k54, (.sc (.int Go.IntKind.i64 (400)))], [(.ret (.tuple [(.sc (.int Go.IntKind.i64 (1))), (.sc (.int Go.IntKind.i64 (0)))]))]⟩
noncomputable def F360 : Abs.FTab := F359.memo [m360]
def k206 : Abs.AVal := .agg [(.sc (.int Go.IntKind.i64 (1))), (.sc (.int Go.IntKind.i64 (0))), (.sc (.int Go.IntKind.i64 (1))), (.sc (.int Go.IntKind.i64 (0))), (.sc (.string ⟨#[]⟩)), (.sc (.int Go.IntKind.i64 (0))), (.sc (.slice none 0 0)), (.sc (.int Go.IntKind.i64 (0))), (.sc (.bool false)), (.sc (.bool false)), (.sc (.int Go.IntKind.i64 (0))), (.sc (.slice none 0 0))]
def k207 : Abs.AVal := .agg [(.sc (.int Go.IntKind.i64 (3))), (.sc (.int Go.IntKind.i64 (0))), (.sc (.int Go.IntKind.i64 (0))), (.sc (.int Go.IntKind.i64 (0))), (.sc (.string ⟨#[]⟩)), (.sc (.int Go.IntKind.i64 (0))), (.sc (.slice none 0 0)), (.sc (.int Go.IntKind.i64 (1))), (.sc (.bool true)), (.sc (.bool true)), (.sc (.int Go.IntKind.i64 (5))), (.sc (.slice none 0 0))]
def k208 : Abs.AVal := .data 12 true [k206, k207]
def k209 : Abs.AVal := .agg [(.sc (.int Go.IntKind.i64 (6))), (.sc (.int Go.IntKind.i64 (0))), (.sc (.int Go.IntKind.i64 (0))), (.sc (.int Go.IntKind.i64 (0))), (.sc (.string ⟨#[]⟩)), (.sc (.int Go.IntKind.i64 (0))), (.sc (.slice none 0 0)), (.sc (.int Go.IntKind.i64 (0))), (.sc (.bool false)), (.sc (.bool false)), (.sc (.int Go.IntKind.i64 (0))), k208]
def m361 : Abs.Mem :=
  ⟨23, [k11, k209], [(.ret (.sc (.bool true)))]⟩
noncomputable def F361 : Abs.FTab := F360.memo [m361]
def k210 : Abs.AVal := .data 4 false [(.agg [(.sc (.int Go.IntKind.i64 (1))), (.sc (.bool true)), (.sc (.bool true)), (.sc (.int Go.IntKind.i64 (5)))])]
def m362 : Abs.Mem :=
  ⟨69, [k11, (.agg [(.data 1 false [(.sc (.int Go.IntKind.i64 (0)))]), (.sc (.slice none 0 0))]), k210], [(.ret (.tuple [(.data 1 false [(.sc (.int Go.IntKind.i64 (5)))]), (.sc (.int Go.IntKind.i64 (0)))]))]⟩
noncomputable def F362 : Abs.FTab := F361.memo [m362]
def k211 : Abs.AVal := .agg [(.sc (.int Go.IntKind.i64 (3))), (.sc (.bool false)), k210, (.sc (.int Go.IntKind.i64 (10)))]
def m363 : Abs.Mem :=
  ⟨30, [k11, k211, k21], [(.ret (.tuple [k22, (.sc (.int Go.IntKind.i64 (0)))]))]⟩
noncomputable def F363 : Abs.FTab := F362.memo [m363]
def m364 : Abs.Mem :=
  ⟨30, [k11, k211, k27], [(.ret (.tuple [k27, (.sc (.int Go.IntKind.i64 (0)))]))]⟩
noncomputable def F364 : Abs.FTab := F363.memo [m364]
def m365 : Abs.Mem :=
  ⟨30, [k11, k211, k31], [(.ret (.tuple [k31, (.sc (.int Go.IntKind.i64 (0)))]))]⟩
noncomputable def F365 : Abs.FTab := F364.memo [m365]
def k212 : Abs.AVal := .data 6 false [k32, k33]
def k213 : Abs.AVal := .data 3 false [(.agg [(.sc (.int Go.IntKind.i64 (0))), (.sc (.int Go.IntKind.i64 (0))), (.sc (.int Go.IntKind.i64 (1)))]), (.agg [(.sc (.int Go.IntKind.i64 (1))), (.sc (.int Go.IntKind.i64 (0))), (.sc (.int Go.IntKind.i64 (1)))])]
def k214 : Abs.AVal := .agg [k212, k213, (.sc (.bool true))]
def m366 : Abs.Mem :=
  ⟨12, [k11, k211], [(.ret (.tuple [k214, (.sc (.int Go.IntKind.i64 (0)))]))]⟩
noncomputable def F366 : Abs.FTab := F365.memo [m366]
def m367 : Abs.Mem :=
  ⟨19, [k11, k209, k22], [(.ret (.tuple [(.sc (.slice none 0 0)), (.sc (.int Go.IntKind.i64 (0)))]))]⟩
noncomputable def F367 : Abs.FTab := F366.memo [m367]
def m368 : Abs.Mem :=
  ⟨222, [k16, k16, (.func (.func 223) [] [])], [(.ret (.tuple [k16, (.sc (.int Go.IntKind.i64 (0)))]))]⟩
noncomputable def F368 : Abs.FTab := F367.memo [m368]
def m369 : Abs.Mem :=
  ⟨19, [k11, k209, k27], [(.ret (.tuple [(.data 2 false [(.agg [(.sc (.int Go.IntKind.i64 (1))), (.data 1 false [(.sc (.int Go.IntKind.i64 (1))), (.sc (.int Go.IntKind.i64 (-10))), (.sc (.int Go.IntKind.i64 (1099511627776))), (.sc (.int Go.IntKind.i64 (1)))])])]), (.sc (.int Go.IntKind.i64 (0)))]))]⟩
noncomputable def F369 : Abs.FTab := F368.memo [m369]
def m370 : Abs.Mem :=
  ⟨7, [k11, k209, (.sc (.int Go.IntKind.i64 (10)))], [(.ret (.tuple [(.data 1 false [(.sc (.int Go.IntKind.i64 (0)))]), (.sc (.int Go.IntKind.i64 (1))), (.sc (.int Go.IntKind.i64 (0)))]))]⟩
noncomputable def F370 : Abs.FTab := F369.memo [m370]
def k215 : Abs.AVal := .agg [(.sc (.int Go.IntKind.i64 (4))), (.sc (.bool false)), (.sc (.int Go.IntKind.i64 (1))), (.sc (.int Go.IntKind.i64 (0))), (.sc (.int Go.IntKind.i64 (1))), (.sc (.int Go.IntKind.i64 (0))), (.sc (.string ⟨#[]⟩)), (.sc (.int Go.IntKind.i64 (0))), (.sc (.slice none 0 0)), (.sc (.int Go.IntKind.i64 (0))), (.sc (.bool false)), (.sc (.bool false)), (.sc (.int Go.IntKind.i64 (0))), (.sc (.slice none 0 0)), (.sc (.int Go.IntKind.i64 (0))), (.sc (.int Go.IntKind.i64 (0))), (.sc (.int Go.IntKind.i64 (0))), (.sc (.int Go.IntKind.i64 (0))), (.sc (.string ⟨#[]⟩)), (.sc (.int Go.IntKind.i64 (0))), (.sc (.slice none 0 0)), (.sc (.int Go.IntKind.i64 (0))), (.sc (.bool false)), (.sc (.bool false)), (.sc (.int Go.IntKind.i64 (0))), (.sc (.slice none 0 0))]
def m371 : Abs.Mem :=
  ⟨9, [k11, k215], [(.ret (.sc (.int Go.IntKind.i64 (0))))]⟩
noncomputable def F371 : Abs.FTab := F370.memo [m371]
def k216 : Abs.AVal := .data 12 false [k206]
def k217 : Abs.AVal := .agg [(.sc (.int Go.IntKind.i64 (5))), (.sc (.int Go.IntKind.i64 (0))), (.sc (.int Go.IntKind.i64 (0))), (.sc (.int Go.IntKind.i64 (0))), (.sc (.string ⟨#[]⟩)), (.sc (.int Go.IntKind.i64 (0))), (.sc (.slice none 0 0)), (.sc (.int Go.IntKind.i64 (0))), (.sc (.bool false)), (.sc (.bool false)), (.sc (.int Go.IntKind.i64 (0))), k216]
def m372 : Abs.Mem :=
  ⟨40, [k11, k217], [(.ret (.sc (.int Go.IntKind.i64 (0))))]⟩
noncomputable def F372 : Abs.FTab := F371.memo [m372]
def m373 : Abs.Mem :=
  ⟨226, [k16], [(.ret (.tuple [(.sc (.slice none 0 0)), (.sc (.int Go.IntKind.i64 (0)))]))]⟩
noncomputable def F373 : Abs.FTab := F372.memo [m373]
def m374 : Abs.Mem :=
  ⟨19, [k11, k217, k27], [(.ret (.tuple [(.sc (.slice none 0 0)), (.sc (.int Go.IntKind.i64 (0)))]))]⟩
noncomputable def F374 : Abs.FTab := F373.memo [m374]
def m375 : Abs.Mem :=
  ⟨222, [k30, k30, (.func (.func 223) [] [])], [(.ret (.tuple [k30, (.sc (.int Go.IntKind.i64 (0)))]))]⟩
noncomputable def F375 : Abs.FTab := F374.memo [m375]
def m376 : Abs.Mem :=
  ⟨226, [k30], [(.ret (.tuple [k28, (.sc (.int Go.IntKind.i64 (0)))]))]⟩
noncomputable def F376 : Abs.FTab := F375.memo [m376]
def m377 : Abs.Mem :=
  ⟨19, [k11, k217, k31], [(.ret (.tuple [(.sc (.slice none 0 0)), (.sc (.int Go.IntKind.i64 (0)))]))]⟩
noncomputable def F377 : Abs.FTab := F376.memo [m377]
def m378 : Abs.Mem :=
  ⟨85, [(.iptr [(.sc (.int Go.IntKind.i64 (1))), (.sc (.slice none 0 0)), (.sc (.slice none 0 0)), (.sc (.slice none 0 0)), k10, (.sc (.int Go.IntKind.i64 (4))), (.sc (.bool false)), (.sc (.int Go.IntKind.i64 (1))), (.sc (.int Go.IntKind.i64 (0))), (.sc (.int Go.IntKind.i64 (1))), (.sc (.int Go.IntKind.i64 (0))), (.sc (.string ⟨#[]⟩)), (.sc (.int Go.IntKind.i64 (0))), (.sc (.slice none 0 0)), (.sc (.int Go.IntKind.i64 (0))), (.sc (.bool false)), (.sc (.bool false)), (.sc (.int Go.IntKind.i64 (0))), (.sc (.slice none 0 0)), (.sc (.int Go.IntKind.i64 (0))), (.sc (.int Go.IntKind.i64 (0))), (.sc (.int Go.IntKind.i64 (0))), (.sc (.int Go.IntKind.i64 (0))), (.sc (.string ⟨#[]⟩)), (.sc (.int Go.IntKind.i64 (0))), (.sc (.slice none 0 0)), (.sc (.int Go.IntKind.i64 (0))), (.sc (.bool false)), (.sc (.bool false)), (.sc (.int Go.IntKind.i64 (0))), (.sc (.slice none 0 0)), k35, k37, (.sc (.bool true)), k49, k50]), (.data 1 false [(.sc (.bool true)), (.sc (.bool false)), (.sc (.bool false))])], [(.ret (.data 1 false [(.sc (.int Go.IntKind.i64 (1))), (.sc (.int Go.IntKind.i64 (0))), (.sc (.int Go.IntKind.i64 (0)))]))]⟩
noncomputable def F378 : Abs.FTab := F377.memoT [m378]
def m379 : Abs.Mem :=
  ⟨147, [k11, (.agg [(.data 1 false [(.sc (.int Go.IntKind.i64 (0)))]), (.data 1 true [])])], [(.ret (.tuple [(.sc (.bool false)), (.sc (.int Go.IntKind.i64 (0)))]))]⟩
noncomputable def F379 : Abs.FTab := F378.memo [m379]
def m380 : Abs.Mem :=
  ⟨122, [(.sc (.int Go.IntKind.i64 (1))), (.sc (.int Go.IntKind.i64 (1099511627776)))], [(.ret (.tuple [k16, (.sc (.int Go.IntKind.i64 (0)))]))]⟩
noncomputable def F380 : Abs.FTab := F379.memo [m380]
def m381 : Abs.Mem :=
  ⟨193, [k16, (.sc (.int Go.IntKind.i64 (1))), (.sc (.int Go.IntKind.i64 (0)))], [(.ret (.tuple [k16, (.sc (.int Go.IntKind.i64 (0)))]))]⟩
noncomputable def F381 : Abs.FTab := F380.memo [m381]
def k218 : Abs.AVal := .data 1 false [(.sc (.int Go.IntKind.i64 (1))), (.sc (.int Go.IntKind.i64 (-1))), (.sc (.int Go.IntKind.i64 (1099511627776))), (.sc (.int Go.IntKind.i64 (1)))]
def k219 : Abs.AVal := .agg [(.sc (.int Go.IntKind.i64 (1))), k218]
def m382 : Abs.Mem :=
  ⟨77, [k16, k24], [(.ret (.tuple [k219, (.sc (.int Go.IntKind.i64 (0)))]))]⟩
noncomputable def F382 : Abs.FTab := F381.memo [m382]
def m383 : Abs.Mem :=
  ⟨128, [k219], [(.ret (.sc (.int Go.IntKind.i64 (0))))]⟩
noncomputable def F383 : Abs.FTab := F382.memo [m383]
def m384 : Abs.Mem :=
  ⟨222, [k219, k19, (.func (.func 223) [] [])], [(.ret (.tuple [k26, (.sc (.int Go.IntKind.i64 (0)))]))]⟩
noncomputable def F384 : Abs.FTab := F383.memo [m384]
def m385 : Abs.Mem :=
  ⟨91, [k11, k19, k23, k16], [(.ret (.tuple [k26, (.sc (.bool true)), (.sc (.int Go.IntKind.i64 (0)))]))]⟩
noncomputable def F385 : Abs.FTab := F384.memo [m385]
def m386 : Abs.Mem :=
  ⟨139, [k26, (.sc (.bool true)), (.func (.func 151) [] [])], [(.ret (.tuple [k19, (.sc (.int Go.IntKind.i64 (0)))]))]⟩
noncomputable def F386 : Abs.FTab := F385.memo [m386]
def m387 : Abs.Mem :=
  ⟨43, [k11, k22], [(.ret (.tuple [(.sc (.slice none 0 0)), (.sc (.int Go.IntKind.i64 (0)))]))]⟩
noncomputable def F387 : Abs.FTab := F386.memo [m387]
def m388 : Abs.Mem :=
  ⟨6, [k11, k215, (.sc (.int Go.IntKind.i64 (10)))], [(.ret (.tuple [(.sc (.int Go.IntKind.i64 (1))), (.sc (.int Go.IntKind.i64 (0)))]))]⟩
noncomputable def F388 : Abs.FTab := F387.memo [m388]
def k220 : Abs.AVal := .agg [(.sc (.int Go.IntKind.i64 (3))), (.sc (.bool false)), (.sc (.int Go.IntKind.i64 (1))), (.sc (.int Go.IntKind.i64 (0))), (.sc (.int Go.IntKind.i64 (0))), (.sc (.int Go.IntKind.i64 (0))), (.sc (.string ⟨#[]⟩)), (.sc (.int Go.IntKind.i64 (0))), (.sc (.slice none 0 0)), (.sc (.int Go.IntKind.i64 (0))), (.sc (.bool false)), (.sc (.bool false)), (.sc (.int Go.IntKind.i64 (0))), (.sc (.slice none 0 0)), (.sc (.int Go.IntKind.i64 (0))), (.sc (.int Go.IntKind.i64 (0))), (.sc (.int Go.IntKind.i64 (0))), (.sc (.int Go.IntKind.i64 (0))), (.sc (.string ⟨#[]⟩)), (.sc (.int Go.IntKind.i64 (0))), (.sc (.slice none 0 0)), (.sc (.int Go.IntKind.i64 (0))), (.sc (.bool false)), (.sc (.bool false)), (.sc (.int Go.IntKind.i64 (0))), (.sc (.slice none 0 0))]
def m389 : Abs.Mem :=
  ⟨9, [k11, k220], [(.ret (.sc (.int Go.IntKind.i64 (0))))]⟩
noncomputable def F389 : Abs.FTab := F388.memo [m389]
def m390 : Abs.Mem :=
  ⟨85, [(.iptr [(.sc (.int Go.IntKind.i64 (1))), (.sc (.slice none 0 0)), (.sc (.slice none 0 0)), (.sc (.slice none 0 0)), k10, (.sc (.int Go.IntKind.i64 (3))), (.sc (.bool false)), (.sc (.int Go.IntKind.i64 (1))), (.sc (.int Go.IntKind.i64 (0))), (.sc (.int Go.IntKind.i64 (0))), (.sc (.int Go.IntKind.i64 (0))), (.sc (.string ⟨#[]⟩)), (.sc (.int Go.IntKind.i64 (0))), (.sc (.slice none 0 0)), (.sc (.int Go.IntKind.i64 (0))), (.sc (.bool false)), (.sc (.bool false)), (.sc (.int Go.IntKind.i64 (0))), (.sc (.slice none 0 0)), (.sc (.int Go.IntKind.i64 (0))), (.sc (.int Go.IntKind.i64 (0))), (.sc (.int Go.IntKind.i64 (0))), (.sc (.int Go.IntKind.i64 (0))), (.sc (.string ⟨#[]⟩)), (.sc (.int Go.IntKind.i64 (0))), (.sc (.slice none 0 0)), (.sc (.int Go.IntKind.i64 (0))), (.sc (.bool false)), (.sc (.bool false)), (.sc (.int Go.IntKind.i64 (0))), (.sc (.slice none 0 0)), k35, k37, (.sc (.bool true)), k49, k50]), (.data 1 false [(.sc (.bool true)), (.sc (.bool false)), (.sc (.bool false))])], [(.ret (.data 1 false [(.sc (.int Go.IntKind.i64 (1))), (.sc (.int Go.IntKind.i64 (0))), (.sc (.int Go.IntKind.i64 (0)))]))]⟩
noncomputable def F390 : Abs.FTab := F389.memoT [m390]
def m391 : Abs.Mem :=
  ⟨6, [k11, k220, (.sc (.int Go.IntKind.i64 (10)))], [(.ret (.tuple [(.sc (.int Go.IntKind.i64 (2))), (.sc (.int Go.IntKind.i64 (0)))]))]⟩
noncomputable def F391 : Abs.FTab := F390.memo [m391]
def m392 : Abs.Mem :=
  ⟨30, [k11, (.agg [(.sc (.int Go.IntKind.i64 (2))), (.sc (.bool false)), (.sc (.slice none 0 0)), (.sc (.int Go.IntKind.i64 (1)))]), k21], [(.ret (.tuple [k22, (.sc (.int Go.IntKind.i64 (0)))]))]⟩
noncomputable def F392 : Abs.FTab := F391.memo [m392]
def m393 : Abs.Mem :=
  ⟨30, [k11, (.agg [(.sc (.int Go.IntKind.i64 (2))), (.sc (.bool false)), (.sc (.slice none 0 0)), (.sc (.int Go.IntKind.i64 (1)))]), k27], [(.ret (.tuple [k27, (.sc (.int Go.IntKind.i64 (0)))]))]⟩
noncomputable def F393 : Abs.FTab := F392.memo [m393]
def m394 : Abs.Mem :=
  ⟨12, [k11, (.agg [(.sc (.int Go.IntKind.i64 (2))), (.sc (.bool false)), (.sc (.slice none 0 0)), (.sc (.int Go.IntKind.i64 (1)))])], [(.ret (.tuple [(.agg [(.data 6 false [k32]), (.sc (.slice none 0 0)), (.sc (.bool false))]), (.sc (.int Go.IntKind.i64 (0)))]))]⟩
noncomputable def F394 : Abs.FTab := F393.memo [m394]
def k221 : Abs.AVal := .agg [(.sc (.int Go.IntKind.i64 (3))), (.sc (.bool false)), (.sc (.slice none 0 0)), (.sc (.int Go.IntKind.i64 (10)))]
def m395 : Abs.Mem :=
  ⟨30, [k11, k221, k21], [(.ret (.tuple [k22, (.sc (.int Go.IntKind.i64 (0)))]))]⟩
noncomputable def F395 : Abs.FTab := F394.memo [m395]
def m396 : Abs.Mem :=
  ⟨30, [k11, k221, k27], [(.ret (.tuple [k27, (.sc (.int Go.IntKind.i64 (0)))]))]⟩
noncomputable def F396 : Abs.FTab := F395.memo [m396]
def m397 : Abs.Mem :=
  ⟨30, [k11, k221, k31], [(.ret (.tuple [k27, (.sc (.int Go.IntKind.i64 (0)))]))]⟩
noncomputable def F397 : Abs.FTab := F396.memo [m397]
def m398 : Abs.Mem :=
  ⟨12, [k11, k221], [(.ret (.tuple [k214, (.sc (.int Go.IntKind.i64 (0)))]))]⟩
noncomputable def F398 : Abs.FTab := F397.memo [m398]
def m399 : Abs.Mem :=
  ⟨7, [k11, k206, (.sc (.int Go.IntKind.i64 (10)))], [(.ret (.tuple [(.data 1 false [(.sc (.int Go.IntKind.i64 (0)))]), (.sc (.int Go.IntKind.i64 (1))), (.sc (.int Go.IntKind.i64 (0)))]))]⟩
noncomputable def F399 : Abs.FTab := F398.memo [m399]
def m400 : Abs.Mem :=
  ⟨8, [], [(.ret (.sc (.bool true)))]⟩
noncomputable def F400 : Abs.FTab := F399.memo [m400]
end Go.Proofs.YthgnjkimfaodkacGreat.verdictKnown
