/-
  What single calls that the law DenseAdds makes return (part 1), by the values of the abstract layer. It proves no statement by itself.
-/
import Derived.Test.YtkhjmhdpaikokaaGreatDoorProg
import Derived.Test.YtkhjmhdpaikokaaGreatDoorAbsMm
import Derived.Test.YtkhjmhdpaikokaaGreatDoorAbsDf
import Derived.KernelRfl
namespace Go.Proofs.YtkhjmhdpaikokaaGreatDoor.denseAdds
open Go
/-- The variable that is known. -/
def vs:List Abs.AVal:=[(.data 3 false [(.agg [(.sc (.bool false)),(.sc (.bool false)),(.func (.func 218) [] [])]),(.agg [(.sc (.bool false)),(.sc (.bool true)),(.func (.func 219) [] [])]),(.agg [(.sc (.bool true)),(.sc (.bool false)),(.func (.func 220) [] [])]),(.agg [(.sc (.bool true)),(.sc (.bool true)),(.func (.func 221) [] [])])])]
noncomputable def G:Nat->Abs.AVal:=Abs.oneG 0 vs
noncomputable def F0:Abs.FTab:=Abs.ftab Tryz.prog [89,130,152,165,166,180]
def gm:Nat:=1329227995784915872903824661089964288
def k1:Abs.AVal:=.data 4 false [(.agg [(.sc (.int Go.IntKind.i64 (1))),(.sc (.bool false)),(.sc (.bool false)),(.sc (.int Go.IntKind.i64 (2)))])]
def k2:Abs.AVal:=.agg [(.sc (.int Go.IntKind.i64 (0))),k1,(.sc (.int Go.IntKind.i64 (0)))]
def k3:Abs.AVal:=.data 3 false [k2,(.agg [(.sc (.int Go.IntKind.i64 (0))),(.sc (.slice none 0 0)),(.sc (.int Go.IntKind.i64 (0)))])]
def k4:Abs.AVal:=.data 4 false [(.agg [(.sc (.int Go.IntKind.i64 (1))),(.sc (.bool true)),(.sc (.bool false)),(.sc (.int Go.IntKind.i64 (1)))])]
def k5:Abs.AVal:=.agg [(.sc (.int Go.IntKind.i64 (0))),(.sc (.int Go.IntKind.i64 (1))),k4,(.sc (.int Go.IntKind.i64 (0))),(.sc (.string ⟨#[]⟩)),(.sc (.int Go.IntKind.i64 (0))),(.sc (.slice none 0 0)),(.sc (.int Go.IntKind.i64 (-1))),(.sc (.bool false)),(.sc (.slice none 0 0)),(.data 2 false [(.agg [(.sc (.int Go.IntKind.i64 (1))),(.sc (.int Go.IntKind.i64 (0)))])]),(.sc (.int Go.IntKind.i64 (0))),(.sc (.int Go.IntKind.i64 (0)))]
def k6:Abs.AVal:=.data 4 false [(.agg [(.sc (.int Go.IntKind.i64 (1))),(.sc (.bool true)),(.sc (.bool true)),(.sc (.int Go.IntKind.i64 (3)))])]
def k7:Abs.AVal:=.agg [(.sc (.int Go.IntKind.i64 (1))),(.sc (.int Go.IntKind.i64 (1))),k6,(.sc (.int Go.IntKind.i64 (0))),(.sc (.string ⟨#[]⟩)),(.sc (.int Go.IntKind.i64 (0))),(.sc (.slice none 0 0)),(.sc (.int Go.IntKind.i64 (-1))),(.sc (.bool false)),(.sc (.slice none 0 0)),(.sc (.slice none 0 0)),(.sc (.int Go.IntKind.i64 (0))),(.sc (.int Go.IntKind.i64 (0)))]
def k8:Abs.AVal:=.data 13 false [k5,k7]
def k9:Abs.AVal:=.agg [(.sc (.int Go.IntKind.i64 (0))),k3,k8]
def k10:Abs.AVal:=.data 3 false [k9]
def k11:Abs.AVal:=.agg [(.sc (.int Go.IntKind.i64 (1))),(.sc (.slice none 0 0)),(.sc (.slice none 0 0)),(.sc (.slice none 0 0)),k10]
def m1:Abs.Mem:=
  ⟨25,[k11],[(.ret (.sc (.int Go.IntKind.i64 (0))))]⟩
noncomputable def F1:Abs.FTab:=F0.memo [m1]
def m2:Abs.Mem:=
  ⟨33,[k1,(.data 2 false [(.agg [(.sc (.int Go.IntKind.i64 (0))),(.sc (.int Go.IntKind.i64 (1)))])])],[(.ret (.sc (.bool true)))]⟩
noncomputable def F2:Abs.FTab:=F1.memo [m2]
def k12:Abs.AVal:=.agg [(.data 1 false [(.sc (.int Go.IntKind.i64 (0)))]),(.sc (.slice none 0 0)),(.data 2 false [(.agg [(.sc (.int Go.IntKind.i64 (0))),(.sc (.int Go.IntKind.i64 (1)))])])]
def m3:Abs.Mem:=
  ⟨12,[k11,k12],[(.ret (.sc (.int Go.IntKind.i64 (0))))]⟩
noncomputable def F3:Abs.FTab:=F2.memo [m3]
def m4:Abs.Mem:=
  ⟨16,[k11,k12],[(.ret (.tuple [(.agg [(.sc (.int Go.IntKind.i64 (2))),(.sc (.int Go.IntKind.i64 (1)))]),(.sc (.bool true)),(.sc (.bool false)),(.sc (.int Go.IntKind.i64 (0)))]))]⟩
noncomputable def F4:Abs.FTab:=F3.memo [m4]
def k13:Abs.AVal:=.agg [(.data 1 false [(.sc (.int Go.IntKind.i64 (0)))]),(.data 1 true []),(.data 2 false [(.agg [(.sc (.int Go.IntKind.i64 (0))),(.sc (.int Go.IntKind.i64 (1)))])])]
def m5:Abs.Mem:=
  ⟨12,[k11,k13],[(.ret (.sc (.int Go.IntKind.i64 (0))))]⟩
noncomputable def F5:Abs.FTab:=F4.memo [m5]
def k14:Abs.AVal:=.agg [(.data 1 false [(.sc (.int Go.IntKind.i64 (0)))]),(.data 1 true []),(.data 2 false [(.agg [(.sc (.int Go.IntKind.i64 (1))),(.sc (.int Go.IntKind.i64 (1)))])])]
def m6:Abs.Mem:=
  ⟨14,[k11,k13,(.agg [(.sc (.int Go.IntKind.i64 (1))),(.sc (.int Go.IntKind.i64 (1)))])],[(.ret (.tuple [k14,(.sc (.int Go.IntKind.i64 (0)))]))]⟩
noncomputable def F6:Abs.FTab:=F5.memo [m6]
def m7:Abs.Mem:=
  ⟨33,[k1,(.data 2 false [(.agg [(.sc (.int Go.IntKind.i64 (1))),(.sc (.int Go.IntKind.i64 (1)))])])],[(.ret (.sc (.bool true)))]⟩
noncomputable def F7:Abs.FTab:=F6.memo [m7]
def m8:Abs.Mem:=
  ⟨12,[k11,k14],[(.ret (.sc (.int Go.IntKind.i64 (0))))]⟩
noncomputable def F8:Abs.FTab:=F7.memo [m8]
def m9:Abs.Mem:=
  ⟨120,[(.iptr [(.sc (.int Go.IntKind.i64 (1))),(.sc (.slice none 0 0)),(.sc (.slice none 0 0)),(.sc (.slice none 0 0)),k10,(.sc (.slice none 0 0))]),(.agg [(.data 1 false [(.sc (.int Go.IntKind.i64 (0)))]),(.data 1 true [])])],[(.ret (.tuple [(.data 7 false [(.agg [(.data 2 false [(.agg [(.sc (.int Go.IntKind.i64 (0))),(.sc (.int Go.IntKind.i64 (0)))])]),(.data 1 false [(.sc (.int Go.IntKind.i64 (1)))]),(.data 1 false []),k4,(.data 2 false [(.agg [(.sc (.int Go.IntKind.i64 (1))),(.sc (.int Go.IntKind.i64 (0)))])]),(.sc (.int Go.IntKind.i64 (0))),(.sc (.int Go.IntKind.i64 (0)))])]),(.sc (.int Go.IntKind.i64 (0)))]))]⟩
noncomputable def F9:Abs.FTab:=F8.memo [m9]
def m10:Abs.Mem:=
  ⟨33,[k4,(.data 2 false [(.agg [(.sc (.int Go.IntKind.i64 (1))),(.sc (.int Go.IntKind.i64 (1)))])])],[(.ret (.sc (.bool true)))]⟩
noncomputable def F10:Abs.FTab:=F9.memo [m10]
def k15:Abs.AVal:=.agg [(.data 1 false [(.sc (.int Go.IntKind.i64 (1)))]),(.data 1 false []),(.data 2 false [(.agg [(.sc (.int Go.IntKind.i64 (0))),(.sc (.int Go.IntKind.i64 (1)))])])]
def m11:Abs.Mem:=
  ⟨44,[k11,k14,(.sc (.int Go.IntKind.i64 (0)))],[(.ret (.tuple [k15,(.sc (.int Go.IntKind.i64 (0)))]))]⟩
noncomputable def F11:Abs.FTab:=F10.memo [m11]
def m12:Abs.Mem:=
  ⟨12,[k11,k15],[(.ret (.sc (.int Go.IntKind.i64 (0))))]⟩
noncomputable def F12:Abs.FTab:=F11.memo [m12]
def k16:Abs.AVal:=.agg [(.data 1 false [(.sc (.int Go.IntKind.i64 (1)))]),(.data 1 true []),(.data 2 false [(.agg [(.sc (.int Go.IntKind.i64 (4))),(.sc (.int Go.IntKind.i64 (1)))])])]
def m13:Abs.Mem:=
  ⟨14,[k11,k15,(.agg [(.sc (.int Go.IntKind.i64 (4))),(.sc (.int Go.IntKind.i64 (1)))])],[(.ret (.tuple [k16,(.sc (.int Go.IntKind.i64 (0)))]))]⟩
noncomputable def F13:Abs.FTab:=F12.memo [m13]
def m14:Abs.Mem:=
  ⟨12,[k11,k16],[(.ret (.sc (.int Go.IntKind.i64 (0))))]⟩
noncomputable def F14:Abs.FTab:=F13.memo [m14]
def m15:Abs.Mem:=
  ⟨120,[(.iptr [(.sc (.int Go.IntKind.i64 (1))),(.sc (.slice none 0 0)),(.sc (.slice none 0 0)),(.sc (.slice none 0 0)),k10,(.sc (.slice none 0 0))]),(.agg [(.data 1 false [(.sc (.int Go.IntKind.i64 (1)))]),(.data 1 true [])])],[(.ret (.tuple [(.data 7 false [(.agg [(.data 2 false [(.agg [(.sc (.int Go.IntKind.i64 (0))),(.sc (.int Go.IntKind.i64 (1)))])]),(.data 1 false [(.sc (.int Go.IntKind.i64 (1)))]),(.data 1 false []),k6,(.sc (.slice none 0 0)),(.sc (.int Go.IntKind.i64 (0))),(.sc (.int Go.IntKind.i64 (0)))])]),(.sc (.int Go.IntKind.i64 (0)))]))]⟩
noncomputable def F15:Abs.FTab:=F14.memo [m15]
def m16:Abs.Mem:=
  ⟨33,[k6,(.data 2 false [(.agg [(.sc (.int Go.IntKind.i64 (4))),(.sc (.int Go.IntKind.i64 (1)))])])],[(.ret (.sc (.bool true)))]⟩
noncomputable def F16:Abs.FTab:=F15.memo [m16]
def m17:Abs.Mem:=
  ⟨44,[k11,k16,(.sc (.int Go.IntKind.i64 (0)))],[(.ret (.tuple [(.agg [(.data 1 false [(.sc (.int Go.IntKind.i64 (1)))]),(.data 1 false []),(.data 2 false [(.agg [(.sc (.int Go.IntKind.i64 (4))),(.sc (.int Go.IntKind.i64 (1)))])])]),(.sc (.int Go.IntKind.i64 (0)))]))]⟩
noncomputable def F17:Abs.FTab:=F16.memo [m17]
def m18:Abs.Mem:=
  ⟨14,[k11,k12,(.agg [(.sc (.int Go.IntKind.i64 (3))),(.sc (.int Go.IntKind.i64 (1)))])],[(.ret (.tuple [(.agg [(.sc (.slice none 0 0)),(.sc (.slice none 0 0)),(.sc (.slice none 0 0))]),(.sc (.int Go.IntKind.i64 (9)))]))]⟩
noncomputable def F18:Abs.FTab:=F17.memo [m18]
def m19:Abs.Mem:=
  ⟨8,[],[(.ret (.sc (.bool true)))]⟩
noncomputable def F19:Abs.FTab:=F18.memo [m19]
end Go.Proofs.YtkhjmhdpaikokaaGreatDoor.denseAdds
