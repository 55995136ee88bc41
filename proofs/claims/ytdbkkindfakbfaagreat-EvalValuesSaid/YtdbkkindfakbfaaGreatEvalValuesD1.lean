/-
  What single calls that the law EvalValues makes return (part 1), by the values of the abstract layer. It proves no statement by itself.
-/
import Derived.Test.YtdbkkindfakbfaaGreatProg
import Derived.Test.YtdbkkindfakbfaaGreatAbsMm
import Derived.Test.YtdbkkindfakbfaaGreatAbsDf
import Derived.KernelRfl
namespace Go.Proofs.YtdbkkindfakbfaaGreat.evalValues
open Go
noncomputable def F00:Abs.FTab:=Abs.ftabZ Tryz.prog [26,54,80,115,19,27] [] [19,27]
def h0:Abs.Mem:=⟨93,[.sc (.int .i64 5)],[.ret (.tuple [(.sc (.string ⟨#[43]⟩)),(.sc (.int .i64 4))])]⟩
def h1:Abs.Mem:=⟨93,[.sc (.int .i64 6)],[.ret (.tuple [(.sc (.string ⟨#[45]⟩)),(.sc (.int .i64 4))])]⟩
def h2:Abs.Mem:=⟨93,[.sc (.int .i64 7)],[.ret (.tuple [(.sc (.string ⟨#[42]⟩)),(.sc (.int .i64 5))])]⟩
def h3:Abs.Mem:=⟨93,[.sc (.int .i64 8)],[.ret (.tuple [(.sc (.string ⟨#[47]⟩)),(.sc (.int .i64 5))])]⟩
def h4:Abs.Mem:=⟨93,[.sc (.int .i64 9)],[.ret (.tuple [(.sc (.string ⟨#[37]⟩)),(.sc (.int .i64 5))])]⟩
def h5:Abs.Mem:=⟨93,[.sc (.int .i64 10)],[.ret (.tuple [(.sc (.string ⟨#[60]⟩)),(.sc (.int .i64 3))])]⟩
def h6:Abs.Mem:=⟨93,[.sc (.int .i64 11)],[.ret (.tuple [(.sc (.string ⟨#[60,61]⟩)),(.sc (.int .i64 3))])]⟩
def h7:Abs.Mem:=⟨93,[.sc (.int .i64 12)],[.ret (.tuple [(.sc (.string ⟨#[61,61]⟩)),(.sc (.int .i64 3))])]⟩
def h8:Abs.Mem:=⟨93,[.sc (.int .i64 13)],[.ret (.tuple [(.sc (.string ⟨#[33,61]⟩)),(.sc (.int .i64 3))])]⟩
def h9:Abs.Mem:=⟨93,[.sc (.int .i64 14)],[.ret (.tuple [(.sc (.string ⟨#[62,61]⟩)),(.sc (.int .i64 3))])]⟩
def h10:Abs.Mem:=⟨93,[.sc (.int .i64 15)],[.ret (.tuple [(.sc (.string ⟨#[62]⟩)),(.sc (.int .i64 3))])]⟩
def h11:Abs.Mem:=⟨93,[.sc (.int .i64 16)],[.ret (.tuple [(.sc (.string ⟨#[38,38]⟩)),(.sc (.int .i64 2))])]⟩
def h12:Abs.Mem:=⟨93,[.sc (.int .i64 17)],[.ret (.tuple [(.sc (.string ⟨#[124,124]⟩)),(.sc (.int .i64 1))])]⟩
noncomputable def F0:Abs.FTab:=(((((((((((((F00.memo [h0]).memo [h1]).memo [h2]).memo [h3]).memo [h4]).memo [h5]).memo [h6]).memo [h7]).memo [h8]).memo [h9]).memo [h10]).memo [h11]).memo [h12])
def gm:Nat:=27913803143097703371899035571244769280
def m1:Abs.Mem:=
  ⟨32,[(.sc (.string ⟨#[102,117,110,99,32,102,40,110,41,32,123,32,118,97,114,32,115,32,61,32,48,59,32,119,104,105,108,101,32,40,110,32,62,32,48,41,32,123,32,115,32,61,32,115,32,43,32,110,59,32,110,32,61,32,110,32,45,32,49,59,32,125,32,114,101,116,117,114,110,32,115,59,32,125]⟩)),(.sc (.int Go.IntKind.i64 (0)))],[(.ret (.data 3 false [(.agg [(.sc (.int Go.IntKind.u8 (97))),(.sc (.string ⟨#[102,117,110,99]⟩)),(.sc (.int Go.IntKind.i64 (0)))]),(.agg [(.sc (.int Go.IntKind.u8 (97))),(.sc (.string ⟨#[102]⟩)),(.sc (.int Go.IntKind.i64 (5)))]),(.agg [(.sc (.int Go.IntKind.u8 (46))),(.sc (.string ⟨#[40]⟩)),(.sc (.int Go.IntKind.i64 (6)))]),(.agg [(.sc (.int Go.IntKind.u8 (97))),(.sc (.string ⟨#[110]⟩)),(.sc (.int Go.IntKind.i64 (7)))]),(.agg [(.sc (.int Go.IntKind.u8 (46))),(.sc (.string ⟨#[41]⟩)),(.sc (.int Go.IntKind.i64 (8)))]),(.agg [(.sc (.int Go.IntKind.u8 (46))),(.sc (.string ⟨#[123]⟩)),(.sc (.int Go.IntKind.i64 (10)))]),(.agg [(.sc (.int Go.IntKind.u8 (97))),(.sc (.string ⟨#[118,97,114]⟩)),(.sc (.int Go.IntKind.i64 (12)))]),(.agg [(.sc (.int Go.IntKind.u8 (97))),(.sc (.string ⟨#[115]⟩)),(.sc (.int Go.IntKind.i64 (16)))]),(.agg [(.sc (.int Go.IntKind.u8 (46))),(.sc (.string ⟨#[61]⟩)),(.sc (.int Go.IntKind.i64 (18)))]),(.agg [(.sc (.int Go.IntKind.u8 (48))),(.sc (.string ⟨#[48]⟩)),(.sc (.int Go.IntKind.i64 (20)))]),(.agg [(.sc (.int Go.IntKind.u8 (46))),(.sc (.string ⟨#[59]⟩)),(.sc (.int Go.IntKind.i64 (21)))]),(.agg [(.sc (.int Go.IntKind.u8 (97))),(.sc (.string ⟨#[119,104,105,108,101]⟩)),(.sc (.int Go.IntKind.i64 (23)))]),(.agg [(.sc (.int Go.IntKind.u8 (46))),(.sc (.string ⟨#[40]⟩)),(.sc (.int Go.IntKind.i64 (29)))]),(.agg [(.sc (.int Go.IntKind.u8 (97))),(.sc (.string ⟨#[110]⟩)),(.sc (.int Go.IntKind.i64 (30)))]),(.agg [(.sc (.int Go.IntKind.u8 (46))),(.sc (.string ⟨#[62]⟩)),(.sc (.int Go.IntKind.i64 (32)))]),(.agg [(.sc (.int Go.IntKind.u8 (48))),(.sc (.string ⟨#[48]⟩)),(.sc (.int Go.IntKind.i64 (34)))]),(.agg [(.sc (.int Go.IntKind.u8 (46))),(.sc (.string ⟨#[41]⟩)),(.sc (.int Go.IntKind.i64 (35)))]),(.agg [(.sc (.int Go.IntKind.u8 (46))),(.sc (.string ⟨#[123]⟩)),(.sc (.int Go.IntKind.i64 (37)))]),(.agg [(.sc (.int Go.IntKind.u8 (97))),(.sc (.string ⟨#[115]⟩)),(.sc (.int Go.IntKind.i64 (39)))]),(.agg [(.sc (.int Go.IntKind.u8 (46))),(.sc (.string ⟨#[61]⟩)),(.sc (.int Go.IntKind.i64 (41)))]),(.agg [(.sc (.int Go.IntKind.u8 (97))),(.sc (.string ⟨#[115]⟩)),(.sc (.int Go.IntKind.i64 (43)))]),(.agg [(.sc (.int Go.IntKind.u8 (46))),(.sc (.string ⟨#[43]⟩)),(.sc (.int Go.IntKind.i64 (45)))]),(.agg [(.sc (.int Go.IntKind.u8 (97))),(.sc (.string ⟨#[110]⟩)),(.sc (.int Go.IntKind.i64 (47)))]),(.agg [(.sc (.int Go.IntKind.u8 (46))),(.sc (.string ⟨#[59]⟩)),(.sc (.int Go.IntKind.i64 (48)))]),(.agg [(.sc (.int Go.IntKind.u8 (97))),(.sc (.string ⟨#[110]⟩)),(.sc (.int Go.IntKind.i64 (50)))]),(.agg [(.sc (.int Go.IntKind.u8 (46))),(.sc (.string ⟨#[61]⟩)),(.sc (.int Go.IntKind.i64 (52)))]),(.agg [(.sc (.int Go.IntKind.u8 (97))),(.sc (.string ⟨#[110]⟩)),(.sc (.int Go.IntKind.i64 (54)))]),(.agg [(.sc (.int Go.IntKind.u8 (46))),(.sc (.string ⟨#[45]⟩)),(.sc (.int Go.IntKind.i64 (56)))]),(.agg [(.sc (.int Go.IntKind.u8 (48))),(.sc (.string ⟨#[49]⟩)),(.sc (.int Go.IntKind.i64 (58)))]),(.agg [(.sc (.int Go.IntKind.u8 (46))),(.sc (.string ⟨#[59]⟩)),(.sc (.int Go.IntKind.i64 (59)))]),(.agg [(.sc (.int Go.IntKind.u8 (46))),(.sc (.string ⟨#[125]⟩)),(.sc (.int Go.IntKind.i64 (61)))]),(.agg [(.sc (.int Go.IntKind.u8 (97))),(.sc (.string ⟨#[114,101,116,117,114,110]⟩)),(.sc (.int Go.IntKind.i64 (63)))]),(.agg [(.sc (.int Go.IntKind.u8 (97))),(.sc (.string ⟨#[115]⟩)),(.sc (.int Go.IntKind.i64 (70)))]),(.agg [(.sc (.int Go.IntKind.u8 (46))),(.sc (.string ⟨#[59]⟩)),(.sc (.int Go.IntKind.i64 (71)))]),(.agg [(.sc (.int Go.IntKind.u8 (46))),(.sc (.string ⟨#[125]⟩)),(.sc (.int Go.IntKind.i64 (73)))]),(.agg [(.sc (.int Go.IntKind.u8 (32))),(.sc (.string ⟨#[]⟩)),(.sc (.int Go.IntKind.i64 (74)))])]))]⟩
noncomputable def F1:Abs.FTab:=F0.memo [m1]
def k1:Abs.AVal:=.data 1 false [(.sc (.string ⟨#[109,111,100,101,108]⟩)),(.sc (.string ⟨#[99,108,111,99,107]⟩)),(.sc (.string ⟨#[118,97,114]⟩)),(.sc (.string ⟨#[105,110]⟩)),(.sc (.string ⟨#[99,104,97,110]⟩)),(.sc (.string ⟨#[98,114,111,97,100,99,97,115,116]⟩)),(.sc (.string ⟨#[117,114,103,101,110,116]⟩)),(.sc (.string ⟨#[99,111,109,109,105,116,116,101,100]⟩)),(.sc (.string ⟨#[102,117,110,99]⟩)),(.sc (.string ⟨#[112,114,111,99,101,115,115]⟩)),(.sc (.string ⟨#[105,110,105,116]⟩)),(.sc (.string ⟨#[108,111,99]⟩)),(.sc (.string ⟨#[105,110,118]⟩)),(.sc (.string ⟨#[114,97,116,101]⟩)),(.sc (.string ⟨#[101,100,103,101]⟩)),(.sc (.string ⟨#[119,104,101,110]⟩)),(.sc (.string ⟨#[105,102]⟩)),(.sc (.string ⟨#[101,108,115,101]⟩)),(.sc (.string ⟨#[119,104,105,108,101]⟩)),(.sc (.string ⟨#[114,101,116,117,114,110]⟩)),(.sc (.string ⟨#[115,121,110,99]⟩)),(.sc (.string ⟨#[100,111]⟩)),(.sc (.string ⟨#[114,101,115,101,116]⟩)),(.sc (.string ⟨#[99,111,115,116]⟩)),(.sc (.string ⟨#[107,105,110,100]⟩))]
def m2:Abs.Mem:=
  ⟨13,[k1,(.sc (.string ⟨#[102]⟩))],[(.ret (.sc (.bool false)))]⟩
noncomputable def F2:Abs.FTab:=F1.memo [m2]
def m3:Abs.Mem:=
  ⟨13,[k1,(.sc (.string ⟨#[110]⟩))],[(.ret (.sc (.bool false)))]⟩
noncomputable def F3:Abs.FTab:=F2.memo [m3]
def m4:Abs.Mem:=
  ⟨13,[k1,(.sc (.string ⟨#[115]⟩))],[(.ret (.sc (.bool false)))]⟩
noncomputable def F4:Abs.FTab:=F3.memo [m4]
def k2:Abs.AVal:=.agg [(.sc (.int Go.IntKind.i64 (1))),(.sc (.string ⟨#[115]⟩)),(.sc (.int Go.IntKind.i64 (1))),(.sc (.string ⟨#[]⟩)),(.sc (.int Go.IntKind.i64 (0))),(.sc (.slice none 0 0)),(.sc (.slice none 0 0)),(.sc (.slice none 0 0))]
def k3:Abs.AVal:=.agg [(.sc (.int Go.IntKind.i64 (2))),(.sc (.string ⟨#[110]⟩)),(.sc (.int Go.IntKind.i64 (0))),(.sc (.slice none 0 0))]
def k4:Abs.AVal:=.agg [(.sc (.int Go.IntKind.i64 (1))),(.sc (.string ⟨#[]⟩)),(.sc (.int Go.IntKind.i64 (0))),(.sc (.slice none 0 0))]
def k5:Abs.AVal:=.data 4 false [k3,k4]
def k6:Abs.AVal:=.agg [(.sc (.int Go.IntKind.i64 (2))),(.sc (.string ⟨#[115]⟩)),(.sc (.int Go.IntKind.i64 (0))),(.sc (.slice none 0 0))]
def k7:Abs.AVal:=.data 4 false [k6,k3]
def k8:Abs.AVal:=.agg [(.sc (.int Go.IntKind.i64 (2))),(.sc (.string ⟨#[115]⟩)),(.sc (.int Go.IntKind.i64 (5))),(.sc (.string ⟨#[]⟩)),(.sc (.int Go.IntKind.i64 (0))),k7,(.sc (.slice none 0 0)),(.sc (.slice none 0 0))]
def k9:Abs.AVal:=.agg [(.sc (.int Go.IntKind.i64 (1))),(.sc (.string ⟨#[]⟩)),(.sc (.int Go.IntKind.i64 (1))),(.sc (.slice none 0 0))]
def k10:Abs.AVal:=.data 4 false [k3,k9]
def k11:Abs.AVal:=.agg [(.sc (.int Go.IntKind.i64 (2))),(.sc (.string ⟨#[110]⟩)),(.sc (.int Go.IntKind.i64 (6))),(.sc (.string ⟨#[]⟩)),(.sc (.int Go.IntKind.i64 (0))),k10,(.sc (.slice none 0 0)),(.sc (.slice none 0 0))]
def k12:Abs.AVal:=.data 8 false [k8,k11]
def k13:Abs.AVal:=.agg [(.sc (.int Go.IntKind.i64 (4))),(.sc (.string ⟨#[]⟩)),(.sc (.int Go.IntKind.i64 (15))),(.sc (.string ⟨#[]⟩)),(.sc (.int Go.IntKind.i64 (0))),k5,k12,(.sc (.slice none 0 0))]
def k14:Abs.AVal:=.agg [(.sc (.int Go.IntKind.i64 (5))),(.sc (.string ⟨#[]⟩)),(.sc (.int Go.IntKind.i64 (2))),(.sc (.string ⟨#[115]⟩)),(.sc (.int Go.IntKind.i64 (0))),(.sc (.slice none 0 0)),(.sc (.slice none 0 0)),(.sc (.slice none 0 0))]
def k15:Abs.AVal:=.data 8 false [k2,k13,k14]
def k16:Abs.AVal:=.agg [(.sc (.string ⟨#[102]⟩)),(.data 1 false [(.sc (.string ⟨#[110]⟩))]),k15]
def k17:Abs.AVal:=.data 3 false [k16]
def m5:Abs.Mem:=
  ⟨22,[(.sc (.string ⟨#[102,117,110,99,32,102,40,110,41,32,123,32,118,97,114,32,115,32,61,32,48,59,32,119,104,105,108,101,32,40,110,32,62,32,48,41,32,123,32,115,32,61,32,115,32,43,32,110,59,32,110,32,61,32,110,32,45,32,49,59,32,125,32,114,101,116,117,114,110,32,115,59,32,125]⟩))],[(.ret (.tuple [k17,(.sc (.int Go.IntKind.i64 (0))),(.sc (.int Go.IntKind.i64 (0)))]))]⟩
noncomputable def F5:Abs.FTab:=F4.memo [m5]
def m6:Abs.Mem:=
  ⟨32,[(.sc (.string ⟨#[118,32,47,32,45,50,32,42,32,49,48,32,43,32,45,118,32,37,32,50]⟩)),(.sc (.int Go.IntKind.i64 (0)))],[(.ret (.data 3 false [(.agg [(.sc (.int Go.IntKind.u8 (97))),(.sc (.string ⟨#[118]⟩)),(.sc (.int Go.IntKind.i64 (0)))]),(.agg [(.sc (.int Go.IntKind.u8 (46))),(.sc (.string ⟨#[47]⟩)),(.sc (.int Go.IntKind.i64 (2)))]),(.agg [(.sc (.int Go.IntKind.u8 (46))),(.sc (.string ⟨#[45]⟩)),(.sc (.int Go.IntKind.i64 (4)))]),(.agg [(.sc (.int Go.IntKind.u8 (48))),(.sc (.string ⟨#[50]⟩)),(.sc (.int Go.IntKind.i64 (5)))]),(.agg [(.sc (.int Go.IntKind.u8 (46))),(.sc (.string ⟨#[42]⟩)),(.sc (.int Go.IntKind.i64 (7)))]),(.agg [(.sc (.int Go.IntKind.u8 (48))),(.sc (.string ⟨#[49,48]⟩)),(.sc (.int Go.IntKind.i64 (9)))]),(.agg [(.sc (.int Go.IntKind.u8 (46))),(.sc (.string ⟨#[43]⟩)),(.sc (.int Go.IntKind.i64 (12)))]),(.agg [(.sc (.int Go.IntKind.u8 (46))),(.sc (.string ⟨#[45]⟩)),(.sc (.int Go.IntKind.i64 (14)))]),(.agg [(.sc (.int Go.IntKind.u8 (97))),(.sc (.string ⟨#[118]⟩)),(.sc (.int Go.IntKind.i64 (15)))]),(.agg [(.sc (.int Go.IntKind.u8 (46))),(.sc (.string ⟨#[37]⟩)),(.sc (.int Go.IntKind.i64 (17)))]),(.agg [(.sc (.int Go.IntKind.u8 (48))),(.sc (.string ⟨#[50]⟩)),(.sc (.int Go.IntKind.i64 (19)))]),(.agg [(.sc (.int Go.IntKind.u8 (32))),(.sc (.string ⟨#[]⟩)),(.sc (.int Go.IntKind.i64 (20)))])]))]⟩
noncomputable def F6:Abs.FTab:=F5.memo [m6]
def m7:Abs.Mem:=
  ⟨13,[k1,(.sc (.string ⟨#[118]⟩))],[(.ret (.sc (.bool false)))]⟩
noncomputable def F7:Abs.FTab:=F6.memo [m7]
def k18:Abs.AVal:=.agg [(.sc (.int Go.IntKind.i64 (2))),(.sc (.string ⟨#[118]⟩)),(.sc (.int Go.IntKind.i64 (0))),(.sc (.slice none 0 0))]
def k19:Abs.AVal:=.agg [(.sc (.int Go.IntKind.i64 (1))),(.sc (.string ⟨#[]⟩)),(.sc (.int Go.IntKind.i64 (-2))),(.sc (.slice none 0 0))]
def k20:Abs.AVal:=.data 4 false [k18,k19]
def k21:Abs.AVal:=.agg [(.sc (.int Go.IntKind.i64 (8))),(.sc (.string ⟨#[]⟩)),(.sc (.int Go.IntKind.i64 (0))),k20]
def k22:Abs.AVal:=.agg [(.sc (.int Go.IntKind.i64 (1))),(.sc (.string ⟨#[]⟩)),(.sc (.int Go.IntKind.i64 (10))),(.sc (.slice none 0 0))]
def k23:Abs.AVal:=.data 4 false [k21,k22]
def k24:Abs.AVal:=.agg [(.sc (.int Go.IntKind.i64 (7))),(.sc (.string ⟨#[]⟩)),(.sc (.int Go.IntKind.i64 (0))),k23]
def k25:Abs.AVal:=.data 4 false [k18]
def k26:Abs.AVal:=.agg [(.sc (.int Go.IntKind.i64 (3))),(.sc (.string ⟨#[]⟩)),(.sc (.int Go.IntKind.i64 (0))),k25]
def k27:Abs.AVal:=.agg [(.sc (.int Go.IntKind.i64 (1))),(.sc (.string ⟨#[]⟩)),(.sc (.int Go.IntKind.i64 (2))),(.sc (.slice none 0 0))]
def k28:Abs.AVal:=.data 4 false [k26,k27]
def k29:Abs.AVal:=.agg [(.sc (.int Go.IntKind.i64 (9))),(.sc (.string ⟨#[]⟩)),(.sc (.int Go.IntKind.i64 (0))),k28]
def k30:Abs.AVal:=.data 4 false [k24,k29]
def k31:Abs.AVal:=.agg [(.sc (.int Go.IntKind.i64 (5))),(.sc (.string ⟨#[]⟩)),(.sc (.int Go.IntKind.i64 (0))),k30]
def m8:Abs.Mem:=
  ⟨23,[(.sc (.string ⟨#[118,32,47,32,45,50,32,42,32,49,48,32,43,32,45,118,32,37,32,50]⟩))],[(.ret (.tuple [k31,(.sc (.int Go.IntKind.i64 (0))),(.sc (.int Go.IntKind.i64 (0)))]))]⟩
noncomputable def F8:Abs.FTab:=F7.memo [m8]
def m9:Abs.Mem:=
  ⟨94,[(.sc (.string ⟨#[118]⟩))],[(.ret (.sc (.bool true)))]⟩
noncomputable def F9:Abs.FTab:=F8.memo [m9]
def m10:Abs.Mem:=
  ⟨120,[k23,(.func (.func 96) [] [])],[(.ret (.sc (.int Go.IntKind.i64 (-1))))]⟩
noncomputable def F10:Abs.FTab:=F9.memo [m10]
def m11:Abs.Mem:=
  ⟨76,[k29],[(.ret (.sc (.bool true)))]⟩
noncomputable def F11:Abs.FTab:=F10.memo [m11]
def m12:Abs.Mem:=
  ⟨77,[k31],[(.ret (.agg [(.sc (.int Go.IntKind.i64 (10))),(.sc (.int Go.IntKind.i64 (4))),(.sc (.bool false))]))]⟩
noncomputable def F12:Abs.FTab:=F11.memo [m12]
def m13:Abs.Mem:=
  ⟨19,[k31,(.data 1 false [(.sc (.string ⟨#[118]⟩))]),(.data 1 false [(.sc (.int Go.IntKind.i64 (7)))]),(.sc (.slice none 0 0))],[(.ret (.tuple [(.sc (.int Go.IntKind.i64 (-31))),(.sc (.int Go.IntKind.i64 (10))),(.sc (.int Go.IntKind.i64 (0))),(.sc (.bool false))]))]⟩
noncomputable def F13:Abs.FTab:=F12.memoT [m13]
def m14:Abs.Mem:=
  ⟨32,[(.sc (.string ⟨#[118,32,47,32,48]⟩)),(.sc (.int Go.IntKind.i64 (0)))],[(.ret (.data 3 false [(.agg [(.sc (.int Go.IntKind.u8 (97))),(.sc (.string ⟨#[118]⟩)),(.sc (.int Go.IntKind.i64 (0)))]),(.agg [(.sc (.int Go.IntKind.u8 (46))),(.sc (.string ⟨#[47]⟩)),(.sc (.int Go.IntKind.i64 (2)))]),(.agg [(.sc (.int Go.IntKind.u8 (48))),(.sc (.string ⟨#[48]⟩)),(.sc (.int Go.IntKind.i64 (4)))]),(.agg [(.sc (.int Go.IntKind.u8 (32))),(.sc (.string ⟨#[]⟩)),(.sc (.int Go.IntKind.i64 (5)))])]))]⟩
noncomputable def F14:Abs.FTab:=F13.memo [m14]
def k32:Abs.AVal:=.data 4 false [k18,k4]
def k33:Abs.AVal:=.agg [(.sc (.int Go.IntKind.i64 (8))),(.sc (.string ⟨#[]⟩)),(.sc (.int Go.IntKind.i64 (0))),k32]
def m15:Abs.Mem:=
  ⟨23,[(.sc (.string ⟨#[118,32,47,32,48]⟩))],[(.ret (.tuple [k33,(.sc (.int Go.IntKind.i64 (0))),(.sc (.int Go.IntKind.i64 (0)))]))]⟩
noncomputable def F15:Abs.FTab:=F14.memo [m15]
def m16:Abs.Mem:=
  ⟨53,[k33],[(.ret (.sc (.int Go.IntKind.i64 (0))))]⟩
noncomputable def F16:Abs.FTab:=F15.memo [m16]
def m17:Abs.Mem:=
  ⟨19,[k33,(.data 1 false [(.sc (.string ⟨#[118]⟩))]),(.data 1 false [(.sc (.int Go.IntKind.i64 (7)))]),(.sc (.slice none 0 0))],[(.ret (.tuple [(.sc (.int Go.IntKind.i64 (0))),(.sc (.int Go.IntKind.i64 (3))),(.sc (.int Go.IntKind.i64 (100))),(.sc (.bool false))]))]⟩
noncomputable def F17:Abs.FTab:=F16.memoT [m17]
def m18:Abs.Mem:=
  ⟨32,[(.sc (.string ⟨#[102,40,49,48,41]⟩)),(.sc (.int Go.IntKind.i64 (0)))],[(.ret (.data 3 false [(.agg [(.sc (.int Go.IntKind.u8 (97))),(.sc (.string ⟨#[102]⟩)),(.sc (.int Go.IntKind.i64 (0)))]),(.agg [(.sc (.int Go.IntKind.u8 (46))),(.sc (.string ⟨#[40]⟩)),(.sc (.int Go.IntKind.i64 (1)))]),(.agg [(.sc (.int Go.IntKind.u8 (48))),(.sc (.string ⟨#[49,48]⟩)),(.sc (.int Go.IntKind.i64 (2)))]),(.agg [(.sc (.int Go.IntKind.u8 (46))),(.sc (.string ⟨#[41]⟩)),(.sc (.int Go.IntKind.i64 (4)))]),(.agg [(.sc (.int Go.IntKind.u8 (32))),(.sc (.string ⟨#[]⟩)),(.sc (.int Go.IntKind.i64 (5)))])]))]⟩
noncomputable def F18:Abs.FTab:=F17.memo [m18]
def m19:Abs.Mem:=
  ⟨23,[(.sc (.string ⟨#[102,40,49,48,41]⟩))],[(.ret (.tuple [(.agg [(.sc (.int Go.IntKind.i64 (19))),(.sc (.string ⟨#[102]⟩)),(.sc (.int Go.IntKind.i64 (0))),(.data 4 false [k22])]),(.sc (.int Go.IntKind.i64 (0))),(.sc (.int Go.IntKind.i64 (0)))]))]⟩
noncomputable def F19:Abs.FTab:=F18.memo [m19]
def m20:Abs.Mem:=
  ⟨94,[(.sc (.string ⟨#[102]⟩))],[(.ret (.sc (.bool true)))]⟩
noncomputable def F20:Abs.FTab:=F19.memo [m20]
def m21:Abs.Mem:=
  ⟨94,[(.sc (.string ⟨#[110]⟩))],[(.ret (.sc (.bool true)))]⟩
noncomputable def F21:Abs.FTab:=F20.memo [m21]
def m22:Abs.Mem:=
  ⟨94,[(.sc (.string ⟨#[115]⟩))],[(.ret (.sc (.bool true)))]⟩
noncomputable def F22:Abs.FTab:=F21.memo [m22]
def m23:Abs.Mem:=
  ⟨102,[k8],[(.ret (.sc (.bool true)))]⟩
noncomputable def F23:Abs.FTab:=F22.memo [m23]
def m24:Abs.Mem:=
  ⟨102,[k11],[(.ret (.sc (.bool true)))]⟩
noncomputable def F24:Abs.FTab:=F23.memo [m24]
def m25:Abs.Mem:=
  ⟨102,[k13],[(.ret (.sc (.bool true)))]⟩
noncomputable def F25:Abs.FTab:=F24.memo [m25]
def m26:Abs.Mem:=
  ⟨122,[k15,(.func (.func 101) [] [])],[(.ret (.sc (.int Go.IntKind.i64 (-1))))]⟩
noncomputable def F26:Abs.FTab:=F25.memo [m26]
def m27:Abs.Mem:=
  ⟨124,[k13],[(.ret (.agg [(.sc (.int Go.IntKind.i64 (12))),(.sc (.int Go.IntKind.i64 (4))),(.sc (.bool false))]))]⟩
noncomputable def F27:Abs.FTab:=F26.memo [m27]
def m28:Abs.Mem:=
  ⟨103,[k17],[(.ret (.sc (.bool true)))]⟩
noncomputable def F28:Abs.FTab:=F27.memo [m28]
def m29:Abs.Mem:=
  ⟨32,[(.sc (.string ⟨#[102,40,49,48,48,48,41]⟩)),(.sc (.int Go.IntKind.i64 (0)))],[(.ret (.data 3 false [(.agg [(.sc (.int Go.IntKind.u8 (97))),(.sc (.string ⟨#[102]⟩)),(.sc (.int Go.IntKind.i64 (0)))]),(.agg [(.sc (.int Go.IntKind.u8 (46))),(.sc (.string ⟨#[40]⟩)),(.sc (.int Go.IntKind.i64 (1)))]),(.agg [(.sc (.int Go.IntKind.u8 (48))),(.sc (.string ⟨#[49,48,48,48]⟩)),(.sc (.int Go.IntKind.i64 (2)))]),(.agg [(.sc (.int Go.IntKind.u8 (46))),(.sc (.string ⟨#[41]⟩)),(.sc (.int Go.IntKind.i64 (6)))]),(.agg [(.sc (.int Go.IntKind.u8 (32))),(.sc (.string ⟨#[]⟩)),(.sc (.int Go.IntKind.i64 (7)))])]))]⟩
noncomputable def F29:Abs.FTab:=F28.memo [m29]
def m30:Abs.Mem:=
  ⟨23,[(.sc (.string ⟨#[102,40,49,48,48,48,41]⟩))],[(.ret (.tuple [(.agg [(.sc (.int Go.IntKind.i64 (19))),(.sc (.string ⟨#[102]⟩)),(.sc (.int Go.IntKind.i64 (0))),(.data 4 false [(.agg [(.sc (.int Go.IntKind.i64 (1))),(.sc (.string ⟨#[]⟩)),(.sc (.int Go.IntKind.i64 (1000))),(.sc (.slice none 0 0))])])]),(.sc (.int Go.IntKind.i64 (0))),(.sc (.int Go.IntKind.i64 (0)))]))]⟩
noncomputable def F30:Abs.FTab:=F29.memo [m30]
end Go.Proofs.YtdbkkindfakbfaaGreat.evalValues
