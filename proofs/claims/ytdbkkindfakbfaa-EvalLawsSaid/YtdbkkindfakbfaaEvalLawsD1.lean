/-
  What single calls that the law EvalLaws makes return (part 1), by the values of the abstract layer. It proves no statement by itself.
-/
import Derived.Test.YtdbkkindfakbfaaProg
import Derived.Test.YtdbkkindfakbfaaAbsMm
import Derived.Test.YtdbkkindfakbfaaAbsDf
import Derived.KernelRfl
namespace Go.Proofs.Ytdbkkindfakbfaa.evalLaws
open Go
noncomputable def F00:Abs.FTab:=Abs.ftabZ Try.prog [12,38,56,83,9,13] [] [9,13]
def h0:Abs.Mem:=⟨65,[.sc (.int .i64 5)],[.ret (.tuple [(.sc (.string ⟨#[43]⟩)),(.sc (.int .i64 4))])]⟩
def h1:Abs.Mem:=⟨65,[.sc (.int .i64 6)],[.ret (.tuple [(.sc (.string ⟨#[45]⟩)),(.sc (.int .i64 4))])]⟩
def h2:Abs.Mem:=⟨65,[.sc (.int .i64 7)],[.ret (.tuple [(.sc (.string ⟨#[42]⟩)),(.sc (.int .i64 5))])]⟩
def h3:Abs.Mem:=⟨65,[.sc (.int .i64 8)],[.ret (.tuple [(.sc (.string ⟨#[47]⟩)),(.sc (.int .i64 5))])]⟩
def h4:Abs.Mem:=⟨65,[.sc (.int .i64 9)],[.ret (.tuple [(.sc (.string ⟨#[37]⟩)),(.sc (.int .i64 5))])]⟩
def h5:Abs.Mem:=⟨65,[.sc (.int .i64 10)],[.ret (.tuple [(.sc (.string ⟨#[60]⟩)),(.sc (.int .i64 3))])]⟩
def h6:Abs.Mem:=⟨65,[.sc (.int .i64 11)],[.ret (.tuple [(.sc (.string ⟨#[60,61]⟩)),(.sc (.int .i64 3))])]⟩
def h7:Abs.Mem:=⟨65,[.sc (.int .i64 12)],[.ret (.tuple [(.sc (.string ⟨#[61,61]⟩)),(.sc (.int .i64 3))])]⟩
def h8:Abs.Mem:=⟨65,[.sc (.int .i64 13)],[.ret (.tuple [(.sc (.string ⟨#[33,61]⟩)),(.sc (.int .i64 3))])]⟩
def h9:Abs.Mem:=⟨65,[.sc (.int .i64 14)],[.ret (.tuple [(.sc (.string ⟨#[62,61]⟩)),(.sc (.int .i64 3))])]⟩
def h10:Abs.Mem:=⟨65,[.sc (.int .i64 15)],[.ret (.tuple [(.sc (.string ⟨#[62]⟩)),(.sc (.int .i64 3))])]⟩
def h11:Abs.Mem:=⟨65,[.sc (.int .i64 16)],[.ret (.tuple [(.sc (.string ⟨#[38,38]⟩)),(.sc (.int .i64 2))])]⟩
def h12:Abs.Mem:=⟨65,[.sc (.int .i64 17)],[.ret (.tuple [(.sc (.string ⟨#[124,124]⟩)),(.sc (.int .i64 1))])]⟩
noncomputable def F0:Abs.FTab:=(((((((((((((F00.memo [h0]).memo [h1]).memo [h2]).memo [h3]).memo [h4]).memo [h5]).memo [h6]).memo [h7]).memo [h8]).memo [h9]).memo [h10]).memo [h11]).memo [h12])
def gm:Nat:=26306282577012893983485013056
def m1:Abs.Mem:=
  ⟨16,[(.sc (.string ⟨#[102,117,110,99,32,102,40,110,41,32,123,32,118,97,114,32,115,32,61,32,48,59,32,119,104,105,108,101,32,40,110,32,62,32,48,41,32,123,32,115,32,61,32,115,32,43,32,110,59,32,110,32,61,32,110,32,45,32,49,59,32,125,32,114,101,116,117,114,110,32,115,59,32,125]⟩)),(.sc (.int Go.IntKind.i64 (0)))],[(.ret (.data 3 false [(.agg [(.sc (.int Go.IntKind.u8 (97))),(.sc (.string ⟨#[102,117,110,99]⟩)),(.sc (.int Go.IntKind.i64 (0)))]),(.agg [(.sc (.int Go.IntKind.u8 (97))),(.sc (.string ⟨#[102]⟩)),(.sc (.int Go.IntKind.i64 (5)))]),(.agg [(.sc (.int Go.IntKind.u8 (46))),(.sc (.string ⟨#[40]⟩)),(.sc (.int Go.IntKind.i64 (6)))]),(.agg [(.sc (.int Go.IntKind.u8 (97))),(.sc (.string ⟨#[110]⟩)),(.sc (.int Go.IntKind.i64 (7)))]),(.agg [(.sc (.int Go.IntKind.u8 (46))),(.sc (.string ⟨#[41]⟩)),(.sc (.int Go.IntKind.i64 (8)))]),(.agg [(.sc (.int Go.IntKind.u8 (46))),(.sc (.string ⟨#[123]⟩)),(.sc (.int Go.IntKind.i64 (10)))]),(.agg [(.sc (.int Go.IntKind.u8 (97))),(.sc (.string ⟨#[118,97,114]⟩)),(.sc (.int Go.IntKind.i64 (12)))]),(.agg [(.sc (.int Go.IntKind.u8 (97))),(.sc (.string ⟨#[115]⟩)),(.sc (.int Go.IntKind.i64 (16)))]),(.agg [(.sc (.int Go.IntKind.u8 (46))),(.sc (.string ⟨#[61]⟩)),(.sc (.int Go.IntKind.i64 (18)))]),(.agg [(.sc (.int Go.IntKind.u8 (48))),(.sc (.string ⟨#[48]⟩)),(.sc (.int Go.IntKind.i64 (20)))]),(.agg [(.sc (.int Go.IntKind.u8 (46))),(.sc (.string ⟨#[59]⟩)),(.sc (.int Go.IntKind.i64 (21)))]),(.agg [(.sc (.int Go.IntKind.u8 (97))),(.sc (.string ⟨#[119,104,105,108,101]⟩)),(.sc (.int Go.IntKind.i64 (23)))]),(.agg [(.sc (.int Go.IntKind.u8 (46))),(.sc (.string ⟨#[40]⟩)),(.sc (.int Go.IntKind.i64 (29)))]),(.agg [(.sc (.int Go.IntKind.u8 (97))),(.sc (.string ⟨#[110]⟩)),(.sc (.int Go.IntKind.i64 (30)))]),(.agg [(.sc (.int Go.IntKind.u8 (46))),(.sc (.string ⟨#[62]⟩)),(.sc (.int Go.IntKind.i64 (32)))]),(.agg [(.sc (.int Go.IntKind.u8 (48))),(.sc (.string ⟨#[48]⟩)),(.sc (.int Go.IntKind.i64 (34)))]),(.agg [(.sc (.int Go.IntKind.u8 (46))),(.sc (.string ⟨#[41]⟩)),(.sc (.int Go.IntKind.i64 (35)))]),(.agg [(.sc (.int Go.IntKind.u8 (46))),(.sc (.string ⟨#[123]⟩)),(.sc (.int Go.IntKind.i64 (37)))]),(.agg [(.sc (.int Go.IntKind.u8 (97))),(.sc (.string ⟨#[115]⟩)),(.sc (.int Go.IntKind.i64 (39)))]),(.agg [(.sc (.int Go.IntKind.u8 (46))),(.sc (.string ⟨#[61]⟩)),(.sc (.int Go.IntKind.i64 (41)))]),(.agg [(.sc (.int Go.IntKind.u8 (97))),(.sc (.string ⟨#[115]⟩)),(.sc (.int Go.IntKind.i64 (43)))]),(.agg [(.sc (.int Go.IntKind.u8 (46))),(.sc (.string ⟨#[43]⟩)),(.sc (.int Go.IntKind.i64 (45)))]),(.agg [(.sc (.int Go.IntKind.u8 (97))),(.sc (.string ⟨#[110]⟩)),(.sc (.int Go.IntKind.i64 (47)))]),(.agg [(.sc (.int Go.IntKind.u8 (46))),(.sc (.string ⟨#[59]⟩)),(.sc (.int Go.IntKind.i64 (48)))]),(.agg [(.sc (.int Go.IntKind.u8 (97))),(.sc (.string ⟨#[110]⟩)),(.sc (.int Go.IntKind.i64 (50)))]),(.agg [(.sc (.int Go.IntKind.u8 (46))),(.sc (.string ⟨#[61]⟩)),(.sc (.int Go.IntKind.i64 (52)))]),(.agg [(.sc (.int Go.IntKind.u8 (97))),(.sc (.string ⟨#[110]⟩)),(.sc (.int Go.IntKind.i64 (54)))]),(.agg [(.sc (.int Go.IntKind.u8 (46))),(.sc (.string ⟨#[45]⟩)),(.sc (.int Go.IntKind.i64 (56)))]),(.agg [(.sc (.int Go.IntKind.u8 (48))),(.sc (.string ⟨#[49]⟩)),(.sc (.int Go.IntKind.i64 (58)))]),(.agg [(.sc (.int Go.IntKind.u8 (46))),(.sc (.string ⟨#[59]⟩)),(.sc (.int Go.IntKind.i64 (59)))]),(.agg [(.sc (.int Go.IntKind.u8 (46))),(.sc (.string ⟨#[125]⟩)),(.sc (.int Go.IntKind.i64 (61)))]),(.agg [(.sc (.int Go.IntKind.u8 (97))),(.sc (.string ⟨#[114,101,116,117,114,110]⟩)),(.sc (.int Go.IntKind.i64 (63)))]),(.agg [(.sc (.int Go.IntKind.u8 (97))),(.sc (.string ⟨#[115]⟩)),(.sc (.int Go.IntKind.i64 (70)))]),(.agg [(.sc (.int Go.IntKind.u8 (46))),(.sc (.string ⟨#[59]⟩)),(.sc (.int Go.IntKind.i64 (71)))]),(.agg [(.sc (.int Go.IntKind.u8 (46))),(.sc (.string ⟨#[125]⟩)),(.sc (.int Go.IntKind.i64 (73)))]),(.agg [(.sc (.int Go.IntKind.u8 (32))),(.sc (.string ⟨#[]⟩)),(.sc (.int Go.IntKind.i64 (74)))])]))]⟩
noncomputable def F1:Abs.FTab:=F0.memo [m1]
def k1:Abs.AVal:=.data 1 false [(.sc (.string ⟨#[109,111,100,101,108]⟩)),(.sc (.string ⟨#[99,108,111,99,107]⟩)),(.sc (.string ⟨#[118,97,114]⟩)),(.sc (.string ⟨#[105,110]⟩)),(.sc (.string ⟨#[99,104,97,110]⟩)),(.sc (.string ⟨#[98,114,111,97,100,99,97,115,116]⟩)),(.sc (.string ⟨#[117,114,103,101,110,116]⟩)),(.sc (.string ⟨#[99,111,109,109,105,116,116,101,100]⟩)),(.sc (.string ⟨#[102,117,110,99]⟩)),(.sc (.string ⟨#[112,114,111,99,101,115,115]⟩)),(.sc (.string ⟨#[105,110,105,116]⟩)),(.sc (.string ⟨#[108,111,99]⟩)),(.sc (.string ⟨#[105,110,118]⟩)),(.sc (.string ⟨#[114,97,116,101]⟩)),(.sc (.string ⟨#[101,100,103,101]⟩)),(.sc (.string ⟨#[119,104,101,110]⟩)),(.sc (.string ⟨#[105,102]⟩)),(.sc (.string ⟨#[101,108,115,101]⟩)),(.sc (.string ⟨#[119,104,105,108,101]⟩)),(.sc (.string ⟨#[114,101,116,117,114,110]⟩)),(.sc (.string ⟨#[115,121,110,99]⟩)),(.sc (.string ⟨#[100,111]⟩)),(.sc (.string ⟨#[114,101,115,101,116]⟩)),(.sc (.string ⟨#[99,111,115,116]⟩)),(.sc (.string ⟨#[107,105,110,100]⟩))]
def m2:Abs.Mem:=
  ⟨94,[k1,(.sc (.string ⟨#[102]⟩))],[(.ret (.sc (.bool false)))]⟩
noncomputable def F2:Abs.FTab:=F1.memo [m2]
def m3:Abs.Mem:=
  ⟨94,[k1,(.sc (.string ⟨#[110]⟩))],[(.ret (.sc (.bool false)))]⟩
noncomputable def F3:Abs.FTab:=F2.memo [m3]
def m4:Abs.Mem:=
  ⟨94,[k1,(.sc (.string ⟨#[115]⟩))],[(.ret (.sc (.bool false)))]⟩
noncomputable def F4:Abs.FTab:=F3.memo [m4]
def k2:Abs.AVal:=.agg [(.sc (.int Go.IntKind.i64 (1))),(.sc (.string ⟨#[115]⟩)),(.sc (.int Go.IntKind.i64 (1))),(.sc (.string ⟨#[]⟩)),(.sc (.int Go.IntKind.i64 (0))),(.sc (.slice none 0 0)),(.sc (.slice none 0 0)),(.sc (.slice none 0 0))]
def k3:Abs.AVal:=.agg [(.sc (.int Go.IntKind.i64 (2))),(.sc (.string ⟨#[110]⟩)),(.sc (.int Go.IntKind.i64 (0))),(.sc (.slice none 0 0))]
def k4:Abs.AVal:=.agg [(.sc (.int Go.IntKind.i64 (1))),(.sc (.string ⟨#[]⟩)),(.sc (.int Go.IntKind.i64 (0))),(.sc (.slice none 0 0))]
def k5:Abs.AVal:=.data 4 false [k3,k4]
def k6:Abs.AVal:=.agg [(.sc (.int Go.IntKind.i64 (2))),(.sc (.string ⟨#[115]⟩)),(.sc (.int Go.IntKind.i64 (0))),(.sc (.slice none 0 0))]
def k7:Abs.AVal:=.data 4 false [k6,k3]
def k8:Abs.AVal:=.agg [(.sc (.int Go.IntKind.i64 (2))),(.sc (.string ⟨#[115]⟩)),(.sc (.int Go.IntKind.i64 (5))),(.sc (.string ⟨#[]⟩)),(.sc (.int Go.IntKind.i64 (0))),k7,(.sc (.slice none 0 0)),(.sc (.slice none 0 0))]
def k9:Abs.AVal:=.agg [(.sc (.int Go.IntKind.i64 (1))),(.sc (.string ⟨#[]⟩)),(.sc (.int Go.IntKind.i64 (1))),(.sc (.slice none 0 0))]
def k10:Abs.AVal:=.data 4 false [k3,k9]
def k11:Abs.AVal:=.agg [(.sc (.int Go.IntKind.i64 (2))),(.sc (.string ⟨#[110]⟩)),(.sc (.int Go.IntKind.i64 (6))),(.sc (.string ⟨#[]⟩)),(.sc (.int Go.IntKind.i64 (0))),k10,(.sc (.slice none 0 0)),(.sc (.slice none 0 0))]
def k12:Abs.AVal:=.data 8 false [k8,k11]
def k13:Abs.AVal:=.agg [(.sc (.int Go.IntKind.i64 (4))),(.sc (.string ⟨#[]⟩)),(.sc (.int Go.IntKind.i64 (15))),(.sc (.string ⟨#[]⟩)),(.sc (.int Go.IntKind.i64 (0))),k5,k12,(.sc (.slice none 0 0))]
def k14:Abs.AVal:=.agg [(.sc (.int Go.IntKind.i64 (5))),(.sc (.string ⟨#[]⟩)),(.sc (.int Go.IntKind.i64 (2))),(.sc (.string ⟨#[115]⟩)),(.sc (.int Go.IntKind.i64 (0))),(.sc (.slice none 0 0)),(.sc (.slice none 0 0)),(.sc (.slice none 0 0))]
def k15:Abs.AVal:=.data 8 false [k2,k13,k14]
def k16:Abs.AVal:=.agg [(.sc (.string ⟨#[102]⟩)),(.data 1 false [(.sc (.string ⟨#[110]⟩))]),k15]
def k17:Abs.AVal:=.data 3 false [k16]
def m5:Abs.Mem:=
  ⟨11,[(.sc (.string ⟨#[102,117,110,99,32,102,40,110,41,32,123,32,118,97,114,32,115,32,61,32,48,59,32,119,104,105,108,101,32,40,110,32,62,32,48,41,32,123,32,115,32,61,32,115,32,43,32,110,59,32,110,32,61,32,110,32,45,32,49,59,32,125,32,114,101,116,117,114,110,32,115,59,32,125]⟩))],[(.ret (.tuple [k17,(.sc (.int Go.IntKind.i64 (0))),(.sc (.int Go.IntKind.i64 (0)))]))]⟩
noncomputable def F5:Abs.FTab:=F4.memo [m5]
def m6:Abs.Mem:=
  ⟨16,[(.sc (.string ⟨#[118,32,47,32,45,50,32,42,32,49,48,32,43,32,45,118,32,37,32,50]⟩)),(.sc (.int Go.IntKind.i64 (0)))],[(.ret (.data 3 false [(.agg [(.sc (.int Go.IntKind.u8 (97))),(.sc (.string ⟨#[118]⟩)),(.sc (.int Go.IntKind.i64 (0)))]),(.agg [(.sc (.int Go.IntKind.u8 (46))),(.sc (.string ⟨#[47]⟩)),(.sc (.int Go.IntKind.i64 (2)))]),(.agg [(.sc (.int Go.IntKind.u8 (46))),(.sc (.string ⟨#[45]⟩)),(.sc (.int Go.IntKind.i64 (4)))]),(.agg [(.sc (.int Go.IntKind.u8 (48))),(.sc (.string ⟨#[50]⟩)),(.sc (.int Go.IntKind.i64 (5)))]),(.agg [(.sc (.int Go.IntKind.u8 (46))),(.sc (.string ⟨#[42]⟩)),(.sc (.int Go.IntKind.i64 (7)))]),(.agg [(.sc (.int Go.IntKind.u8 (48))),(.sc (.string ⟨#[49,48]⟩)),(.sc (.int Go.IntKind.i64 (9)))]),(.agg [(.sc (.int Go.IntKind.u8 (46))),(.sc (.string ⟨#[43]⟩)),(.sc (.int Go.IntKind.i64 (12)))]),(.agg [(.sc (.int Go.IntKind.u8 (46))),(.sc (.string ⟨#[45]⟩)),(.sc (.int Go.IntKind.i64 (14)))]),(.agg [(.sc (.int Go.IntKind.u8 (97))),(.sc (.string ⟨#[118]⟩)),(.sc (.int Go.IntKind.i64 (15)))]),(.agg [(.sc (.int Go.IntKind.u8 (46))),(.sc (.string ⟨#[37]⟩)),(.sc (.int Go.IntKind.i64 (17)))]),(.agg [(.sc (.int Go.IntKind.u8 (48))),(.sc (.string ⟨#[50]⟩)),(.sc (.int Go.IntKind.i64 (19)))]),(.agg [(.sc (.int Go.IntKind.u8 (32))),(.sc (.string ⟨#[]⟩)),(.sc (.int Go.IntKind.i64 (20)))])]))]⟩
noncomputable def F6:Abs.FTab:=F5.memo [m6]
def m7:Abs.Mem:=
  ⟨94,[k1,(.sc (.string ⟨#[118]⟩))],[(.ret (.sc (.bool false)))]⟩
noncomputable def F7:Abs.FTab:=F6.memo [m7]
def k18:Abs.AVal:=.agg [(.sc (.int Go.IntKind.i64 (2))),(.sc (.string ⟨#[118]⟩)),(.sc (.int Go.IntKind.i64 (0))),(.sc (.slice none 0 0))]
def k19:Abs.AVal:=.agg [(.sc (.int Go.IntKind.i64 (1))),(.sc (.string ⟨#[]⟩)),(.sc (.int Go.IntKind.i64 (-2))),(.sc (.slice none 0 0))]
def k20:Abs.AVal:=.data 4 false [k18,k19]
def k21:Abs.AVal:=.agg [(.sc (.int Go.IntKind.i64 (8))),(.sc (.string ⟨#[]⟩)),(.sc (.int Go.IntKind.i64 (0))),k20]
def k22:Abs.AVal:=.agg [(.sc (.int Go.IntKind.i64 (1))),(.sc (.string ⟨#[]⟩)),(.sc (.int Go.IntKind.i64 (10))),(.sc (.slice none 0 0))]
def k23:Abs.AVal:=.data 4 false [k21,k22]
def k24:Abs.AVal:=.agg [(.sc (.int Go.IntKind.i64 (7))),(.sc (.string ⟨#[]⟩)),(.sc (.int Go.IntKind.i64 (0))),k23]
def k25:Abs.AVal:=.data 4 false [k18]
def k26:Abs.AVal:=.agg [(.sc (.int Go.IntKind.i64 (3))),(.sc (.string ⟨#[]⟩)),(.sc (.int Go.IntKind.i64 (0))),k25]
def k27:Abs.AVal:=.agg [(.sc (.int Go.IntKind.i64 (1))),(.sc (.string ⟨#[]⟩)),(.sc (.int Go.IntKind.i64 (2))),(.sc (.slice none 0 0))]
def k28:Abs.AVal:=.data 4 false [k26,k27]
def k29:Abs.AVal:=.agg [(.sc (.int Go.IntKind.i64 (9))),(.sc (.string ⟨#[]⟩)),(.sc (.int Go.IntKind.i64 (0))),k28]
def k30:Abs.AVal:=.data 4 false [k24,k29]
def k31:Abs.AVal:=.agg [(.sc (.int Go.IntKind.i64 (5))),(.sc (.string ⟨#[]⟩)),(.sc (.int Go.IntKind.i64 (0))),k30]
def m8:Abs.Mem:=
  ⟨10,[(.sc (.string ⟨#[118,32,47,32,45,50,32,42,32,49,48,32,43,32,45,118,32,37,32,50]⟩))],[(.ret (.tuple [k31,(.sc (.int Go.IntKind.i64 (0))),(.sc (.int Go.IntKind.i64 (0)))]))]⟩
noncomputable def F8:Abs.FTab:=F7.memo [m8]
def m9:Abs.Mem:=
  ⟨66,[(.sc (.string ⟨#[118]⟩))],[(.ret (.sc (.bool true)))]⟩
noncomputable def F9:Abs.FTab:=F8.memo [m9]
def m10:Abs.Mem:=
  ⟨88,[k23,(.func (.func 68) [] [])],[(.ret (.sc (.int Go.IntKind.i64 (-1))))]⟩
noncomputable def F10:Abs.FTab:=F9.memo [m10]
def m11:Abs.Mem:=
  ⟨52,[k29],[(.ret (.sc (.bool true)))]⟩
noncomputable def F11:Abs.FTab:=F10.memo [m11]
def m12:Abs.Mem:=
  ⟨53,[k31],[(.ret (.agg [(.sc (.int Go.IntKind.i64 (10))),(.sc (.int Go.IntKind.i64 (4))),(.sc (.bool false))]))]⟩
noncomputable def F12:Abs.FTab:=F11.memo [m12]
def m13:Abs.Mem:=
  ⟨13,[k31,(.data 1 false [(.sc (.string ⟨#[118]⟩))]),(.sc (.slice none 0 0))],[(.ret (.sc (.int Go.IntKind.i64 (0))))]⟩
noncomputable def F13:Abs.FTab:=F12.memoT [m13]
def m14:Abs.Mem:=
  ⟨16,[(.sc (.string ⟨#[118,32,47,32,48]⟩)),(.sc (.int Go.IntKind.i64 (0)))],[(.ret (.data 3 false [(.agg [(.sc (.int Go.IntKind.u8 (97))),(.sc (.string ⟨#[118]⟩)),(.sc (.int Go.IntKind.i64 (0)))]),(.agg [(.sc (.int Go.IntKind.u8 (46))),(.sc (.string ⟨#[47]⟩)),(.sc (.int Go.IntKind.i64 (2)))]),(.agg [(.sc (.int Go.IntKind.u8 (48))),(.sc (.string ⟨#[48]⟩)),(.sc (.int Go.IntKind.i64 (4)))]),(.agg [(.sc (.int Go.IntKind.u8 (32))),(.sc (.string ⟨#[]⟩)),(.sc (.int Go.IntKind.i64 (5)))])]))]⟩
noncomputable def F14:Abs.FTab:=F13.memo [m14]
def k32:Abs.AVal:=.data 4 false [k18,k4]
def k33:Abs.AVal:=.agg [(.sc (.int Go.IntKind.i64 (8))),(.sc (.string ⟨#[]⟩)),(.sc (.int Go.IntKind.i64 (0))),k32]
def m15:Abs.Mem:=
  ⟨10,[(.sc (.string ⟨#[118,32,47,32,48]⟩))],[(.ret (.tuple [k33,(.sc (.int Go.IntKind.i64 (0))),(.sc (.int Go.IntKind.i64 (0)))]))]⟩
noncomputable def F15:Abs.FTab:=F14.memo [m15]
def m16:Abs.Mem:=
  ⟨37,[k33],[(.ret (.sc (.int Go.IntKind.i64 (0))))]⟩
noncomputable def F16:Abs.FTab:=F15.memo [m16]
def m17:Abs.Mem:=
  ⟨16,[(.sc (.string ⟨#[102,40,49,48,41]⟩)),(.sc (.int Go.IntKind.i64 (0)))],[(.ret (.data 3 false [(.agg [(.sc (.int Go.IntKind.u8 (97))),(.sc (.string ⟨#[102]⟩)),(.sc (.int Go.IntKind.i64 (0)))]),(.agg [(.sc (.int Go.IntKind.u8 (46))),(.sc (.string ⟨#[40]⟩)),(.sc (.int Go.IntKind.i64 (1)))]),(.agg [(.sc (.int Go.IntKind.u8 (48))),(.sc (.string ⟨#[49,48]⟩)),(.sc (.int Go.IntKind.i64 (2)))]),(.agg [(.sc (.int Go.IntKind.u8 (46))),(.sc (.string ⟨#[41]⟩)),(.sc (.int Go.IntKind.i64 (4)))]),(.agg [(.sc (.int Go.IntKind.u8 (32))),(.sc (.string ⟨#[]⟩)),(.sc (.int Go.IntKind.i64 (5)))])]))]⟩
noncomputable def F17:Abs.FTab:=F16.memo [m17]
def k34:Abs.AVal:=.data 4 false [k22]
def k35:Abs.AVal:=.agg [(.sc (.int Go.IntKind.i64 (19))),(.sc (.string ⟨#[102]⟩)),(.sc (.int Go.IntKind.i64 (0))),k34]
def m18:Abs.Mem:=
  ⟨10,[(.sc (.string ⟨#[102,40,49,48,41]⟩))],[(.ret (.tuple [k35,(.sc (.int Go.IntKind.i64 (0))),(.sc (.int Go.IntKind.i64 (0)))]))]⟩
noncomputable def F18:Abs.FTab:=F17.memo [m18]
def m19:Abs.Mem:=
  ⟨66,[(.sc (.string ⟨#[102]⟩))],[(.ret (.sc (.bool true)))]⟩
noncomputable def F19:Abs.FTab:=F18.memo [m19]
def m20:Abs.Mem:=
  ⟨66,[(.sc (.string ⟨#[110]⟩))],[(.ret (.sc (.bool true)))]⟩
noncomputable def F20:Abs.FTab:=F19.memo [m20]
def m21:Abs.Mem:=
  ⟨66,[(.sc (.string ⟨#[115]⟩))],[(.ret (.sc (.bool true)))]⟩
noncomputable def F21:Abs.FTab:=F20.memo [m21]
def m22:Abs.Mem:=
  ⟨74,[k8],[(.ret (.sc (.bool true)))]⟩
noncomputable def F22:Abs.FTab:=F21.memo [m22]
def m23:Abs.Mem:=
  ⟨74,[k11],[(.ret (.sc (.bool true)))]⟩
noncomputable def F23:Abs.FTab:=F22.memo [m23]
def m24:Abs.Mem:=
  ⟨74,[k13],[(.ret (.sc (.bool true)))]⟩
noncomputable def F24:Abs.FTab:=F23.memo [m24]
def m25:Abs.Mem:=
  ⟨90,[k15,(.func (.func 73) [] [])],[(.ret (.sc (.int Go.IntKind.i64 (-1))))]⟩
noncomputable def F25:Abs.FTab:=F24.memo [m25]
def m26:Abs.Mem:=
  ⟨92,[k13],[(.ret (.agg [(.sc (.int Go.IntKind.i64 (12))),(.sc (.int Go.IntKind.i64 (4))),(.sc (.bool false))]))]⟩
noncomputable def F26:Abs.FTab:=F25.memo [m26]
def m27:Abs.Mem:=
  ⟨75,[k17],[(.ret (.sc (.bool true)))]⟩
noncomputable def F27:Abs.FTab:=F26.memo [m27]
def m28:Abs.Mem:=
  ⟨13,[k35,(.data 1 false [(.sc (.string ⟨#[118]⟩))]),k17],[(.ret (.sc (.int Go.IntKind.i64 (0))))]⟩
noncomputable def F28:Abs.FTab:=F27.memoT [m28]
def m29:Abs.Mem:=
  ⟨16,[(.sc (.string ⟨#[102,40,49,48,48,48,41]⟩)),(.sc (.int Go.IntKind.i64 (0)))],[(.ret (.data 3 false [(.agg [(.sc (.int Go.IntKind.u8 (97))),(.sc (.string ⟨#[102]⟩)),(.sc (.int Go.IntKind.i64 (0)))]),(.agg [(.sc (.int Go.IntKind.u8 (46))),(.sc (.string ⟨#[40]⟩)),(.sc (.int Go.IntKind.i64 (1)))]),(.agg [(.sc (.int Go.IntKind.u8 (48))),(.sc (.string ⟨#[49,48,48,48]⟩)),(.sc (.int Go.IntKind.i64 (2)))]),(.agg [(.sc (.int Go.IntKind.u8 (46))),(.sc (.string ⟨#[41]⟩)),(.sc (.int Go.IntKind.i64 (6)))]),(.agg [(.sc (.int Go.IntKind.u8 (32))),(.sc (.string ⟨#[]⟩)),(.sc (.int Go.IntKind.i64 (7)))])]))]⟩
noncomputable def F29:Abs.FTab:=F28.memo [m29]
def k36:Abs.AVal:=.agg [(.sc (.int Go.IntKind.i64 (1))),(.sc (.string ⟨#[]⟩)),(.sc (.int Go.IntKind.i64 (1000))),(.sc (.slice none 0 0))]
def k37:Abs.AVal:=.data 4 false [k36]
def k38:Abs.AVal:=.agg [(.sc (.int Go.IntKind.i64 (19))),(.sc (.string ⟨#[102]⟩)),(.sc (.int Go.IntKind.i64 (0))),k37]
def m30:Abs.Mem:=
  ⟨10,[(.sc (.string ⟨#[102,40,49,48,48,48,41]⟩))],[(.ret (.tuple [k38,(.sc (.int Go.IntKind.i64 (0))),(.sc (.int Go.IntKind.i64 (0)))]))]⟩
noncomputable def F30:Abs.FTab:=F29.memo [m30]
def m31:Abs.Mem:=
  ⟨13,[k38,(.data 1 false [(.sc (.string ⟨#[118]⟩))]),k17],[(.ret (.sc (.int Go.IntKind.i64 (0))))]⟩
noncomputable def F31:Abs.FTab:=F30.memoT [m31]
def m32:Abs.Mem:=
  ⟨16,[(.sc (.string ⟨#[40,97,32,43,32,98,41,32,42,32,99,32,61,61,32,97,32,42,32,99,32,43,32,98,32,42,32,99]⟩)),(.sc (.int Go.IntKind.i64 (0)))],[(.ret (.data 3 false [(.agg [(.sc (.int Go.IntKind.u8 (46))),(.sc (.string ⟨#[40]⟩)),(.sc (.int Go.IntKind.i64 (0)))]),(.agg [(.sc (.int Go.IntKind.u8 (97))),(.sc (.string ⟨#[97]⟩)),(.sc (.int Go.IntKind.i64 (1)))]),(.agg [(.sc (.int Go.IntKind.u8 (46))),(.sc (.string ⟨#[43]⟩)),(.sc (.int Go.IntKind.i64 (3)))]),(.agg [(.sc (.int Go.IntKind.u8 (97))),(.sc (.string ⟨#[98]⟩)),(.sc (.int Go.IntKind.i64 (5)))]),(.agg [(.sc (.int Go.IntKind.u8 (46))),(.sc (.string ⟨#[41]⟩)),(.sc (.int Go.IntKind.i64 (6)))]),(.agg [(.sc (.int Go.IntKind.u8 (46))),(.sc (.string ⟨#[42]⟩)),(.sc (.int Go.IntKind.i64 (8)))]),(.agg [(.sc (.int Go.IntKind.u8 (97))),(.sc (.string ⟨#[99]⟩)),(.sc (.int Go.IntKind.i64 (10)))]),(.agg [(.sc (.int Go.IntKind.u8 (46))),(.sc (.string ⟨#[61,61]⟩)),(.sc (.int Go.IntKind.i64 (12)))]),(.agg [(.sc (.int Go.IntKind.u8 (97))),(.sc (.string ⟨#[97]⟩)),(.sc (.int Go.IntKind.i64 (15)))]),(.agg [(.sc (.int Go.IntKind.u8 (46))),(.sc (.string ⟨#[42]⟩)),(.sc (.int Go.IntKind.i64 (17)))]),(.agg [(.sc (.int Go.IntKind.u8 (97))),(.sc (.string ⟨#[99]⟩)),(.sc (.int Go.IntKind.i64 (19)))]),(.agg [(.sc (.int Go.IntKind.u8 (46))),(.sc (.string ⟨#[43]⟩)),(.sc (.int Go.IntKind.i64 (21)))]),(.agg [(.sc (.int Go.IntKind.u8 (97))),(.sc (.string ⟨#[98]⟩)),(.sc (.int Go.IntKind.i64 (23)))]),(.agg [(.sc (.int Go.IntKind.u8 (46))),(.sc (.string ⟨#[42]⟩)),(.sc (.int Go.IntKind.i64 (25)))]),(.agg [(.sc (.int Go.IntKind.u8 (97))),(.sc (.string ⟨#[99]⟩)),(.sc (.int Go.IntKind.i64 (27)))]),(.agg [(.sc (.int Go.IntKind.u8 (32))),(.sc (.string ⟨#[]⟩)),(.sc (.int Go.IntKind.i64 (28)))])]))]⟩
noncomputable def F32:Abs.FTab:=F31.memo [m32]
def m33:Abs.Mem:=
  ⟨94,[k1,(.sc (.string ⟨#[97]⟩))],[(.ret (.sc (.bool false)))]⟩
noncomputable def F33:Abs.FTab:=F32.memo [m33]
def m34:Abs.Mem:=
  ⟨94,[k1,(.sc (.string ⟨#[98]⟩))],[(.ret (.sc (.bool false)))]⟩
noncomputable def F34:Abs.FTab:=F33.memo [m34]
def m35:Abs.Mem:=
  ⟨94,[k1,(.sc (.string ⟨#[99]⟩))],[(.ret (.sc (.bool false)))]⟩
noncomputable def F35:Abs.FTab:=F34.memo [m35]
def k39:Abs.AVal:=.agg [(.sc (.int Go.IntKind.i64 (2))),(.sc (.string ⟨#[97]⟩)),(.sc (.int Go.IntKind.i64 (0))),(.sc (.slice none 0 0))]
def k40:Abs.AVal:=.agg [(.sc (.int Go.IntKind.i64 (2))),(.sc (.string ⟨#[99]⟩)),(.sc (.int Go.IntKind.i64 (0))),(.sc (.slice none 0 0))]
def k41:Abs.AVal:=.data 4 false [k39,k40]
def k42:Abs.AVal:=.agg [(.sc (.int Go.IntKind.i64 (7))),(.sc (.string ⟨#[]⟩)),(.sc (.int Go.IntKind.i64 (0))),k41]
def k43:Abs.AVal:=.agg [(.sc (.int Go.IntKind.i64 (2))),(.sc (.string ⟨#[98]⟩)),(.sc (.int Go.IntKind.i64 (0))),(.sc (.slice none 0 0))]
def k44:Abs.AVal:=.data 4 false [k43,k40]
def k45:Abs.AVal:=.agg [(.sc (.int Go.IntKind.i64 (7))),(.sc (.string ⟨#[]⟩)),(.sc (.int Go.IntKind.i64 (0))),k44]
def k46:Abs.AVal:=.data 4 false [k42,k45]
def k47:Abs.AVal:=.agg [(.sc (.int Go.IntKind.i64 (5))),(.sc (.string ⟨#[]⟩)),(.sc (.int Go.IntKind.i64 (0))),k46]
def m36:Abs.Mem:=
  ⟨48,[k47],[(.ret (.tuple [(.sc (.int Go.IntKind.i64 (7))),(.sc (.int Go.IntKind.i64 (3))),(.sc (.bool true))]))]⟩
noncomputable def F36:Abs.FTab:=F35.memo [m36]
def k48:Abs.AVal:=.data 4 false [k39,k43]
def k49:Abs.AVal:=.agg [(.sc (.int Go.IntKind.i64 (5))),(.sc (.string ⟨#[]⟩)),(.sc (.int Go.IntKind.i64 (0))),k48]
def k50:Abs.AVal:=.data 4 false [k49,k40]
def k51:Abs.AVal:=.agg [(.sc (.int Go.IntKind.i64 (7))),(.sc (.string ⟨#[]⟩)),(.sc (.int Go.IntKind.i64 (0))),k50]
def k52:Abs.AVal:=.data 4 false [k51,k47]
def k53:Abs.AVal:=.agg [(.sc (.int Go.IntKind.i64 (12))),(.sc (.string ⟨#[]⟩)),(.sc (.int Go.IntKind.i64 (0))),k52]
def m37:Abs.Mem:=
  ⟨48,[k53],[(.ret (.tuple [(.sc (.int Go.IntKind.i64 (13))),(.sc (.int Go.IntKind.i64 (4))),(.sc (.bool true))]))]⟩
noncomputable def F37:Abs.FTab:=F36.memo [m37]
def m38:Abs.Mem:=
  ⟨10,[(.sc (.string ⟨#[40,97,32,43,32,98,41,32,42,32,99,32,61,61,32,97,32,42,32,99,32,43,32,98,32,42,32,99]⟩))],[(.ret (.tuple [k53,(.sc (.int Go.IntKind.i64 (0))),(.sc (.int Go.IntKind.i64 (0)))]))]⟩
noncomputable def F38:Abs.FTab:=F37.memo [m38]
def m39:Abs.Mem:=
  ⟨66,[(.sc (.string ⟨#[97]⟩))],[(.ret (.sc (.bool true)))]⟩
noncomputable def F39:Abs.FTab:=F38.memo [m39]
def m40:Abs.Mem:=
  ⟨66,[(.sc (.string ⟨#[98]⟩))],[(.ret (.sc (.bool true)))]⟩
noncomputable def F40:Abs.FTab:=F39.memo [m40]
def m41:Abs.Mem:=
  ⟨66,[(.sc (.string ⟨#[99]⟩))],[(.ret (.sc (.bool true)))]⟩
noncomputable def F41:Abs.FTab:=F40.memo [m41]
def m42:Abs.Mem:=
  ⟨88,[k50,(.func (.func 68) [] [])],[(.ret (.sc (.int Go.IntKind.i64 (-1))))]⟩
noncomputable def F42:Abs.FTab:=F41.memo [m42]
def m43:Abs.Mem:=
  ⟨88,[k46,(.func (.func 68) [] [])],[(.ret (.sc (.int Go.IntKind.i64 (-1))))]⟩
noncomputable def F43:Abs.FTab:=F42.memo [m43]
def m44:Abs.Mem:=
  ⟨53,[k47],[(.ret (.agg [(.sc (.int Go.IntKind.i64 (7))),(.sc (.int Go.IntKind.i64 (3))),(.sc (.bool false))]))]⟩
noncomputable def F44:Abs.FTab:=F43.memo [m44]
def m45:Abs.Mem:=
  ⟨53,[k53],[(.ret (.agg [(.sc (.int Go.IntKind.i64 (13))),(.sc (.int Go.IntKind.i64 (4))),(.sc (.bool false))]))]⟩
noncomputable def F45:Abs.FTab:=F44.memo [m45]
def m46:Abs.Mem:=
  ⟨37,[k53],[(.ret (.sc (.int Go.IntKind.i64 (0))))]⟩
noncomputable def F46:Abs.FTab:=F45.memo [m46]
def m47:Abs.Mem:=
  ⟨13,[k53,(.data 1 false [(.sc (.string ⟨#[97]⟩)),(.sc (.string ⟨#[98]⟩)),(.sc (.string ⟨#[99]⟩))]),(.sc (.slice none 0 0))],[(.ret (.sc (.int Go.IntKind.i64 (0))))]⟩
noncomputable def F47:Abs.FTab:=F46.memoT [m47]
def m48:Abs.Mem:=
  ⟨16,[(.sc (.string ⟨#[97,32,45,32,98,32,61,61,32,45,40,98,32,45,32,97,41]⟩)),(.sc (.int Go.IntKind.i64 (0)))],[(.ret (.data 3 false [(.agg [(.sc (.int Go.IntKind.u8 (97))),(.sc (.string ⟨#[97]⟩)),(.sc (.int Go.IntKind.i64 (0)))]),(.agg [(.sc (.int Go.IntKind.u8 (46))),(.sc (.string ⟨#[45]⟩)),(.sc (.int Go.IntKind.i64 (2)))]),(.agg [(.sc (.int Go.IntKind.u8 (97))),(.sc (.string ⟨#[98]⟩)),(.sc (.int Go.IntKind.i64 (4)))]),(.agg [(.sc (.int Go.IntKind.u8 (46))),(.sc (.string ⟨#[61,61]⟩)),(.sc (.int Go.IntKind.i64 (6)))]),(.agg [(.sc (.int Go.IntKind.u8 (46))),(.sc (.string ⟨#[45]⟩)),(.sc (.int Go.IntKind.i64 (9)))]),(.agg [(.sc (.int Go.IntKind.u8 (46))),(.sc (.string ⟨#[40]⟩)),(.sc (.int Go.IntKind.i64 (10)))]),(.agg [(.sc (.int Go.IntKind.u8 (97))),(.sc (.string ⟨#[98]⟩)),(.sc (.int Go.IntKind.i64 (11)))]),(.agg [(.sc (.int Go.IntKind.u8 (46))),(.sc (.string ⟨#[45]⟩)),(.sc (.int Go.IntKind.i64 (13)))]),(.agg [(.sc (.int Go.IntKind.u8 (97))),(.sc (.string ⟨#[97]⟩)),(.sc (.int Go.IntKind.i64 (15)))]),(.agg [(.sc (.int Go.IntKind.u8 (46))),(.sc (.string ⟨#[41]⟩)),(.sc (.int Go.IntKind.i64 (16)))]),(.agg [(.sc (.int Go.IntKind.u8 (32))),(.sc (.string ⟨#[]⟩)),(.sc (.int Go.IntKind.i64 (17)))])]))]⟩
noncomputable def F48:Abs.FTab:=F47.memo [m48]
def k54:Abs.AVal:=.agg [(.sc (.int Go.IntKind.i64 (6))),(.sc (.string ⟨#[]⟩)),(.sc (.int Go.IntKind.i64 (0))),k48]
def k55:Abs.AVal:=.data 4 false [k43,k39]
def k56:Abs.AVal:=.agg [(.sc (.int Go.IntKind.i64 (6))),(.sc (.string ⟨#[]⟩)),(.sc (.int Go.IntKind.i64 (0))),k55]
def k57:Abs.AVal:=.data 4 false [k56]
def k58:Abs.AVal:=.agg [(.sc (.int Go.IntKind.i64 (3))),(.sc (.string ⟨#[]⟩)),(.sc (.int Go.IntKind.i64 (0))),k57]
def k59:Abs.AVal:=.data 4 false [k54,k58]
def k60:Abs.AVal:=.agg [(.sc (.int Go.IntKind.i64 (12))),(.sc (.string ⟨#[]⟩)),(.sc (.int Go.IntKind.i64 (0))),k59]
def m49:Abs.Mem:=
  ⟨10,[(.sc (.string ⟨#[97,32,45,32,98,32,61,61,32,45,40,98,32,45,32,97,41]⟩))],[(.ret (.tuple [k60,(.sc (.int Go.IntKind.i64 (0))),(.sc (.int Go.IntKind.i64 (0)))]))]⟩
noncomputable def F49:Abs.FTab:=F48.memo [m49]
def m50:Abs.Mem:=
  ⟨52,[k58],[(.ret (.sc (.bool true)))]⟩
noncomputable def F50:Abs.FTab:=F49.memo [m50]
def m51:Abs.Mem:=
  ⟨88,[k59,(.func (.func 68) [] [])],[(.ret (.sc (.int Go.IntKind.i64 (-1))))]⟩
noncomputable def F51:Abs.FTab:=F50.memo [m51]
def m52:Abs.Mem:=
  ⟨53,[k60],[(.ret (.agg [(.sc (.int Go.IntKind.i64 (8))),(.sc (.int Go.IntKind.i64 (4))),(.sc (.bool false))]))]⟩
noncomputable def F52:Abs.FTab:=F51.memo [m52]
def m53:Abs.Mem:=
  ⟨13,[k60,(.data 1 false [(.sc (.string ⟨#[97]⟩)),(.sc (.string ⟨#[98]⟩)),(.sc (.string ⟨#[99]⟩))]),(.sc (.slice none 0 0))],[(.ret (.sc (.int Go.IntKind.i64 (0))))]⟩
noncomputable def F53:Abs.FTab:=F52.memoT [m53]
def m54:Abs.Mem:=
  ⟨16,[(.sc (.string ⟨#[97,32,43,32,98,32,61,61,32,98,32,43,32,97]⟩)),(.sc (.int Go.IntKind.i64 (0)))],[(.ret (.data 3 false [(.agg [(.sc (.int Go.IntKind.u8 (97))),(.sc (.string ⟨#[97]⟩)),(.sc (.int Go.IntKind.i64 (0)))]),(.agg [(.sc (.int Go.IntKind.u8 (46))),(.sc (.string ⟨#[43]⟩)),(.sc (.int Go.IntKind.i64 (2)))]),(.agg [(.sc (.int Go.IntKind.u8 (97))),(.sc (.string ⟨#[98]⟩)),(.sc (.int Go.IntKind.i64 (4)))]),(.agg [(.sc (.int Go.IntKind.u8 (46))),(.sc (.string ⟨#[61,61]⟩)),(.sc (.int Go.IntKind.i64 (6)))]),(.agg [(.sc (.int Go.IntKind.u8 (97))),(.sc (.string ⟨#[98]⟩)),(.sc (.int Go.IntKind.i64 (9)))]),(.agg [(.sc (.int Go.IntKind.u8 (46))),(.sc (.string ⟨#[43]⟩)),(.sc (.int Go.IntKind.i64 (11)))]),(.agg [(.sc (.int Go.IntKind.u8 (97))),(.sc (.string ⟨#[97]⟩)),(.sc (.int Go.IntKind.i64 (13)))]),(.agg [(.sc (.int Go.IntKind.u8 (32))),(.sc (.string ⟨#[]⟩)),(.sc (.int Go.IntKind.i64 (14)))])]))]⟩
noncomputable def F54:Abs.FTab:=F53.memo [m54]
def k61:Abs.AVal:=.agg [(.sc (.int Go.IntKind.i64 (5))),(.sc (.string ⟨#[]⟩)),(.sc (.int Go.IntKind.i64 (0))),k55]
def k62:Abs.AVal:=.data 4 false [k49,k61]
def k63:Abs.AVal:=.agg [(.sc (.int Go.IntKind.i64 (12))),(.sc (.string ⟨#[]⟩)),(.sc (.int Go.IntKind.i64 (0))),k62]
def m55:Abs.Mem:=
  ⟨48,[k63],[(.ret (.tuple [(.sc (.int Go.IntKind.i64 (7))),(.sc (.int Go.IntKind.i64 (3))),(.sc (.bool true))]))]⟩
noncomputable def F55:Abs.FTab:=F54.memo [m55]
def m56:Abs.Mem:=
  ⟨10,[(.sc (.string ⟨#[97,32,43,32,98,32,61,61,32,98,32,43,32,97]⟩))],[(.ret (.tuple [k63,(.sc (.int Go.IntKind.i64 (0))),(.sc (.int Go.IntKind.i64 (0)))]))]⟩
noncomputable def F56:Abs.FTab:=F55.memo [m56]
def m57:Abs.Mem:=
  ⟨88,[k62,(.func (.func 68) [] [])],[(.ret (.sc (.int Go.IntKind.i64 (-1))))]⟩
noncomputable def F57:Abs.FTab:=F56.memo [m57]
def m58:Abs.Mem:=
  ⟨53,[k63],[(.ret (.agg [(.sc (.int Go.IntKind.i64 (7))),(.sc (.int Go.IntKind.i64 (3))),(.sc (.bool false))]))]⟩
noncomputable def F58:Abs.FTab:=F57.memo [m58]
def m59:Abs.Mem:=
  ⟨13,[k63,(.data 1 false [(.sc (.string ⟨#[97]⟩)),(.sc (.string ⟨#[98]⟩)),(.sc (.string ⟨#[99]⟩))]),(.sc (.slice none 0 0))],[(.ret (.sc (.int Go.IntKind.i64 (0))))]⟩
noncomputable def F59:Abs.FTab:=F58.memoT [m59]
def m60:Abs.Mem:=
  ⟨16,[(.sc (.string ⟨#[97,32,42,32,98,32,61,61,32,98,32,42,32,97]⟩)),(.sc (.int Go.IntKind.i64 (0)))],[(.ret (.data 3 false [(.agg [(.sc (.int Go.IntKind.u8 (97))),(.sc (.string ⟨#[97]⟩)),(.sc (.int Go.IntKind.i64 (0)))]),(.agg [(.sc (.int Go.IntKind.u8 (46))),(.sc (.string ⟨#[42]⟩)),(.sc (.int Go.IntKind.i64 (2)))]),(.agg [(.sc (.int Go.IntKind.u8 (97))),(.sc (.string ⟨#[98]⟩)),(.sc (.int Go.IntKind.i64 (4)))]),(.agg [(.sc (.int Go.IntKind.u8 (46))),(.sc (.string ⟨#[61,61]⟩)),(.sc (.int Go.IntKind.i64 (6)))]),(.agg [(.sc (.int Go.IntKind.u8 (97))),(.sc (.string ⟨#[98]⟩)),(.sc (.int Go.IntKind.i64 (9)))]),(.agg [(.sc (.int Go.IntKind.u8 (46))),(.sc (.string ⟨#[42]⟩)),(.sc (.int Go.IntKind.i64 (11)))]),(.agg [(.sc (.int Go.IntKind.u8 (97))),(.sc (.string ⟨#[97]⟩)),(.sc (.int Go.IntKind.i64 (13)))]),(.agg [(.sc (.int Go.IntKind.u8 (32))),(.sc (.string ⟨#[]⟩)),(.sc (.int Go.IntKind.i64 (14)))])]))]⟩
noncomputable def F60:Abs.FTab:=F59.memo [m60]
def k64:Abs.AVal:=.agg [(.sc (.int Go.IntKind.i64 (7))),(.sc (.string ⟨#[]⟩)),(.sc (.int Go.IntKind.i64 (0))),k48]
def k65:Abs.AVal:=.agg [(.sc (.int Go.IntKind.i64 (7))),(.sc (.string ⟨#[]⟩)),(.sc (.int Go.IntKind.i64 (0))),k55]
def k66:Abs.AVal:=.data 4 false [k64,k65]
def k67:Abs.AVal:=.agg [(.sc (.int Go.IntKind.i64 (12))),(.sc (.string ⟨#[]⟩)),(.sc (.int Go.IntKind.i64 (0))),k66]
def m61:Abs.Mem:=
  ⟨48,[k67],[(.ret (.tuple [(.sc (.int Go.IntKind.i64 (7))),(.sc (.int Go.IntKind.i64 (3))),(.sc (.bool true))]))]⟩
noncomputable def F61:Abs.FTab:=F60.memo [m61]
def m62:Abs.Mem:=
  ⟨10,[(.sc (.string ⟨#[97,32,42,32,98,32,61,61,32,98,32,42,32,97]⟩))],[(.ret (.tuple [k67,(.sc (.int Go.IntKind.i64 (0))),(.sc (.int Go.IntKind.i64 (0)))]))]⟩
noncomputable def F62:Abs.FTab:=F61.memo [m62]
def m63:Abs.Mem:=
  ⟨88,[k66,(.func (.func 68) [] [])],[(.ret (.sc (.int Go.IntKind.i64 (-1))))]⟩
noncomputable def F63:Abs.FTab:=F62.memo [m63]
def m64:Abs.Mem:=
  ⟨53,[k67],[(.ret (.agg [(.sc (.int Go.IntKind.i64 (7))),(.sc (.int Go.IntKind.i64 (3))),(.sc (.bool false))]))]⟩
noncomputable def F64:Abs.FTab:=F63.memo [m64]
def m65:Abs.Mem:=
  ⟨13,[k67,(.data 1 false [(.sc (.string ⟨#[97]⟩)),(.sc (.string ⟨#[98]⟩)),(.sc (.string ⟨#[99]⟩))]),(.sc (.slice none 0 0))],[(.ret (.sc (.int Go.IntKind.i64 (0))))]⟩
noncomputable def F65:Abs.FTab:=F64.memoT [m65]
def m66:Abs.Mem:=
  ⟨16,[(.sc (.string ⟨#[40,97,32,43,32,98,41,32,43,32,99,32,61,61,32,97,32,43,32,40,98,32,43,32,99,41]⟩)),(.sc (.int Go.IntKind.i64 (0)))],[(.ret (.data 3 false [(.agg [(.sc (.int Go.IntKind.u8 (46))),(.sc (.string ⟨#[40]⟩)),(.sc (.int Go.IntKind.i64 (0)))]),(.agg [(.sc (.int Go.IntKind.u8 (97))),(.sc (.string ⟨#[97]⟩)),(.sc (.int Go.IntKind.i64 (1)))]),(.agg [(.sc (.int Go.IntKind.u8 (46))),(.sc (.string ⟨#[43]⟩)),(.sc (.int Go.IntKind.i64 (3)))]),(.agg [(.sc (.int Go.IntKind.u8 (97))),(.sc (.string ⟨#[98]⟩)),(.sc (.int Go.IntKind.i64 (5)))]),(.agg [(.sc (.int Go.IntKind.u8 (46))),(.sc (.string ⟨#[41]⟩)),(.sc (.int Go.IntKind.i64 (6)))]),(.agg [(.sc (.int Go.IntKind.u8 (46))),(.sc (.string ⟨#[43]⟩)),(.sc (.int Go.IntKind.i64 (8)))]),(.agg [(.sc (.int Go.IntKind.u8 (97))),(.sc (.string ⟨#[99]⟩)),(.sc (.int Go.IntKind.i64 (10)))]),(.agg [(.sc (.int Go.IntKind.u8 (46))),(.sc (.string ⟨#[61,61]⟩)),(.sc (.int Go.IntKind.i64 (12)))]),(.agg [(.sc (.int Go.IntKind.u8 (97))),(.sc (.string ⟨#[97]⟩)),(.sc (.int Go.IntKind.i64 (15)))]),(.agg [(.sc (.int Go.IntKind.u8 (46))),(.sc (.string ⟨#[43]⟩)),(.sc (.int Go.IntKind.i64 (17)))]),(.agg [(.sc (.int Go.IntKind.u8 (46))),(.sc (.string ⟨#[40]⟩)),(.sc (.int Go.IntKind.i64 (19)))]),(.agg [(.sc (.int Go.IntKind.u8 (97))),(.sc (.string ⟨#[98]⟩)),(.sc (.int Go.IntKind.i64 (20)))]),(.agg [(.sc (.int Go.IntKind.u8 (46))),(.sc (.string ⟨#[43]⟩)),(.sc (.int Go.IntKind.i64 (22)))]),(.agg [(.sc (.int Go.IntKind.u8 (97))),(.sc (.string ⟨#[99]⟩)),(.sc (.int Go.IntKind.i64 (24)))]),(.agg [(.sc (.int Go.IntKind.u8 (46))),(.sc (.string ⟨#[41]⟩)),(.sc (.int Go.IntKind.i64 (25)))]),(.agg [(.sc (.int Go.IntKind.u8 (32))),(.sc (.string ⟨#[]⟩)),(.sc (.int Go.IntKind.i64 (26)))])]))]⟩
noncomputable def F66:Abs.FTab:=F65.memo [m66]
def k68:Abs.AVal:=.agg [(.sc (.int Go.IntKind.i64 (5))),(.sc (.string ⟨#[]⟩)),(.sc (.int Go.IntKind.i64 (0))),k50]
def k69:Abs.AVal:=.agg [(.sc (.int Go.IntKind.i64 (5))),(.sc (.string ⟨#[]⟩)),(.sc (.int Go.IntKind.i64 (0))),k44]
def k70:Abs.AVal:=.data 4 false [k39,k69]
def k71:Abs.AVal:=.agg [(.sc (.int Go.IntKind.i64 (5))),(.sc (.string ⟨#[]⟩)),(.sc (.int Go.IntKind.i64 (0))),k70]
def k72:Abs.AVal:=.data 4 false [k68,k71]
def k73:Abs.AVal:=.agg [(.sc (.int Go.IntKind.i64 (12))),(.sc (.string ⟨#[]⟩)),(.sc (.int Go.IntKind.i64 (0))),k72]
def m67:Abs.Mem:=
  ⟨48,[k73],[(.ret (.tuple [(.sc (.int Go.IntKind.i64 (11))),(.sc (.int Go.IntKind.i64 (4))),(.sc (.bool true))]))]⟩
noncomputable def F67:Abs.FTab:=F66.memo [m67]
def m68:Abs.Mem:=
  ⟨10,[(.sc (.string ⟨#[40,97,32,43,32,98,41,32,43,32,99,32,61,61,32,97,32,43,32,40,98,32,43,32,99,41]⟩))],[(.ret (.tuple [k73,(.sc (.int Go.IntKind.i64 (0))),(.sc (.int Go.IntKind.i64 (0)))]))]⟩
noncomputable def F68:Abs.FTab:=F67.memo [m68]
def m69:Abs.Mem:=
  ⟨88,[k70,(.func (.func 68) [] [])],[(.ret (.sc (.int Go.IntKind.i64 (-1))))]⟩
noncomputable def F69:Abs.FTab:=F68.memo [m69]
def m70:Abs.Mem:=
  ⟨53,[k73],[(.ret (.agg [(.sc (.int Go.IntKind.i64 (11))),(.sc (.int Go.IntKind.i64 (4))),(.sc (.bool false))]))]⟩
noncomputable def F70:Abs.FTab:=F69.memo [m70]
def m71:Abs.Mem:=
  ⟨37,[k73],[(.ret (.sc (.int Go.IntKind.i64 (0))))]⟩
noncomputable def F71:Abs.FTab:=F70.memo [m71]
def m72:Abs.Mem:=
  ⟨13,[k73,(.data 1 false [(.sc (.string ⟨#[97]⟩)),(.sc (.string ⟨#[98]⟩)),(.sc (.string ⟨#[99]⟩))]),(.sc (.slice none 0 0))],[(.ret (.sc (.int Go.IntKind.i64 (0))))]⟩
noncomputable def F72:Abs.FTab:=F71.memoT [m72]
def m73:Abs.Mem:=
  ⟨16,[(.sc (.string ⟨#[98,32,61,61,32,48,32,124,124,32,97,32,47,32,98,32,42,32,98,32,43,32,97,32,37,32,98,32,61,61,32,97]⟩)),(.sc (.int Go.IntKind.i64 (0)))],[(.ret (.data 3 false [(.agg [(.sc (.int Go.IntKind.u8 (97))),(.sc (.string ⟨#[98]⟩)),(.sc (.int Go.IntKind.i64 (0)))]),(.agg [(.sc (.int Go.IntKind.u8 (46))),(.sc (.string ⟨#[61,61]⟩)),(.sc (.int Go.IntKind.i64 (2)))]),(.agg [(.sc (.int Go.IntKind.u8 (48))),(.sc (.string ⟨#[48]⟩)),(.sc (.int Go.IntKind.i64 (5)))]),(.agg [(.sc (.int Go.IntKind.u8 (46))),(.sc (.string ⟨#[124,124]⟩)),(.sc (.int Go.IntKind.i64 (7)))]),(.agg [(.sc (.int Go.IntKind.u8 (97))),(.sc (.string ⟨#[97]⟩)),(.sc (.int Go.IntKind.i64 (10)))]),(.agg [(.sc (.int Go.IntKind.u8 (46))),(.sc (.string ⟨#[47]⟩)),(.sc (.int Go.IntKind.i64 (12)))]),(.agg [(.sc (.int Go.IntKind.u8 (97))),(.sc (.string ⟨#[98]⟩)),(.sc (.int Go.IntKind.i64 (14)))]),(.agg [(.sc (.int Go.IntKind.u8 (46))),(.sc (.string ⟨#[42]⟩)),(.sc (.int Go.IntKind.i64 (16)))]),(.agg [(.sc (.int Go.IntKind.u8 (97))),(.sc (.string ⟨#[98]⟩)),(.sc (.int Go.IntKind.i64 (18)))]),(.agg [(.sc (.int Go.IntKind.u8 (46))),(.sc (.string ⟨#[43]⟩)),(.sc (.int Go.IntKind.i64 (20)))]),(.agg [(.sc (.int Go.IntKind.u8 (97))),(.sc (.string ⟨#[97]⟩)),(.sc (.int Go.IntKind.i64 (22)))]),(.agg [(.sc (.int Go.IntKind.u8 (46))),(.sc (.string ⟨#[37]⟩)),(.sc (.int Go.IntKind.i64 (24)))]),(.agg [(.sc (.int Go.IntKind.u8 (97))),(.sc (.string ⟨#[98]⟩)),(.sc (.int Go.IntKind.i64 (26)))]),(.agg [(.sc (.int Go.IntKind.u8 (46))),(.sc (.string ⟨#[61,61]⟩)),(.sc (.int Go.IntKind.i64 (28)))]),(.agg [(.sc (.int Go.IntKind.u8 (97))),(.sc (.string ⟨#[97]⟩)),(.sc (.int Go.IntKind.i64 (31)))]),(.agg [(.sc (.int Go.IntKind.u8 (32))),(.sc (.string ⟨#[]⟩)),(.sc (.int Go.IntKind.i64 (32)))])]))]⟩
noncomputable def F73:Abs.FTab:=F72.memo [m73]
def k74:Abs.AVal:=.agg [(.sc (.int Go.IntKind.i64 (8))),(.sc (.string ⟨#[]⟩)),(.sc (.int Go.IntKind.i64 (0))),k48]
def k75:Abs.AVal:=.data 4 false [k74,k43]
def k76:Abs.AVal:=.agg [(.sc (.int Go.IntKind.i64 (7))),(.sc (.string ⟨#[]⟩)),(.sc (.int Go.IntKind.i64 (0))),k75]
def k77:Abs.AVal:=.agg [(.sc (.int Go.IntKind.i64 (9))),(.sc (.string ⟨#[]⟩)),(.sc (.int Go.IntKind.i64 (0))),k48]
def k78:Abs.AVal:=.data 4 false [k76,k77]
def k79:Abs.AVal:=.agg [(.sc (.int Go.IntKind.i64 (5))),(.sc (.string ⟨#[]⟩)),(.sc (.int Go.IntKind.i64 (0))),k78]
def m74:Abs.Mem:=
  ⟨48,[k79],[(.ret (.tuple [(.sc (.int Go.IntKind.i64 (9))),(.sc (.int Go.IntKind.i64 (4))),(.sc (.bool true))]))]⟩
noncomputable def F74:Abs.FTab:=F73.memo [m74]
def k80:Abs.AVal:=.data 4 false [k43,k4]
def k81:Abs.AVal:=.agg [(.sc (.int Go.IntKind.i64 (12))),(.sc (.string ⟨#[]⟩)),(.sc (.int Go.IntKind.i64 (0))),k80]
def k82:Abs.AVal:=.data 4 false [k79,k39]
def k83:Abs.AVal:=.agg [(.sc (.int Go.IntKind.i64 (12))),(.sc (.string ⟨#[]⟩)),(.sc (.int Go.IntKind.i64 (0))),k82]
def k84:Abs.AVal:=.data 4 false [k81,k83]
def k85:Abs.AVal:=.agg [(.sc (.int Go.IntKind.i64 (17))),(.sc (.string ⟨#[]⟩)),(.sc (.int Go.IntKind.i64 (0))),k84]
def m75:Abs.Mem:=
  ⟨48,[k85],[(.ret (.tuple [(.sc (.int Go.IntKind.i64 (15))),(.sc (.int Go.IntKind.i64 (6))),(.sc (.bool true))]))]⟩
noncomputable def F75:Abs.FTab:=F74.memo [m75]
def m76:Abs.Mem:=
  ⟨10,[(.sc (.string ⟨#[98,32,61,61,32,48,32,124,124,32,97,32,47,32,98,32,42,32,98,32,43,32,97,32,37,32,98,32,61,61,32,97]⟩))],[(.ret (.tuple [k85,(.sc (.int Go.IntKind.i64 (0))),(.sc (.int Go.IntKind.i64 (0)))]))]⟩
noncomputable def F76:Abs.FTab:=F75.memo [m76]
def m77:Abs.Mem:=
  ⟨88,[k75,(.func (.func 68) [] [])],[(.ret (.sc (.int Go.IntKind.i64 (-1))))]⟩
noncomputable def F77:Abs.FTab:=F76.memo [m77]
def m78:Abs.Mem:=
  ⟨88,[k78,(.func (.func 68) [] [])],[(.ret (.sc (.int Go.IntKind.i64 (-1))))]⟩
noncomputable def F78:Abs.FTab:=F77.memo [m78]
def m79:Abs.Mem:=
  ⟨88,[k84,(.func (.func 68) [] [])],[(.ret (.sc (.int Go.IntKind.i64 (-1))))]⟩
noncomputable def F79:Abs.FTab:=F78.memo [m79]
def m80:Abs.Mem:=
  ⟨53,[k79],[(.ret (.agg [(.sc (.int Go.IntKind.i64 (9))),(.sc (.int Go.IntKind.i64 (4))),(.sc (.bool false))]))]⟩
noncomputable def F80:Abs.FTab:=F79.memo [m80]
def m81:Abs.Mem:=
  ⟨53,[k85],[(.ret (.agg [(.sc (.int Go.IntKind.i64 (15))),(.sc (.int Go.IntKind.i64 (6))),(.sc (.bool false))]))]⟩
noncomputable def F81:Abs.FTab:=F80.memo [m81]
def m82:Abs.Mem:=
  ⟨13,[k85,(.data 1 false [(.sc (.string ⟨#[97]⟩)),(.sc (.string ⟨#[98]⟩)),(.sc (.string ⟨#[99]⟩))]),(.sc (.slice none 0 0))],[(.ret (.sc (.int Go.IntKind.i64 (0))))]⟩
noncomputable def F82:Abs.FTab:=F81.memoT [m82]
def m83:Abs.Mem:=
  ⟨16,[(.sc (.string ⟨#[98,32,61,61,32,48,32,124,124,32,40,97,32,37,32,98,41,32,42,32,97,32,62,61,32,48]⟩)),(.sc (.int Go.IntKind.i64 (0)))],[(.ret (.data 3 false [(.agg [(.sc (.int Go.IntKind.u8 (97))),(.sc (.string ⟨#[98]⟩)),(.sc (.int Go.IntKind.i64 (0)))]),(.agg [(.sc (.int Go.IntKind.u8 (46))),(.sc (.string ⟨#[61,61]⟩)),(.sc (.int Go.IntKind.i64 (2)))]),(.agg [(.sc (.int Go.IntKind.u8 (48))),(.sc (.string ⟨#[48]⟩)),(.sc (.int Go.IntKind.i64 (5)))]),(.agg [(.sc (.int Go.IntKind.u8 (46))),(.sc (.string ⟨#[124,124]⟩)),(.sc (.int Go.IntKind.i64 (7)))]),(.agg [(.sc (.int Go.IntKind.u8 (46))),(.sc (.string ⟨#[40]⟩)),(.sc (.int Go.IntKind.i64 (10)))]),(.agg [(.sc (.int Go.IntKind.u8 (97))),(.sc (.string ⟨#[97]⟩)),(.sc (.int Go.IntKind.i64 (11)))]),(.agg [(.sc (.int Go.IntKind.u8 (46))),(.sc (.string ⟨#[37]⟩)),(.sc (.int Go.IntKind.i64 (13)))]),(.agg [(.sc (.int Go.IntKind.u8 (97))),(.sc (.string ⟨#[98]⟩)),(.sc (.int Go.IntKind.i64 (15)))]),(.agg [(.sc (.int Go.IntKind.u8 (46))),(.sc (.string ⟨#[41]⟩)),(.sc (.int Go.IntKind.i64 (16)))]),(.agg [(.sc (.int Go.IntKind.u8 (46))),(.sc (.string ⟨#[42]⟩)),(.sc (.int Go.IntKind.i64 (18)))]),(.agg [(.sc (.int Go.IntKind.u8 (97))),(.sc (.string ⟨#[97]⟩)),(.sc (.int Go.IntKind.i64 (20)))]),(.agg [(.sc (.int Go.IntKind.u8 (46))),(.sc (.string ⟨#[62,61]⟩)),(.sc (.int Go.IntKind.i64 (22)))]),(.agg [(.sc (.int Go.IntKind.u8 (48))),(.sc (.string ⟨#[48]⟩)),(.sc (.int Go.IntKind.i64 (25)))]),(.agg [(.sc (.int Go.IntKind.u8 (32))),(.sc (.string ⟨#[]⟩)),(.sc (.int Go.IntKind.i64 (26)))])]))]⟩
noncomputable def F83:Abs.FTab:=F82.memo [m83]
def k86:Abs.AVal:=.data 4 false [k77,k39]
def k87:Abs.AVal:=.agg [(.sc (.int Go.IntKind.i64 (7))),(.sc (.string ⟨#[]⟩)),(.sc (.int Go.IntKind.i64 (0))),k86]
def k88:Abs.AVal:=.data 4 false [k87,k4]
def k89:Abs.AVal:=.agg [(.sc (.int Go.IntKind.i64 (14))),(.sc (.string ⟨#[]⟩)),(.sc (.int Go.IntKind.i64 (0))),k88]
def m84:Abs.Mem:=
  ⟨48,[k89],[(.ret (.tuple [(.sc (.int Go.IntKind.i64 (7))),(.sc (.int Go.IntKind.i64 (4))),(.sc (.bool true))]))]⟩
noncomputable def F84:Abs.FTab:=F83.memo [m84]
def k90:Abs.AVal:=.data 4 false [k81,k89]
def k91:Abs.AVal:=.agg [(.sc (.int Go.IntKind.i64 (17))),(.sc (.string ⟨#[]⟩)),(.sc (.int Go.IntKind.i64 (0))),k90]
def m85:Abs.Mem:=
  ⟨10,[(.sc (.string ⟨#[98,32,61,61,32,48,32,124,124,32,40,97,32,37,32,98,41,32,42,32,97,32,62,61,32,48]⟩))],[(.ret (.tuple [k91,(.sc (.int Go.IntKind.i64 (0))),(.sc (.int Go.IntKind.i64 (0)))]))]⟩
noncomputable def F85:Abs.FTab:=F84.memo [m85]
def m86:Abs.Mem:=
  ⟨88,[k86,(.func (.func 68) [] [])],[(.ret (.sc (.int Go.IntKind.i64 (-1))))]⟩
noncomputable def F86:Abs.FTab:=F85.memo [m86]
def m87:Abs.Mem:=
  ⟨88,[k90,(.func (.func 68) [] [])],[(.ret (.sc (.int Go.IntKind.i64 (-1))))]⟩
noncomputable def F87:Abs.FTab:=F86.memo [m87]
def m88:Abs.Mem:=
  ⟨53,[k89],[(.ret (.agg [(.sc (.int Go.IntKind.i64 (7))),(.sc (.int Go.IntKind.i64 (4))),(.sc (.bool false))]))]⟩
noncomputable def F88:Abs.FTab:=F87.memo [m88]
def m89:Abs.Mem:=
  ⟨37,[k91],[(.ret (.sc (.int Go.IntKind.i64 (0))))]⟩
noncomputable def F89:Abs.FTab:=F88.memo [m89]
def m90:Abs.Mem:=
  ⟨13,[k91,(.data 1 false [(.sc (.string ⟨#[97]⟩)),(.sc (.string ⟨#[98]⟩)),(.sc (.string ⟨#[99]⟩))]),(.sc (.slice none 0 0))],[(.ret (.sc (.int Go.IntKind.i64 (0))))]⟩
noncomputable def F90:Abs.FTab:=F89.memoT [m90]
def m91:Abs.Mem:=
  ⟨16,[(.sc (.string ⟨#[40,97,32,60,32,98,41,32,61,61,32,33,40,97,32,62,61,32,98,41]⟩)),(.sc (.int Go.IntKind.i64 (0)))],[(.ret (.data 3 false [(.agg [(.sc (.int Go.IntKind.u8 (46))),(.sc (.string ⟨#[40]⟩)),(.sc (.int Go.IntKind.i64 (0)))]),(.agg [(.sc (.int Go.IntKind.u8 (97))),(.sc (.string ⟨#[97]⟩)),(.sc (.int Go.IntKind.i64 (1)))]),(.agg [(.sc (.int Go.IntKind.u8 (46))),(.sc (.string ⟨#[60]⟩)),(.sc (.int Go.IntKind.i64 (3)))]),(.agg [(.sc (.int Go.IntKind.u8 (97))),(.sc (.string ⟨#[98]⟩)),(.sc (.int Go.IntKind.i64 (5)))]),(.agg [(.sc (.int Go.IntKind.u8 (46))),(.sc (.string ⟨#[41]⟩)),(.sc (.int Go.IntKind.i64 (6)))]),(.agg [(.sc (.int Go.IntKind.u8 (46))),(.sc (.string ⟨#[61,61]⟩)),(.sc (.int Go.IntKind.i64 (8)))]),(.agg [(.sc (.int Go.IntKind.u8 (46))),(.sc (.string ⟨#[33]⟩)),(.sc (.int Go.IntKind.i64 (11)))]),(.agg [(.sc (.int Go.IntKind.u8 (46))),(.sc (.string ⟨#[40]⟩)),(.sc (.int Go.IntKind.i64 (12)))]),(.agg [(.sc (.int Go.IntKind.u8 (97))),(.sc (.string ⟨#[97]⟩)),(.sc (.int Go.IntKind.i64 (13)))]),(.agg [(.sc (.int Go.IntKind.u8 (46))),(.sc (.string ⟨#[62,61]⟩)),(.sc (.int Go.IntKind.i64 (15)))]),(.agg [(.sc (.int Go.IntKind.u8 (97))),(.sc (.string ⟨#[98]⟩)),(.sc (.int Go.IntKind.i64 (18)))]),(.agg [(.sc (.int Go.IntKind.u8 (46))),(.sc (.string ⟨#[41]⟩)),(.sc (.int Go.IntKind.i64 (19)))]),(.agg [(.sc (.int Go.IntKind.u8 (32))),(.sc (.string ⟨#[]⟩)),(.sc (.int Go.IntKind.i64 (20)))])]))]⟩
noncomputable def F91:Abs.FTab:=F90.memo [m91]
def k92:Abs.AVal:=.agg [(.sc (.int Go.IntKind.i64 (10))),(.sc (.string ⟨#[]⟩)),(.sc (.int Go.IntKind.i64 (0))),k48]
def k93:Abs.AVal:=.agg [(.sc (.int Go.IntKind.i64 (14))),(.sc (.string ⟨#[]⟩)),(.sc (.int Go.IntKind.i64 (0))),k48]
def k94:Abs.AVal:=.data 4 false [k93]
def k95:Abs.AVal:=.agg [(.sc (.int Go.IntKind.i64 (4))),(.sc (.string ⟨#[]⟩)),(.sc (.int Go.IntKind.i64 (0))),k94]
def k96:Abs.AVal:=.data 4 false [k92,k95]
def k97:Abs.AVal:=.agg [(.sc (.int Go.IntKind.i64 (12))),(.sc (.string ⟨#[]⟩)),(.sc (.int Go.IntKind.i64 (0))),k96]
def m92:Abs.Mem:=
  ⟨10,[(.sc (.string ⟨#[40,97,32,60,32,98,41,32,61,61,32,33,40,97,32,62,61,32,98,41]⟩))],[(.ret (.tuple [k97,(.sc (.int Go.IntKind.i64 (0))),(.sc (.int Go.IntKind.i64 (0)))]))]⟩
noncomputable def F92:Abs.FTab:=F91.memo [m92]
def m93:Abs.Mem:=
  ⟨52,[k95],[(.ret (.sc (.bool true)))]⟩
noncomputable def F93:Abs.FTab:=F92.memo [m93]
def m94:Abs.Mem:=
  ⟨88,[k96,(.func (.func 68) [] [])],[(.ret (.sc (.int Go.IntKind.i64 (-1))))]⟩
noncomputable def F94:Abs.FTab:=F93.memo [m94]
def m95:Abs.Mem:=
  ⟨53,[k97],[(.ret (.agg [(.sc (.int Go.IntKind.i64 (8))),(.sc (.int Go.IntKind.i64 (4))),(.sc (.bool false))]))]⟩
noncomputable def F95:Abs.FTab:=F94.memo [m95]
def m96:Abs.Mem:=
  ⟨13,[k97,(.data 1 false [(.sc (.string ⟨#[97]⟩)),(.sc (.string ⟨#[98]⟩)),(.sc (.string ⟨#[99]⟩))]),(.sc (.slice none 0 0))],[(.ret (.sc (.int Go.IntKind.i64 (0))))]⟩
noncomputable def F96:Abs.FTab:=F95.memoT [m96]
def m97:Abs.Mem:=
  ⟨16,[(.sc (.string ⟨#[40,97,32,60,61,32,98,41,32,61,61,32,33,40,97,32,62,32,98,41]⟩)),(.sc (.int Go.IntKind.i64 (0)))],[(.ret (.data 3 false [(.agg [(.sc (.int Go.IntKind.u8 (46))),(.sc (.string ⟨#[40]⟩)),(.sc (.int Go.IntKind.i64 (0)))]),(.agg [(.sc (.int Go.IntKind.u8 (97))),(.sc (.string ⟨#[97]⟩)),(.sc (.int Go.IntKind.i64 (1)))]),(.agg [(.sc (.int Go.IntKind.u8 (46))),(.sc (.string ⟨#[60,61]⟩)),(.sc (.int Go.IntKind.i64 (3)))]),(.agg [(.sc (.int Go.IntKind.u8 (97))),(.sc (.string ⟨#[98]⟩)),(.sc (.int Go.IntKind.i64 (6)))]),(.agg [(.sc (.int Go.IntKind.u8 (46))),(.sc (.string ⟨#[41]⟩)),(.sc (.int Go.IntKind.i64 (7)))]),(.agg [(.sc (.int Go.IntKind.u8 (46))),(.sc (.string ⟨#[61,61]⟩)),(.sc (.int Go.IntKind.i64 (9)))]),(.agg [(.sc (.int Go.IntKind.u8 (46))),(.sc (.string ⟨#[33]⟩)),(.sc (.int Go.IntKind.i64 (12)))]),(.agg [(.sc (.int Go.IntKind.u8 (46))),(.sc (.string ⟨#[40]⟩)),(.sc (.int Go.IntKind.i64 (13)))]),(.agg [(.sc (.int Go.IntKind.u8 (97))),(.sc (.string ⟨#[97]⟩)),(.sc (.int Go.IntKind.i64 (14)))]),(.agg [(.sc (.int Go.IntKind.u8 (46))),(.sc (.string ⟨#[62]⟩)),(.sc (.int Go.IntKind.i64 (16)))]),(.agg [(.sc (.int Go.IntKind.u8 (97))),(.sc (.string ⟨#[98]⟩)),(.sc (.int Go.IntKind.i64 (18)))]),(.agg [(.sc (.int Go.IntKind.u8 (46))),(.sc (.string ⟨#[41]⟩)),(.sc (.int Go.IntKind.i64 (19)))]),(.agg [(.sc (.int Go.IntKind.u8 (32))),(.sc (.string ⟨#[]⟩)),(.sc (.int Go.IntKind.i64 (20)))])]))]⟩
noncomputable def F97:Abs.FTab:=F96.memo [m97]
def k98:Abs.AVal:=.agg [(.sc (.int Go.IntKind.i64 (11))),(.sc (.string ⟨#[]⟩)),(.sc (.int Go.IntKind.i64 (0))),k48]
def k99:Abs.AVal:=.agg [(.sc (.int Go.IntKind.i64 (15))),(.sc (.string ⟨#[]⟩)),(.sc (.int Go.IntKind.i64 (0))),k48]
def k100:Abs.AVal:=.data 4 false [k99]
def k101:Abs.AVal:=.agg [(.sc (.int Go.IntKind.i64 (4))),(.sc (.string ⟨#[]⟩)),(.sc (.int Go.IntKind.i64 (0))),k100]
def k102:Abs.AVal:=.data 4 false [k98,k101]
def k103:Abs.AVal:=.agg [(.sc (.int Go.IntKind.i64 (12))),(.sc (.string ⟨#[]⟩)),(.sc (.int Go.IntKind.i64 (0))),k102]
def m98:Abs.Mem:=
  ⟨10,[(.sc (.string ⟨#[40,97,32,60,61,32,98,41,32,61,61,32,33,40,97,32,62,32,98,41]⟩))],[(.ret (.tuple [k103,(.sc (.int Go.IntKind.i64 (0))),(.sc (.int Go.IntKind.i64 (0)))]))]⟩
noncomputable def F98:Abs.FTab:=F97.memo [m98]
def m99:Abs.Mem:=
  ⟨52,[k101],[(.ret (.sc (.bool true)))]⟩
noncomputable def F99:Abs.FTab:=F98.memo [m99]
def m100:Abs.Mem:=
  ⟨88,[k102,(.func (.func 68) [] [])],[(.ret (.sc (.int Go.IntKind.i64 (-1))))]⟩
noncomputable def F100:Abs.FTab:=F99.memo [m100]
def m101:Abs.Mem:=
  ⟨53,[k103],[(.ret (.agg [(.sc (.int Go.IntKind.i64 (8))),(.sc (.int Go.IntKind.i64 (4))),(.sc (.bool false))]))]⟩
noncomputable def F101:Abs.FTab:=F100.memo [m101]
def m102:Abs.Mem:=
  ⟨13,[k103,(.data 1 false [(.sc (.string ⟨#[97]⟩)),(.sc (.string ⟨#[98]⟩)),(.sc (.string ⟨#[99]⟩))]),(.sc (.slice none 0 0))],[(.ret (.sc (.int Go.IntKind.i64 (0))))]⟩
noncomputable def F102:Abs.FTab:=F101.memoT [m102]
def m103:Abs.Mem:=
  ⟨16,[(.sc (.string ⟨#[40,97,32,61,61,32,98,41,32,61,61,32,33,40,97,32,33,61,32,98,41]⟩)),(.sc (.int Go.IntKind.i64 (0)))],[(.ret (.data 3 false [(.agg [(.sc (.int Go.IntKind.u8 (46))),(.sc (.string ⟨#[40]⟩)),(.sc (.int Go.IntKind.i64 (0)))]),(.agg [(.sc (.int Go.IntKind.u8 (97))),(.sc (.string ⟨#[97]⟩)),(.sc (.int Go.IntKind.i64 (1)))]),(.agg [(.sc (.int Go.IntKind.u8 (46))),(.sc (.string ⟨#[61,61]⟩)),(.sc (.int Go.IntKind.i64 (3)))]),(.agg [(.sc (.int Go.IntKind.u8 (97))),(.sc (.string ⟨#[98]⟩)),(.sc (.int Go.IntKind.i64 (6)))]),(.agg [(.sc (.int Go.IntKind.u8 (46))),(.sc (.string ⟨#[41]⟩)),(.sc (.int Go.IntKind.i64 (7)))]),(.agg [(.sc (.int Go.IntKind.u8 (46))),(.sc (.string ⟨#[61,61]⟩)),(.sc (.int Go.IntKind.i64 (9)))]),(.agg [(.sc (.int Go.IntKind.u8 (46))),(.sc (.string ⟨#[33]⟩)),(.sc (.int Go.IntKind.i64 (12)))]),(.agg [(.sc (.int Go.IntKind.u8 (46))),(.sc (.string ⟨#[40]⟩)),(.sc (.int Go.IntKind.i64 (13)))]),(.agg [(.sc (.int Go.IntKind.u8 (97))),(.sc (.string ⟨#[97]⟩)),(.sc (.int Go.IntKind.i64 (14)))]),(.agg [(.sc (.int Go.IntKind.u8 (46))),(.sc (.string ⟨#[33,61]⟩)),(.sc (.int Go.IntKind.i64 (16)))]),(.agg [(.sc (.int Go.IntKind.u8 (97))),(.sc (.string ⟨#[98]⟩)),(.sc (.int Go.IntKind.i64 (19)))]),(.agg [(.sc (.int Go.IntKind.u8 (46))),(.sc (.string ⟨#[41]⟩)),(.sc (.int Go.IntKind.i64 (20)))]),(.agg [(.sc (.int Go.IntKind.u8 (32))),(.sc (.string ⟨#[]⟩)),(.sc (.int Go.IntKind.i64 (21)))])]))]⟩
noncomputable def F103:Abs.FTab:=F102.memo [m103]
def k104:Abs.AVal:=.agg [(.sc (.int Go.IntKind.i64 (12))),(.sc (.string ⟨#[]⟩)),(.sc (.int Go.IntKind.i64 (0))),k48]
def k105:Abs.AVal:=.agg [(.sc (.int Go.IntKind.i64 (13))),(.sc (.string ⟨#[]⟩)),(.sc (.int Go.IntKind.i64 (0))),k48]
def k106:Abs.AVal:=.data 4 false [k105]
def k107:Abs.AVal:=.agg [(.sc (.int Go.IntKind.i64 (4))),(.sc (.string ⟨#[]⟩)),(.sc (.int Go.IntKind.i64 (0))),k106]
def k108:Abs.AVal:=.data 4 false [k104,k107]
def k109:Abs.AVal:=.agg [(.sc (.int Go.IntKind.i64 (12))),(.sc (.string ⟨#[]⟩)),(.sc (.int Go.IntKind.i64 (0))),k108]
def m104:Abs.Mem:=
  ⟨10,[(.sc (.string ⟨#[40,97,32,61,61,32,98,41,32,61,61,32,33,40,97,32,33,61,32,98,41]⟩))],[(.ret (.tuple [k109,(.sc (.int Go.IntKind.i64 (0))),(.sc (.int Go.IntKind.i64 (0)))]))]⟩
noncomputable def F104:Abs.FTab:=F103.memo [m104]
def m105:Abs.Mem:=
  ⟨52,[k107],[(.ret (.sc (.bool true)))]⟩
noncomputable def F105:Abs.FTab:=F104.memo [m105]
def m106:Abs.Mem:=
  ⟨88,[k108,(.func (.func 68) [] [])],[(.ret (.sc (.int Go.IntKind.i64 (-1))))]⟩
noncomputable def F106:Abs.FTab:=F105.memo [m106]
def m107:Abs.Mem:=
  ⟨53,[k109],[(.ret (.agg [(.sc (.int Go.IntKind.i64 (8))),(.sc (.int Go.IntKind.i64 (4))),(.sc (.bool false))]))]⟩
noncomputable def F107:Abs.FTab:=F106.memo [m107]
def m108:Abs.Mem:=
  ⟨13,[k109,(.data 1 false [(.sc (.string ⟨#[97]⟩)),(.sc (.string ⟨#[98]⟩)),(.sc (.string ⟨#[99]⟩))]),(.sc (.slice none 0 0))],[(.ret (.sc (.int Go.IntKind.i64 (0))))]⟩
noncomputable def F108:Abs.FTab:=F107.memoT [m108]
def m109:Abs.Mem:=
  ⟨16,[(.sc (.string ⟨#[40,97,32,38,38,32,98,41,32,61,61,32,33,40,33,97,32,124,124,32,33,98,41]⟩)),(.sc (.int Go.IntKind.i64 (0)))],[(.ret (.data 3 false [(.agg [(.sc (.int Go.IntKind.u8 (46))),(.sc (.string ⟨#[40]⟩)),(.sc (.int Go.IntKind.i64 (0)))]),(.agg [(.sc (.int Go.IntKind.u8 (97))),(.sc (.string ⟨#[97]⟩)),(.sc (.int Go.IntKind.i64 (1)))]),(.agg [(.sc (.int Go.IntKind.u8 (46))),(.sc (.string ⟨#[38,38]⟩)),(.sc (.int Go.IntKind.i64 (3)))]),(.agg [(.sc (.int Go.IntKind.u8 (97))),(.sc (.string ⟨#[98]⟩)),(.sc (.int Go.IntKind.i64 (6)))]),(.agg [(.sc (.int Go.IntKind.u8 (46))),(.sc (.string ⟨#[41]⟩)),(.sc (.int Go.IntKind.i64 (7)))]),(.agg [(.sc (.int Go.IntKind.u8 (46))),(.sc (.string ⟨#[61,61]⟩)),(.sc (.int Go.IntKind.i64 (9)))]),(.agg [(.sc (.int Go.IntKind.u8 (46))),(.sc (.string ⟨#[33]⟩)),(.sc (.int Go.IntKind.i64 (12)))]),(.agg [(.sc (.int Go.IntKind.u8 (46))),(.sc (.string ⟨#[40]⟩)),(.sc (.int Go.IntKind.i64 (13)))]),(.agg [(.sc (.int Go.IntKind.u8 (46))),(.sc (.string ⟨#[33]⟩)),(.sc (.int Go.IntKind.i64 (14)))]),(.agg [(.sc (.int Go.IntKind.u8 (97))),(.sc (.string ⟨#[97]⟩)),(.sc (.int Go.IntKind.i64 (15)))]),(.agg [(.sc (.int Go.IntKind.u8 (46))),(.sc (.string ⟨#[124,124]⟩)),(.sc (.int Go.IntKind.i64 (17)))]),(.agg [(.sc (.int Go.IntKind.u8 (46))),(.sc (.string ⟨#[33]⟩)),(.sc (.int Go.IntKind.i64 (20)))]),(.agg [(.sc (.int Go.IntKind.u8 (97))),(.sc (.string ⟨#[98]⟩)),(.sc (.int Go.IntKind.i64 (21)))]),(.agg [(.sc (.int Go.IntKind.u8 (46))),(.sc (.string ⟨#[41]⟩)),(.sc (.int Go.IntKind.i64 (22)))]),(.agg [(.sc (.int Go.IntKind.u8 (32))),(.sc (.string ⟨#[]⟩)),(.sc (.int Go.IntKind.i64 (23)))])]))]⟩
noncomputable def F109:Abs.FTab:=F108.memo [m109]
def k110:Abs.AVal:=.agg [(.sc (.int Go.IntKind.i64 (16))),(.sc (.string ⟨#[]⟩)),(.sc (.int Go.IntKind.i64 (0))),k48]
def k111:Abs.AVal:=.data 4 false [k39]
def k112:Abs.AVal:=.agg [(.sc (.int Go.IntKind.i64 (4))),(.sc (.string ⟨#[]⟩)),(.sc (.int Go.IntKind.i64 (0))),k111]
def k113:Abs.AVal:=.data 4 false [k43]
def k114:Abs.AVal:=.agg [(.sc (.int Go.IntKind.i64 (4))),(.sc (.string ⟨#[]⟩)),(.sc (.int Go.IntKind.i64 (0))),k113]
def k115:Abs.AVal:=.data 4 false [k112,k114]
def k116:Abs.AVal:=.agg [(.sc (.int Go.IntKind.i64 (17))),(.sc (.string ⟨#[]⟩)),(.sc (.int Go.IntKind.i64 (0))),k115]
def k117:Abs.AVal:=.data 4 false [k116]
def k118:Abs.AVal:=.agg [(.sc (.int Go.IntKind.i64 (4))),(.sc (.string ⟨#[]⟩)),(.sc (.int Go.IntKind.i64 (0))),k117]
def k119:Abs.AVal:=.data 4 false [k110,k118]
def k120:Abs.AVal:=.agg [(.sc (.int Go.IntKind.i64 (12))),(.sc (.string ⟨#[]⟩)),(.sc (.int Go.IntKind.i64 (0))),k119]
def m110:Abs.Mem:=
  ⟨10,[(.sc (.string ⟨#[40,97,32,38,38,32,98,41,32,61,61,32,33,40,33,97,32,124,124,32,33,98,41]⟩))],[(.ret (.tuple [k120,(.sc (.int Go.IntKind.i64 (0))),(.sc (.int Go.IntKind.i64 (0)))]))]⟩
noncomputable def F110:Abs.FTab:=F109.memo [m110]
def m111:Abs.Mem:=
  ⟨52,[k110],[(.ret (.sc (.bool true)))]⟩
noncomputable def F111:Abs.FTab:=F110.memo [m111]
def m112:Abs.Mem:=
  ⟨88,[k115,(.func (.func 68) [] [])],[(.ret (.sc (.int Go.IntKind.i64 (-1))))]⟩
noncomputable def F112:Abs.FTab:=F111.memo [m112]
def m113:Abs.Mem:=
  ⟨52,[k120],[(.ret (.sc (.bool true)))]⟩
noncomputable def F113:Abs.FTab:=F112.memo [m113]
def m114:Abs.Mem:=
  ⟨53,[k118],[(.ret (.agg [(.sc (.int Go.IntKind.i64 (6))),(.sc (.int Go.IntKind.i64 (4))),(.sc (.bool false))]))]⟩
noncomputable def F114:Abs.FTab:=F113.memo [m114]
def m115:Abs.Mem:=
  ⟨13,[k120,(.data 1 false [(.sc (.string ⟨#[97]⟩)),(.sc (.string ⟨#[98]⟩)),(.sc (.string ⟨#[99]⟩))]),(.sc (.slice none 0 0))],[(.ret (.sc (.int Go.IntKind.i64 (0))))]⟩
noncomputable def F115:Abs.FTab:=F114.memoT [m115]
def m116:Abs.Mem:=
  ⟨16,[(.sc (.string ⟨#[40,97,32,63,32,98,32,58,32,99,41,32,61,61,32,40,33,97,32,63,32,99,32,58,32,98,41]⟩)),(.sc (.int Go.IntKind.i64 (0)))],[(.ret (.data 3 false [(.agg [(.sc (.int Go.IntKind.u8 (46))),(.sc (.string ⟨#[40]⟩)),(.sc (.int Go.IntKind.i64 (0)))]),(.agg [(.sc (.int Go.IntKind.u8 (97))),(.sc (.string ⟨#[97]⟩)),(.sc (.int Go.IntKind.i64 (1)))]),(.agg [(.sc (.int Go.IntKind.u8 (46))),(.sc (.string ⟨#[63]⟩)),(.sc (.int Go.IntKind.i64 (3)))]),(.agg [(.sc (.int Go.IntKind.u8 (97))),(.sc (.string ⟨#[98]⟩)),(.sc (.int Go.IntKind.i64 (5)))]),(.agg [(.sc (.int Go.IntKind.u8 (46))),(.sc (.string ⟨#[58]⟩)),(.sc (.int Go.IntKind.i64 (7)))]),(.agg [(.sc (.int Go.IntKind.u8 (97))),(.sc (.string ⟨#[99]⟩)),(.sc (.int Go.IntKind.i64 (9)))]),(.agg [(.sc (.int Go.IntKind.u8 (46))),(.sc (.string ⟨#[41]⟩)),(.sc (.int Go.IntKind.i64 (10)))]),(.agg [(.sc (.int Go.IntKind.u8 (46))),(.sc (.string ⟨#[61,61]⟩)),(.sc (.int Go.IntKind.i64 (12)))]),(.agg [(.sc (.int Go.IntKind.u8 (46))),(.sc (.string ⟨#[40]⟩)),(.sc (.int Go.IntKind.i64 (15)))]),(.agg [(.sc (.int Go.IntKind.u8 (46))),(.sc (.string ⟨#[33]⟩)),(.sc (.int Go.IntKind.i64 (16)))]),(.agg [(.sc (.int Go.IntKind.u8 (97))),(.sc (.string ⟨#[97]⟩)),(.sc (.int Go.IntKind.i64 (17)))]),(.agg [(.sc (.int Go.IntKind.u8 (46))),(.sc (.string ⟨#[63]⟩)),(.sc (.int Go.IntKind.i64 (19)))]),(.agg [(.sc (.int Go.IntKind.u8 (97))),(.sc (.string ⟨#[99]⟩)),(.sc (.int Go.IntKind.i64 (21)))]),(.agg [(.sc (.int Go.IntKind.u8 (46))),(.sc (.string ⟨#[58]⟩)),(.sc (.int Go.IntKind.i64 (23)))]),(.agg [(.sc (.int Go.IntKind.u8 (97))),(.sc (.string ⟨#[98]⟩)),(.sc (.int Go.IntKind.i64 (25)))]),(.agg [(.sc (.int Go.IntKind.u8 (46))),(.sc (.string ⟨#[41]⟩)),(.sc (.int Go.IntKind.i64 (26)))]),(.agg [(.sc (.int Go.IntKind.u8 (32))),(.sc (.string ⟨#[]⟩)),(.sc (.int Go.IntKind.i64 (27)))])]))]⟩
noncomputable def F116:Abs.FTab:=F115.memo [m116]
def k121:Abs.AVal:=.data 4 true [k39,k43,k40]
def k122:Abs.AVal:=.agg [(.sc (.int Go.IntKind.i64 (18))),(.sc (.string ⟨#[]⟩)),(.sc (.int Go.IntKind.i64 (0))),k121]
def k123:Abs.AVal:=.data 4 true [k112,k40,k43]
def k124:Abs.AVal:=.agg [(.sc (.int Go.IntKind.i64 (18))),(.sc (.string ⟨#[]⟩)),(.sc (.int Go.IntKind.i64 (0))),k123]
def k125:Abs.AVal:=.data 4 false [k122,k124]
def k126:Abs.AVal:=.agg [(.sc (.int Go.IntKind.i64 (12))),(.sc (.string ⟨#[]⟩)),(.sc (.int Go.IntKind.i64 (0))),k125]
def m117:Abs.Mem:=
  ⟨10,[(.sc (.string ⟨#[40,97,32,63,32,98,32,58,32,99,41,32,61,61,32,40,33,97,32,63,32,99,32,58,32,98,41]⟩))],[(.ret (.tuple [k126,(.sc (.int Go.IntKind.i64 (0))),(.sc (.int Go.IntKind.i64 (0)))]))]⟩
noncomputable def F117:Abs.FTab:=F116.memo [m117]
def m118:Abs.Mem:=
  ⟨52,[k122],[(.ret (.sc (.bool true)))]⟩
noncomputable def F118:Abs.FTab:=F117.memo [m118]
def m119:Abs.Mem:=
  ⟨88,[k123,(.func (.func 68) [] [])],[(.ret (.sc (.int Go.IntKind.i64 (-1))))]⟩
noncomputable def F119:Abs.FTab:=F118.memo [m119]
def m120:Abs.Mem:=
  ⟨53,[k126],[(.ret (.agg [(.sc (.int Go.IntKind.i64 (10))),(.sc (.int Go.IntKind.i64 (4))),(.sc (.bool false))]))]⟩
noncomputable def F120:Abs.FTab:=F119.memo [m120]
def m121:Abs.Mem:=
  ⟨13,[k126,(.data 1 false [(.sc (.string ⟨#[97]⟩)),(.sc (.string ⟨#[98]⟩)),(.sc (.string ⟨#[99]⟩))]),(.sc (.slice none 0 0))],[(.ret (.sc (.int Go.IntKind.i64 (0))))]⟩
noncomputable def F121:Abs.FTab:=F120.memoT [m121]
def m122:Abs.Mem:=
  ⟨16,[(.sc (.string ⟨#[40,97,32,60,32,98,41,32,43,32,40,97,32,61,61,32,98,41,32,43,32,40,97,32,62,32,98,41,32,61,61,32,49]⟩)),(.sc (.int Go.IntKind.i64 (0)))],[(.ret (.data 3 false [(.agg [(.sc (.int Go.IntKind.u8 (46))),(.sc (.string ⟨#[40]⟩)),(.sc (.int Go.IntKind.i64 (0)))]),(.agg [(.sc (.int Go.IntKind.u8 (97))),(.sc (.string ⟨#[97]⟩)),(.sc (.int Go.IntKind.i64 (1)))]),(.agg [(.sc (.int Go.IntKind.u8 (46))),(.sc (.string ⟨#[60]⟩)),(.sc (.int Go.IntKind.i64 (3)))]),(.agg [(.sc (.int Go.IntKind.u8 (97))),(.sc (.string ⟨#[98]⟩)),(.sc (.int Go.IntKind.i64 (5)))]),(.agg [(.sc (.int Go.IntKind.u8 (46))),(.sc (.string ⟨#[41]⟩)),(.sc (.int Go.IntKind.i64 (6)))]),(.agg [(.sc (.int Go.IntKind.u8 (46))),(.sc (.string ⟨#[43]⟩)),(.sc (.int Go.IntKind.i64 (8)))]),(.agg [(.sc (.int Go.IntKind.u8 (46))),(.sc (.string ⟨#[40]⟩)),(.sc (.int Go.IntKind.i64 (10)))]),(.agg [(.sc (.int Go.IntKind.u8 (97))),(.sc (.string ⟨#[97]⟩)),(.sc (.int Go.IntKind.i64 (11)))]),(.agg [(.sc (.int Go.IntKind.u8 (46))),(.sc (.string ⟨#[61,61]⟩)),(.sc (.int Go.IntKind.i64 (13)))]),(.agg [(.sc (.int Go.IntKind.u8 (97))),(.sc (.string ⟨#[98]⟩)),(.sc (.int Go.IntKind.i64 (16)))]),(.agg [(.sc (.int Go.IntKind.u8 (46))),(.sc (.string ⟨#[41]⟩)),(.sc (.int Go.IntKind.i64 (17)))]),(.agg [(.sc (.int Go.IntKind.u8 (46))),(.sc (.string ⟨#[43]⟩)),(.sc (.int Go.IntKind.i64 (19)))]),(.agg [(.sc (.int Go.IntKind.u8 (46))),(.sc (.string ⟨#[40]⟩)),(.sc (.int Go.IntKind.i64 (21)))]),(.agg [(.sc (.int Go.IntKind.u8 (97))),(.sc (.string ⟨#[97]⟩)),(.sc (.int Go.IntKind.i64 (22)))]),(.agg [(.sc (.int Go.IntKind.u8 (46))),(.sc (.string ⟨#[62]⟩)),(.sc (.int Go.IntKind.i64 (24)))]),(.agg [(.sc (.int Go.IntKind.u8 (97))),(.sc (.string ⟨#[98]⟩)),(.sc (.int Go.IntKind.i64 (26)))]),(.agg [(.sc (.int Go.IntKind.u8 (46))),(.sc (.string ⟨#[41]⟩)),(.sc (.int Go.IntKind.i64 (27)))]),(.agg [(.sc (.int Go.IntKind.u8 (46))),(.sc (.string ⟨#[61,61]⟩)),(.sc (.int Go.IntKind.i64 (29)))]),(.agg [(.sc (.int Go.IntKind.u8 (48))),(.sc (.string ⟨#[49]⟩)),(.sc (.int Go.IntKind.i64 (32)))]),(.agg [(.sc (.int Go.IntKind.u8 (32))),(.sc (.string ⟨#[]⟩)),(.sc (.int Go.IntKind.i64 (33)))])]))]⟩
noncomputable def F122:Abs.FTab:=F121.memo [m122]
def k127:Abs.AVal:=.data 4 false [k92,k104]
def k128:Abs.AVal:=.agg [(.sc (.int Go.IntKind.i64 (5))),(.sc (.string ⟨#[]⟩)),(.sc (.int Go.IntKind.i64 (0))),k127]
def m123:Abs.Mem:=
  ⟨48,[k128],[(.ret (.tuple [(.sc (.int Go.IntKind.i64 (7))),(.sc (.int Go.IntKind.i64 (3))),(.sc (.bool true))]))]⟩
noncomputable def F123:Abs.FTab:=F122.memo [m123]
def k129:Abs.AVal:=.data 4 false [k128,k99]
def k130:Abs.AVal:=.agg [(.sc (.int Go.IntKind.i64 (5))),(.sc (.string ⟨#[]⟩)),(.sc (.int Go.IntKind.i64 (0))),k129]
def k131:Abs.AVal:=.data 4 false [k130,k9]
def k132:Abs.AVal:=.agg [(.sc (.int Go.IntKind.i64 (12))),(.sc (.string ⟨#[]⟩)),(.sc (.int Go.IntKind.i64 (0))),k131]
def m124:Abs.Mem:=
  ⟨48,[k132],[(.ret (.tuple [(.sc (.int Go.IntKind.i64 (13))),(.sc (.int Go.IntKind.i64 (5))),(.sc (.bool true))]))]⟩
noncomputable def F124:Abs.FTab:=F123.memo [m124]
def m125:Abs.Mem:=
  ⟨10,[(.sc (.string ⟨#[40,97,32,60,32,98,41,32,43,32,40,97,32,61,61,32,98,41,32,43,32,40,97,32,62,32,98,41,32,61,61,32,49]⟩))],[(.ret (.tuple [k132,(.sc (.int Go.IntKind.i64 (0))),(.sc (.int Go.IntKind.i64 (0)))]))]⟩
noncomputable def F125:Abs.FTab:=F124.memo [m125]
def m126:Abs.Mem:=
  ⟨88,[k127,(.func (.func 68) [] [])],[(.ret (.sc (.int Go.IntKind.i64 (-1))))]⟩
noncomputable def F126:Abs.FTab:=F125.memo [m126]
def m127:Abs.Mem:=
  ⟨88,[k129,(.func (.func 68) [] [])],[(.ret (.sc (.int Go.IntKind.i64 (-1))))]⟩
noncomputable def F127:Abs.FTab:=F126.memo [m127]
def m128:Abs.Mem:=
  ⟨53,[k128],[(.ret (.agg [(.sc (.int Go.IntKind.i64 (7))),(.sc (.int Go.IntKind.i64 (3))),(.sc (.bool false))]))]⟩
noncomputable def F128:Abs.FTab:=F127.memo [m128]
def m129:Abs.Mem:=
  ⟨53,[k132],[(.ret (.agg [(.sc (.int Go.IntKind.i64 (13))),(.sc (.int Go.IntKind.i64 (5))),(.sc (.bool false))]))]⟩
noncomputable def F129:Abs.FTab:=F128.memo [m129]
def m130:Abs.Mem:=
  ⟨13,[k132,(.data 1 false [(.sc (.string ⟨#[97]⟩)),(.sc (.string ⟨#[98]⟩)),(.sc (.string ⟨#[99]⟩))]),(.sc (.slice none 0 0))],[(.ret (.sc (.int Go.IntKind.i64 (0))))]⟩
noncomputable def F130:Abs.FTab:=F129.memoT [m130]
def m131:Abs.Mem:=
  ⟨6,[(.sc (.string ⟨#[40,97,32,43,32,98,41,32,42,32,99,32,61,61,32,97,32,42,32,99,32,43,32,98,32,42,32,99]⟩))],[(.ret k53)]⟩
noncomputable def F131:Abs.FTab:=F130.memo [m131]
def m132:Abs.Mem:=
  ⟨13,[k53,(.data 1 false [(.sc (.string ⟨#[97]⟩)),(.sc (.string ⟨#[98]⟩)),(.sc (.string ⟨#[99]⟩))]),(.sc (.slice none 0 0))],[(.ret (.sc (.int Go.IntKind.i64 (0))))]⟩
noncomputable def F132:Abs.FTab:=F131.memo [m132]
def m133:Abs.Mem:=
  ⟨6,[(.sc (.string ⟨#[97,32,45,32,98,32,61,61,32,45,40,98,32,45,32,97,41]⟩))],[(.ret k60)]⟩
noncomputable def F133:Abs.FTab:=F132.memo [m133]
def m134:Abs.Mem:=
  ⟨13,[k60,(.data 1 false [(.sc (.string ⟨#[97]⟩)),(.sc (.string ⟨#[98]⟩)),(.sc (.string ⟨#[99]⟩))]),(.sc (.slice none 0 0))],[(.ret (.sc (.int Go.IntKind.i64 (0))))]⟩
noncomputable def F134:Abs.FTab:=F133.memo [m134]
def m135:Abs.Mem:=
  ⟨6,[(.sc (.string ⟨#[97,32,43,32,98,32,61,61,32,98,32,43,32,97]⟩))],[(.ret k63)]⟩
noncomputable def F135:Abs.FTab:=F134.memo [m135]
def m136:Abs.Mem:=
  ⟨13,[k63,(.data 1 false [(.sc (.string ⟨#[97]⟩)),(.sc (.string ⟨#[98]⟩)),(.sc (.string ⟨#[99]⟩))]),(.sc (.slice none 0 0))],[(.ret (.sc (.int Go.IntKind.i64 (0))))]⟩
noncomputable def F136:Abs.FTab:=F135.memo [m136]
def m137:Abs.Mem:=
  ⟨6,[(.sc (.string ⟨#[97,32,42,32,98,32,61,61,32,98,32,42,32,97]⟩))],[(.ret k67)]⟩
noncomputable def F137:Abs.FTab:=F136.memo [m137]
def m138:Abs.Mem:=
  ⟨13,[k67,(.data 1 false [(.sc (.string ⟨#[97]⟩)),(.sc (.string ⟨#[98]⟩)),(.sc (.string ⟨#[99]⟩))]),(.sc (.slice none 0 0))],[(.ret (.sc (.int Go.IntKind.i64 (0))))]⟩
noncomputable def F138:Abs.FTab:=F137.memo [m138]
def m139:Abs.Mem:=
  ⟨6,[(.sc (.string ⟨#[40,97,32,43,32,98,41,32,43,32,99,32,61,61,32,97,32,43,32,40,98,32,43,32,99,41]⟩))],[(.ret k73)]⟩
noncomputable def F139:Abs.FTab:=F138.memo [m139]
def m140:Abs.Mem:=
  ⟨13,[k73,(.data 1 false [(.sc (.string ⟨#[97]⟩)),(.sc (.string ⟨#[98]⟩)),(.sc (.string ⟨#[99]⟩))]),(.sc (.slice none 0 0))],[(.ret (.sc (.int Go.IntKind.i64 (0))))]⟩
noncomputable def F140:Abs.FTab:=F139.memo [m140]
def m141:Abs.Mem:=
  ⟨6,[(.sc (.string ⟨#[98,32,61,61,32,48,32,124,124,32,97,32,47,32,98,32,42,32,98,32,43,32,97,32,37,32,98,32,61,61,32,97]⟩))],[(.ret k85)]⟩
noncomputable def F141:Abs.FTab:=F140.memo [m141]
def m142:Abs.Mem:=
  ⟨13,[k85,(.data 1 false [(.sc (.string ⟨#[97]⟩)),(.sc (.string ⟨#[98]⟩)),(.sc (.string ⟨#[99]⟩))]),(.sc (.slice none 0 0))],[(.ret (.sc (.int Go.IntKind.i64 (0))))]⟩
noncomputable def F142:Abs.FTab:=F141.memo [m142]
def m143:Abs.Mem:=
  ⟨6,[(.sc (.string ⟨#[98,32,61,61,32,48,32,124,124,32,40,97,32,37,32,98,41,32,42,32,97,32,62,61,32,48]⟩))],[(.ret k91)]⟩
noncomputable def F143:Abs.FTab:=F142.memo [m143]
def m144:Abs.Mem:=
  ⟨13,[k91,(.data 1 false [(.sc (.string ⟨#[97]⟩)),(.sc (.string ⟨#[98]⟩)),(.sc (.string ⟨#[99]⟩))]),(.sc (.slice none 0 0))],[(.ret (.sc (.int Go.IntKind.i64 (0))))]⟩
noncomputable def F144:Abs.FTab:=F143.memo [m144]
def m145:Abs.Mem:=
  ⟨6,[(.sc (.string ⟨#[40,97,32,60,32,98,41,32,61,61,32,33,40,97,32,62,61,32,98,41]⟩))],[(.ret k97)]⟩
noncomputable def F145:Abs.FTab:=F144.memo [m145]
def m146:Abs.Mem:=
  ⟨13,[k97,(.data 1 false [(.sc (.string ⟨#[97]⟩)),(.sc (.string ⟨#[98]⟩)),(.sc (.string ⟨#[99]⟩))]),(.sc (.slice none 0 0))],[(.ret (.sc (.int Go.IntKind.i64 (0))))]⟩
noncomputable def F146:Abs.FTab:=F145.memo [m146]
def m147:Abs.Mem:=
  ⟨6,[(.sc (.string ⟨#[40,97,32,60,61,32,98,41,32,61,61,32,33,40,97,32,62,32,98,41]⟩))],[(.ret k103)]⟩
noncomputable def F147:Abs.FTab:=F146.memo [m147]
def m148:Abs.Mem:=
  ⟨13,[k103,(.data 1 false [(.sc (.string ⟨#[97]⟩)),(.sc (.string ⟨#[98]⟩)),(.sc (.string ⟨#[99]⟩))]),(.sc (.slice none 0 0))],[(.ret (.sc (.int Go.IntKind.i64 (0))))]⟩
noncomputable def F148:Abs.FTab:=F147.memo [m148]
def m149:Abs.Mem:=
  ⟨6,[(.sc (.string ⟨#[40,97,32,61,61,32,98,41,32,61,61,32,33,40,97,32,33,61,32,98,41]⟩))],[(.ret k109)]⟩
noncomputable def F149:Abs.FTab:=F148.memo [m149]
def m150:Abs.Mem:=
  ⟨13,[k109,(.data 1 false [(.sc (.string ⟨#[97]⟩)),(.sc (.string ⟨#[98]⟩)),(.sc (.string ⟨#[99]⟩))]),(.sc (.slice none 0 0))],[(.ret (.sc (.int Go.IntKind.i64 (0))))]⟩
noncomputable def F150:Abs.FTab:=F149.memo [m150]
def m151:Abs.Mem:=
  ⟨6,[(.sc (.string ⟨#[40,97,32,38,38,32,98,41,32,61,61,32,33,40,33,97,32,124,124,32,33,98,41]⟩))],[(.ret k120)]⟩
noncomputable def F151:Abs.FTab:=F150.memo [m151]
def m152:Abs.Mem:=
  ⟨13,[k120,(.data 1 false [(.sc (.string ⟨#[97]⟩)),(.sc (.string ⟨#[98]⟩)),(.sc (.string ⟨#[99]⟩))]),(.sc (.slice none 0 0))],[(.ret (.sc (.int Go.IntKind.i64 (0))))]⟩
noncomputable def F152:Abs.FTab:=F151.memo [m152]
def m153:Abs.Mem:=
  ⟨6,[(.sc (.string ⟨#[40,97,32,63,32,98,32,58,32,99,41,32,61,61,32,40,33,97,32,63,32,99,32,58,32,98,41]⟩))],[(.ret k126)]⟩
noncomputable def F153:Abs.FTab:=F152.memo [m153]
def m154:Abs.Mem:=
  ⟨13,[k126,(.data 1 false [(.sc (.string ⟨#[97]⟩)),(.sc (.string ⟨#[98]⟩)),(.sc (.string ⟨#[99]⟩))]),(.sc (.slice none 0 0))],[(.ret (.sc (.int Go.IntKind.i64 (0))))]⟩
noncomputable def F154:Abs.FTab:=F153.memo [m154]
def m155:Abs.Mem:=
  ⟨6,[(.sc (.string ⟨#[40,97,32,60,32,98,41,32,43,32,40,97,32,61,61,32,98,41,32,43,32,40,97,32,62,32,98,41,32,61,61,32,49]⟩))],[(.ret k132)]⟩
noncomputable def F155:Abs.FTab:=F154.memo [m155]
def m156:Abs.Mem:=
  ⟨13,[k132,(.data 1 false [(.sc (.string ⟨#[97]⟩)),(.sc (.string ⟨#[98]⟩)),(.sc (.string ⟨#[99]⟩))]),(.sc (.slice none 0 0))],[(.ret (.sc (.int Go.IntKind.i64 (0))))]⟩
noncomputable def F156:Abs.FTab:=F155.memo [m156]
def m157:Abs.Mem:=
  ⟨13,[k35,(.data 1 false [(.sc (.string ⟨#[118]⟩))]),k17],[(.ret (.sc (.int Go.IntKind.i64 (0))))]⟩
noncomputable def F157:Abs.FTab:=F156.memo [m157]
def m158:Abs.Mem:=
  ⟨13,[k38,(.data 1 false [(.sc (.string ⟨#[118]⟩))]),k17],[(.ret (.sc (.int Go.IntKind.i64 (0))))]⟩
noncomputable def F158:Abs.FTab:=F157.memo [m158]
end Go.Proofs.Ytdbkkindfakbfaa.evalLaws
