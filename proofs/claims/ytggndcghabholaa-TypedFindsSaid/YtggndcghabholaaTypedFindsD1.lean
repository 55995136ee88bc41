/-
  What single calls that the law TypedFinds makes return (part 1), by the values of the abstract layer. It proves no statement by itself.
-/
import Derived.Test.YtggndcghabholaaProg
import Derived.Test.YtggndcghabholaaFAbsMm
import Derived.Test.YtggndcghabholaaFAbsCt
import Derived.KernelRfl
namespace Go.Proofs.Ytggndcghabholaa.typedFinds
open Go
noncomputable def F00 : Abs.FTab := Abs.ftabZ Try.prog [23, 43, 95, 9, 11] [] [9, 11]
def h0 : Abs.Mem := ⟨75, [.sc (.int .i64 5)], [.ret (.tuple [(.sc (.string ⟨#[43]⟩)), (.sc (.int .i64 4))])]⟩
noncomputable def F0 : Abs.FTab := (F00.memo [h0])
def gm : Nat := 894667092196365699648
def k1 : Abs.AVal := .agg [(.sc (.int Go.IntKind.u8 (97))), (.sc (.string ⟨#[114, 101, 116, 117, 114, 110]⟩)), (.sc (.int Go.IntKind.i64 (12)))]
def m1 : Abs.Mem :=
  ⟨37, [(.sc (.string ⟨#[102, 117, 110, 99, 32, 102, 40, 97, 41, 32, 123, 32, 114, 101, 116, 117, 114, 110, 32, 97, 32, 43, 32, 118, 59, 32, 125, 32, 102, 117, 110, 99, 32, 103, 40, 41, 32, 123, 32, 114, 101, 116, 117, 114, 110, 32, 102, 40, 49, 41, 59, 32, 125]⟩)), (.sc (.int Go.IntKind.i64 (0)))], [(.ret (.data 3 false [(.agg [(.sc (.int Go.IntKind.u8 (97))), (.sc (.string ⟨#[102, 117, 110, 99]⟩)), (.sc (.int Go.IntKind.i64 (0)))]), (.agg [(.sc (.int Go.IntKind.u8 (97))), (.sc (.string ⟨#[102]⟩)), (.sc (.int Go.IntKind.i64 (5)))]), (.agg [(.sc (.int Go.IntKind.u8 (46))), (.sc (.string ⟨#[40]⟩)), (.sc (.int Go.IntKind.i64 (6)))]), (.agg [(.sc (.int Go.IntKind.u8 (97))), (.sc (.string ⟨#[97]⟩)), (.sc (.int Go.IntKind.i64 (7)))]), (.agg [(.sc (.int Go.IntKind.u8 (46))), (.sc (.string ⟨#[41]⟩)), (.sc (.int Go.IntKind.i64 (8)))]), (.agg [(.sc (.int Go.IntKind.u8 (46))), (.sc (.string ⟨#[123]⟩)), (.sc (.int Go.IntKind.i64 (10)))]), k1, (.agg [(.sc (.int Go.IntKind.u8 (97))), (.sc (.string ⟨#[97]⟩)), (.sc (.int Go.IntKind.i64 (19)))]), (.agg [(.sc (.int Go.IntKind.u8 (46))), (.sc (.string ⟨#[43]⟩)), (.sc (.int Go.IntKind.i64 (21)))]), (.agg [(.sc (.int Go.IntKind.u8 (97))), (.sc (.string ⟨#[118]⟩)), (.sc (.int Go.IntKind.i64 (23)))]), (.agg [(.sc (.int Go.IntKind.u8 (46))), (.sc (.string ⟨#[59]⟩)), (.sc (.int Go.IntKind.i64 (24)))]), (.agg [(.sc (.int Go.IntKind.u8 (46))), (.sc (.string ⟨#[125]⟩)), (.sc (.int Go.IntKind.i64 (26)))]), (.agg [(.sc (.int Go.IntKind.u8 (97))), (.sc (.string ⟨#[102, 117, 110, 99]⟩)), (.sc (.int Go.IntKind.i64 (28)))]), (.agg [(.sc (.int Go.IntKind.u8 (97))), (.sc (.string ⟨#[103]⟩)), (.sc (.int Go.IntKind.i64 (33)))]), (.agg [(.sc (.int Go.IntKind.u8 (46))), (.sc (.string ⟨#[40]⟩)), (.sc (.int Go.IntKind.i64 (34)))]), (.agg [(.sc (.int Go.IntKind.u8 (46))), (.sc (.string ⟨#[41]⟩)), (.sc (.int Go.IntKind.i64 (35)))]), (.agg [(.sc (.int Go.IntKind.u8 (46))), (.sc (.string ⟨#[123]⟩)), (.sc (.int Go.IntKind.i64 (37)))]), (.agg [(.sc (.int Go.IntKind.u8 (97))), (.sc (.string ⟨#[114, 101, 116, 117, 114, 110]⟩)), (.sc (.int Go.IntKind.i64 (39)))]), (.agg [(.sc (.int Go.IntKind.u8 (97))), (.sc (.string ⟨#[102]⟩)), (.sc (.int Go.IntKind.i64 (46)))]), (.agg [(.sc (.int Go.IntKind.u8 (46))), (.sc (.string ⟨#[40]⟩)), (.sc (.int Go.IntKind.i64 (47)))]), (.agg [(.sc (.int Go.IntKind.u8 (48))), (.sc (.string ⟨#[49]⟩)), (.sc (.int Go.IntKind.i64 (48)))]), (.agg [(.sc (.int Go.IntKind.u8 (46))), (.sc (.string ⟨#[41]⟩)), (.sc (.int Go.IntKind.i64 (49)))]), (.agg [(.sc (.int Go.IntKind.u8 (46))), (.sc (.string ⟨#[59]⟩)), (.sc (.int Go.IntKind.i64 (50)))]), (.agg [(.sc (.int Go.IntKind.u8 (46))), (.sc (.string ⟨#[125]⟩)), (.sc (.int Go.IntKind.i64 (52)))]), (.agg [(.sc (.int Go.IntKind.u8 (32))), (.sc (.string ⟨#[]⟩)), (.sc (.int Go.IntKind.i64 (53)))])]))]⟩
noncomputable def F1 : Abs.FTab := F0.memo [m1]
def k2 : Abs.AVal := .data 1 false [(.sc (.string ⟨#[109, 111, 100, 101, 108]⟩)), (.sc (.string ⟨#[99, 108, 111, 99, 107]⟩)), (.sc (.string ⟨#[118, 97, 114]⟩)), (.sc (.string ⟨#[105, 110]⟩)), (.sc (.string ⟨#[99, 104, 97, 110]⟩)), (.sc (.string ⟨#[98, 114, 111, 97, 100, 99, 97, 115, 116]⟩)), (.sc (.string ⟨#[117, 114, 103, 101, 110, 116]⟩)), (.sc (.string ⟨#[99, 111, 109, 109, 105, 116, 116, 101, 100]⟩)), (.sc (.string ⟨#[102, 117, 110, 99]⟩)), (.sc (.string ⟨#[112, 114, 111, 99, 101, 115, 115]⟩)), (.sc (.string ⟨#[105, 110, 105, 116]⟩)), (.sc (.string ⟨#[108, 111, 99]⟩)), (.sc (.string ⟨#[105, 110, 118]⟩)), (.sc (.string ⟨#[114, 97, 116, 101]⟩)), (.sc (.string ⟨#[101, 100, 103, 101]⟩)), (.sc (.string ⟨#[119, 104, 101, 110]⟩)), (.sc (.string ⟨#[105, 102]⟩)), (.sc (.string ⟨#[101, 108, 115, 101]⟩)), (.sc (.string ⟨#[119, 104, 105, 108, 101]⟩)), (.sc (.string ⟨#[114, 101, 116, 117, 114, 110]⟩)), (.sc (.string ⟨#[115, 121, 110, 99]⟩)), (.sc (.string ⟨#[100, 111]⟩)), (.sc (.string ⟨#[114, 101, 115, 101, 116]⟩)), (.sc (.string ⟨#[99, 111, 115, 116]⟩)), (.sc (.string ⟨#[107, 105, 110, 100]⟩))]
def m2 : Abs.Mem :=
  ⟨34, [k2, (.sc (.string ⟨#[102]⟩))], [(.ret (.sc (.bool false)))]⟩
noncomputable def F2 : Abs.FTab := F1.memo [m2]
def m3 : Abs.Mem :=
  ⟨34, [k2, (.sc (.string ⟨#[97]⟩))], [(.ret (.sc (.bool false)))]⟩
noncomputable def F3 : Abs.FTab := F2.memo [m3]
def m4 : Abs.Mem :=
  ⟨34, [k2, (.sc (.string ⟨#[118]⟩))], [(.ret (.sc (.bool false)))]⟩
noncomputable def F4 : Abs.FTab := F3.memo [m4]
def m5 : Abs.Mem :=
  ⟨34, [k2, (.sc (.string ⟨#[103]⟩))], [(.ret (.sc (.bool false)))]⟩
noncomputable def F5 : Abs.FTab := F4.memo [m5]
def k3 : Abs.AVal := .agg [(.sc (.int Go.IntKind.i64 (2))), (.sc (.string ⟨#[97]⟩)), (.sc (.int Go.IntKind.i64 (0))), (.sc (.slice none 0 0))]
def k4 : Abs.AVal := .agg [(.sc (.int Go.IntKind.i64 (2))), (.sc (.string ⟨#[118]⟩)), (.sc (.int Go.IntKind.i64 (0))), (.sc (.slice none 0 0))]
def k5 : Abs.AVal := .data 4 false [k3, k4]
def k6 : Abs.AVal := .agg [(.sc (.int Go.IntKind.i64 (5))), (.sc (.string ⟨#[]⟩)), (.sc (.int Go.IntKind.i64 (5))), (.sc (.string ⟨#[]⟩)), (.sc (.int Go.IntKind.i64 (0))), k5, (.sc (.slice none 0 0)), (.sc (.slice none 0 0))]
def k7 : Abs.AVal := .data 8 false [k6]
def k8 : Abs.AVal := .agg [(.sc (.string ⟨#[102]⟩)), (.data 1 false [(.sc (.string ⟨#[97]⟩))]), k7]
def k9 : Abs.AVal := .agg [(.sc (.int Go.IntKind.i64 (1))), (.sc (.string ⟨#[]⟩)), (.sc (.int Go.IntKind.i64 (1))), (.sc (.slice none 0 0))]
def k10 : Abs.AVal := .data 4 false [k9]
def k11 : Abs.AVal := .agg [(.sc (.int Go.IntKind.i64 (5))), (.sc (.string ⟨#[]⟩)), (.sc (.int Go.IntKind.i64 (19))), (.sc (.string ⟨#[102]⟩)), (.sc (.int Go.IntKind.i64 (0))), k10, (.sc (.slice none 0 0)), (.sc (.slice none 0 0))]
def k12 : Abs.AVal := .data 8 false [k11]
def k13 : Abs.AVal := .agg [(.sc (.string ⟨#[103]⟩)), (.sc (.slice none 0 0)), k12]
def k14 : Abs.AVal := .data 3 false [k8, k13]
def m6 : Abs.Mem :=
  ⟨36, [(.sc (.string ⟨#[102, 117, 110, 99, 32, 102, 40, 97, 41, 32, 123, 32, 114, 101, 116, 117, 114, 110, 32, 97, 32, 43, 32, 118, 59, 32, 125, 32, 102, 117, 110, 99, 32, 103, 40, 41, 32, 123, 32, 114, 101, 116, 117, 114, 110, 32, 102, 40, 49, 41, 59, 32, 125]⟩))], [(.ret (.tuple [k14, (.sc (.int Go.IntKind.i64 (0))), (.sc (.int Go.IntKind.i64 (0)))]))]⟩
noncomputable def F6 : Abs.FTab := F5.memo [m6]
def m7 : Abs.Mem :=
  ⟨63, [(.sc (.string ⟨#[102]⟩))], [(.ret (.sc (.bool true)))]⟩
noncomputable def F7 : Abs.FTab := F6.memo [m7]
def m8 : Abs.Mem :=
  ⟨63, [(.sc (.string ⟨#[97]⟩))], [(.ret (.sc (.bool true)))]⟩
noncomputable def F8 : Abs.FTab := F7.memo [m8]
def m9 : Abs.Mem :=
  ⟨63, [(.sc (.string ⟨#[118]⟩))], [(.ret (.sc (.bool true)))]⟩
noncomputable def F9 : Abs.FTab := F8.memo [m9]
def m10 : Abs.Mem :=
  ⟨68, [k6], [(.ret (.sc (.bool true)))]⟩
noncomputable def F10 : Abs.FTab := F9.memo [m10]
def m11 : Abs.Mem :=
  ⟨63, [(.sc (.string ⟨#[103]⟩))], [(.ret (.sc (.bool true)))]⟩
noncomputable def F11 : Abs.FTab := F10.memo [m11]
def m12 : Abs.Mem :=
  ⟨69, [k14], [(.ret (.sc (.bool true)))]⟩
noncomputable def F12 : Abs.FTab := F11.memo [m12]
def m13 : Abs.Mem :=
  ⟨42, [k14], [(.ret (.sc (.int Go.IntKind.i64 (0))))]⟩
noncomputable def F13 : Abs.FTab := F12.memo [m13]
def m14 : Abs.Mem :=
  ⟨9, [k14, (.data 1 false [(.sc (.string ⟨#[118]⟩)), (.sc (.string ⟨#[119]⟩))])], [(.ret (.tuple [(.sc (.int Go.IntKind.i64 (0))), (.sc (.int Go.IntKind.i64 (0)))]))]⟩
noncomputable def F14 : Abs.FTab := F13.memoT [m14]
def m15 : Abs.Mem :=
  ⟨37, [(.sc (.string ⟨#[102, 117, 110, 99, 32, 103, 40, 41, 32, 123, 32, 114, 101, 116, 117, 114, 110, 32, 49, 59, 32, 125, 32, 102, 117, 110, 99, 32, 102, 40, 97, 41, 32, 123, 32, 105, 102, 32, 40, 97, 41, 32, 123, 32, 114, 101, 116, 117, 114, 110, 32, 49, 59, 32, 125, 32, 125]⟩)), (.sc (.int Go.IntKind.i64 (0)))], [(.ret (.data 3 false [(.agg [(.sc (.int Go.IntKind.u8 (97))), (.sc (.string ⟨#[102, 117, 110, 99]⟩)), (.sc (.int Go.IntKind.i64 (0)))]), (.agg [(.sc (.int Go.IntKind.u8 (97))), (.sc (.string ⟨#[103]⟩)), (.sc (.int Go.IntKind.i64 (5)))]), (.agg [(.sc (.int Go.IntKind.u8 (46))), (.sc (.string ⟨#[40]⟩)), (.sc (.int Go.IntKind.i64 (6)))]), (.agg [(.sc (.int Go.IntKind.u8 (46))), (.sc (.string ⟨#[41]⟩)), (.sc (.int Go.IntKind.i64 (7)))]), (.agg [(.sc (.int Go.IntKind.u8 (46))), (.sc (.string ⟨#[123]⟩)), (.sc (.int Go.IntKind.i64 (9)))]), (.agg [(.sc (.int Go.IntKind.u8 (97))), (.sc (.string ⟨#[114, 101, 116, 117, 114, 110]⟩)), (.sc (.int Go.IntKind.i64 (11)))]), (.agg [(.sc (.int Go.IntKind.u8 (48))), (.sc (.string ⟨#[49]⟩)), (.sc (.int Go.IntKind.i64 (18)))]), (.agg [(.sc (.int Go.IntKind.u8 (46))), (.sc (.string ⟨#[59]⟩)), (.sc (.int Go.IntKind.i64 (19)))]), (.agg [(.sc (.int Go.IntKind.u8 (46))), (.sc (.string ⟨#[125]⟩)), (.sc (.int Go.IntKind.i64 (21)))]), (.agg [(.sc (.int Go.IntKind.u8 (97))), (.sc (.string ⟨#[102, 117, 110, 99]⟩)), (.sc (.int Go.IntKind.i64 (23)))]), (.agg [(.sc (.int Go.IntKind.u8 (97))), (.sc (.string ⟨#[102]⟩)), (.sc (.int Go.IntKind.i64 (28)))]), (.agg [(.sc (.int Go.IntKind.u8 (46))), (.sc (.string ⟨#[40]⟩)), (.sc (.int Go.IntKind.i64 (29)))]), (.agg [(.sc (.int Go.IntKind.u8 (97))), (.sc (.string ⟨#[97]⟩)), (.sc (.int Go.IntKind.i64 (30)))]), (.agg [(.sc (.int Go.IntKind.u8 (46))), (.sc (.string ⟨#[41]⟩)), (.sc (.int Go.IntKind.i64 (31)))]), (.agg [(.sc (.int Go.IntKind.u8 (46))), (.sc (.string ⟨#[123]⟩)), (.sc (.int Go.IntKind.i64 (33)))]), (.agg [(.sc (.int Go.IntKind.u8 (97))), (.sc (.string ⟨#[105, 102]⟩)), (.sc (.int Go.IntKind.i64 (35)))]), (.agg [(.sc (.int Go.IntKind.u8 (46))), (.sc (.string ⟨#[40]⟩)), (.sc (.int Go.IntKind.i64 (38)))]), (.agg [(.sc (.int Go.IntKind.u8 (97))), (.sc (.string ⟨#[97]⟩)), (.sc (.int Go.IntKind.i64 (39)))]), (.agg [(.sc (.int Go.IntKind.u8 (46))), (.sc (.string ⟨#[41]⟩)), (.sc (.int Go.IntKind.i64 (40)))]), (.agg [(.sc (.int Go.IntKind.u8 (46))), (.sc (.string ⟨#[123]⟩)), (.sc (.int Go.IntKind.i64 (42)))]), (.agg [(.sc (.int Go.IntKind.u8 (97))), (.sc (.string ⟨#[114, 101, 116, 117, 114, 110]⟩)), (.sc (.int Go.IntKind.i64 (44)))]), (.agg [(.sc (.int Go.IntKind.u8 (48))), (.sc (.string ⟨#[49]⟩)), (.sc (.int Go.IntKind.i64 (51)))]), (.agg [(.sc (.int Go.IntKind.u8 (46))), (.sc (.string ⟨#[59]⟩)), (.sc (.int Go.IntKind.i64 (52)))]), (.agg [(.sc (.int Go.IntKind.u8 (46))), (.sc (.string ⟨#[125]⟩)), (.sc (.int Go.IntKind.i64 (54)))]), (.agg [(.sc (.int Go.IntKind.u8 (46))), (.sc (.string ⟨#[125]⟩)), (.sc (.int Go.IntKind.i64 (56)))]), (.agg [(.sc (.int Go.IntKind.u8 (32))), (.sc (.string ⟨#[]⟩)), (.sc (.int Go.IntKind.i64 (57)))])]))]⟩
noncomputable def F15 : Abs.FTab := F14.memo [m15]
def k15 : Abs.AVal := .agg [(.sc (.int Go.IntKind.i64 (5))), (.sc (.string ⟨#[]⟩)), (.sc (.int Go.IntKind.i64 (1))), (.sc (.string ⟨#[]⟩)), (.sc (.int Go.IntKind.i64 (1))), (.sc (.slice none 0 0)), (.sc (.slice none 0 0)), (.sc (.slice none 0 0))]
def k16 : Abs.AVal := .data 8 false [k15]
def k17 : Abs.AVal := .agg [(.sc (.string ⟨#[103]⟩)), (.sc (.slice none 0 0)), k16]
def k18 : Abs.AVal := .agg [(.sc (.int Go.IntKind.i64 (3))), (.sc (.string ⟨#[]⟩)), (.sc (.int Go.IntKind.i64 (2))), (.sc (.string ⟨#[97]⟩)), (.sc (.int Go.IntKind.i64 (0))), (.sc (.slice none 0 0)), k16, (.sc (.slice none 0 0))]
def k19 : Abs.AVal := .data 8 false [k18]
def k20 : Abs.AVal := .agg [(.sc (.string ⟨#[102]⟩)), (.data 1 false [(.sc (.string ⟨#[97]⟩))]), k19]
def k21 : Abs.AVal := .data 3 false [k17, k20]
def m16 : Abs.Mem :=
  ⟨36, [(.sc (.string ⟨#[102, 117, 110, 99, 32, 103, 40, 41, 32, 123, 32, 114, 101, 116, 117, 114, 110, 32, 49, 59, 32, 125, 32, 102, 117, 110, 99, 32, 102, 40, 97, 41, 32, 123, 32, 105, 102, 32, 40, 97, 41, 32, 123, 32, 114, 101, 116, 117, 114, 110, 32, 49, 59, 32, 125, 32, 125]⟩))], [(.ret (.tuple [k21, (.sc (.int Go.IntKind.i64 (0))), (.sc (.int Go.IntKind.i64 (0)))]))]⟩
noncomputable def F16 : Abs.FTab := F15.memo [m16]
def m17 : Abs.Mem :=
  ⟨68, [k18], [(.ret (.sc (.bool true)))]⟩
noncomputable def F17 : Abs.FTab := F16.memo [m17]
def m18 : Abs.Mem :=
  ⟨69, [k21], [(.ret (.sc (.bool true)))]⟩
noncomputable def F18 : Abs.FTab := F17.memo [m18]
def m19 : Abs.Mem :=
  ⟨42, [k21], [(.ret (.sc (.int Go.IntKind.i64 (0))))]⟩
noncomputable def F19 : Abs.FTab := F18.memo [m19]
def m20 : Abs.Mem :=
  ⟨9, [k21, (.data 1 false [(.sc (.string ⟨#[118]⟩)), (.sc (.string ⟨#[119]⟩))])], [(.ret (.tuple [(.sc (.int Go.IntKind.i64 (1))), (.sc (.int Go.IntKind.i64 (92)))]))]⟩
noncomputable def F20 : Abs.FTab := F19.memoT [m20]
def m21 : Abs.Mem :=
  ⟨37, [(.sc (.string ⟨#[102, 117, 110, 99, 32, 102, 40, 97, 41, 32, 123, 32, 114, 101, 116, 117, 114, 110, 32, 103, 40, 41, 59, 32, 125, 32, 102, 117, 110, 99, 32, 103, 40, 41, 32, 123, 32, 114, 101, 116, 117, 114, 110, 32, 49, 59, 32, 125]⟩)), (.sc (.int Go.IntKind.i64 (0)))], [(.ret (.data 3 false [(.agg [(.sc (.int Go.IntKind.u8 (97))), (.sc (.string ⟨#[102, 117, 110, 99]⟩)), (.sc (.int Go.IntKind.i64 (0)))]), (.agg [(.sc (.int Go.IntKind.u8 (97))), (.sc (.string ⟨#[102]⟩)), (.sc (.int Go.IntKind.i64 (5)))]), (.agg [(.sc (.int Go.IntKind.u8 (46))), (.sc (.string ⟨#[40]⟩)), (.sc (.int Go.IntKind.i64 (6)))]), (.agg [(.sc (.int Go.IntKind.u8 (97))), (.sc (.string ⟨#[97]⟩)), (.sc (.int Go.IntKind.i64 (7)))]), (.agg [(.sc (.int Go.IntKind.u8 (46))), (.sc (.string ⟨#[41]⟩)), (.sc (.int Go.IntKind.i64 (8)))]), (.agg [(.sc (.int Go.IntKind.u8 (46))), (.sc (.string ⟨#[123]⟩)), (.sc (.int Go.IntKind.i64 (10)))]), k1, (.agg [(.sc (.int Go.IntKind.u8 (97))), (.sc (.string ⟨#[103]⟩)), (.sc (.int Go.IntKind.i64 (19)))]), (.agg [(.sc (.int Go.IntKind.u8 (46))), (.sc (.string ⟨#[40]⟩)), (.sc (.int Go.IntKind.i64 (20)))]), (.agg [(.sc (.int Go.IntKind.u8 (46))), (.sc (.string ⟨#[41]⟩)), (.sc (.int Go.IntKind.i64 (21)))]), (.agg [(.sc (.int Go.IntKind.u8 (46))), (.sc (.string ⟨#[59]⟩)), (.sc (.int Go.IntKind.i64 (22)))]), (.agg [(.sc (.int Go.IntKind.u8 (46))), (.sc (.string ⟨#[125]⟩)), (.sc (.int Go.IntKind.i64 (24)))]), (.agg [(.sc (.int Go.IntKind.u8 (97))), (.sc (.string ⟨#[102, 117, 110, 99]⟩)), (.sc (.int Go.IntKind.i64 (26)))]), (.agg [(.sc (.int Go.IntKind.u8 (97))), (.sc (.string ⟨#[103]⟩)), (.sc (.int Go.IntKind.i64 (31)))]), (.agg [(.sc (.int Go.IntKind.u8 (46))), (.sc (.string ⟨#[40]⟩)), (.sc (.int Go.IntKind.i64 (32)))]), (.agg [(.sc (.int Go.IntKind.u8 (46))), (.sc (.string ⟨#[41]⟩)), (.sc (.int Go.IntKind.i64 (33)))]), (.agg [(.sc (.int Go.IntKind.u8 (46))), (.sc (.string ⟨#[123]⟩)), (.sc (.int Go.IntKind.i64 (35)))]), (.agg [(.sc (.int Go.IntKind.u8 (97))), (.sc (.string ⟨#[114, 101, 116, 117, 114, 110]⟩)), (.sc (.int Go.IntKind.i64 (37)))]), (.agg [(.sc (.int Go.IntKind.u8 (48))), (.sc (.string ⟨#[49]⟩)), (.sc (.int Go.IntKind.i64 (44)))]), (.agg [(.sc (.int Go.IntKind.u8 (46))), (.sc (.string ⟨#[59]⟩)), (.sc (.int Go.IntKind.i64 (45)))]), (.agg [(.sc (.int Go.IntKind.u8 (46))), (.sc (.string ⟨#[125]⟩)), (.sc (.int Go.IntKind.i64 (47)))]), (.agg [(.sc (.int Go.IntKind.u8 (32))), (.sc (.string ⟨#[]⟩)), (.sc (.int Go.IntKind.i64 (48)))])]))]⟩
noncomputable def F21 : Abs.FTab := F20.memo [m21]
def k22 : Abs.AVal := .agg [(.sc (.int Go.IntKind.i64 (5))), (.sc (.string ⟨#[]⟩)), (.sc (.int Go.IntKind.i64 (19))), (.sc (.string ⟨#[103]⟩)), (.sc (.int Go.IntKind.i64 (0))), (.sc (.slice none 0 0)), (.sc (.slice none 0 0)), (.sc (.slice none 0 0))]
def k23 : Abs.AVal := .data 8 false [k22]
def k24 : Abs.AVal := .agg [(.sc (.string ⟨#[102]⟩)), (.data 1 false [(.sc (.string ⟨#[97]⟩))]), k23]
def k25 : Abs.AVal := .data 3 false [k24, k17]
def m22 : Abs.Mem :=
  ⟨36, [(.sc (.string ⟨#[102, 117, 110, 99, 32, 102, 40, 97, 41, 32, 123, 32, 114, 101, 116, 117, 114, 110, 32, 103, 40, 41, 59, 32, 125, 32, 102, 117, 110, 99, 32, 103, 40, 41, 32, 123, 32, 114, 101, 116, 117, 114, 110, 32, 49, 59, 32, 125]⟩))], [(.ret (.tuple [k25, (.sc (.int Go.IntKind.i64 (0))), (.sc (.int Go.IntKind.i64 (0)))]))]⟩
noncomputable def F22 : Abs.FTab := F21.memo [m22]
def m23 : Abs.Mem :=
  ⟨69, [k25], [(.ret (.sc (.bool true)))]⟩
noncomputable def F23 : Abs.FTab := F22.memo [m23]
def m24 : Abs.Mem :=
  ⟨42, [k25], [(.ret (.sc (.int Go.IntKind.i64 (0))))]⟩
noncomputable def F24 : Abs.FTab := F23.memo [m24]
def m25 : Abs.Mem :=
  ⟨9, [k25, (.data 1 false [(.sc (.string ⟨#[118]⟩)), (.sc (.string ⟨#[119]⟩))])], [(.ret (.tuple [(.sc (.int Go.IntKind.i64 (0))), (.sc (.int Go.IntKind.i64 (90)))]))]⟩
noncomputable def F25 : Abs.FTab := F24.memoT [m25]
def m26 : Abs.Mem :=
  ⟨37, [(.sc (.string ⟨#[102, 40, 49, 44, 32, 50, 41]⟩)), (.sc (.int Go.IntKind.i64 (0)))], [(.ret (.data 3 false [(.agg [(.sc (.int Go.IntKind.u8 (97))), (.sc (.string ⟨#[102]⟩)), (.sc (.int Go.IntKind.i64 (0)))]), (.agg [(.sc (.int Go.IntKind.u8 (46))), (.sc (.string ⟨#[40]⟩)), (.sc (.int Go.IntKind.i64 (1)))]), (.agg [(.sc (.int Go.IntKind.u8 (48))), (.sc (.string ⟨#[49]⟩)), (.sc (.int Go.IntKind.i64 (2)))]), (.agg [(.sc (.int Go.IntKind.u8 (46))), (.sc (.string ⟨#[44]⟩)), (.sc (.int Go.IntKind.i64 (3)))]), (.agg [(.sc (.int Go.IntKind.u8 (48))), (.sc (.string ⟨#[50]⟩)), (.sc (.int Go.IntKind.i64 (5)))]), (.agg [(.sc (.int Go.IntKind.u8 (46))), (.sc (.string ⟨#[41]⟩)), (.sc (.int Go.IntKind.i64 (6)))]), (.agg [(.sc (.int Go.IntKind.u8 (32))), (.sc (.string ⟨#[]⟩)), (.sc (.int Go.IntKind.i64 (7)))])]))]⟩
noncomputable def F26 : Abs.FTab := F25.memo [m26]
def k26 : Abs.AVal := .agg [(.sc (.int Go.IntKind.i64 (1))), (.sc (.string ⟨#[]⟩)), (.sc (.int Go.IntKind.i64 (2))), (.sc (.slice none 0 0))]
def k27 : Abs.AVal := .data 4 false [k9, k26]
def k28 : Abs.AVal := .agg [(.sc (.int Go.IntKind.i64 (19))), (.sc (.string ⟨#[102]⟩)), (.sc (.int Go.IntKind.i64 (0))), k27]
def m27 : Abs.Mem :=
  ⟨19, [(.sc (.string ⟨#[102, 40, 49, 44, 32, 50, 41]⟩))], [(.ret (.tuple [k28, (.sc (.int Go.IntKind.i64 (0))), (.sc (.int Go.IntKind.i64 (0)))]))]⟩
noncomputable def F27 : Abs.FTab := F26.memo [m27]
def m28 : Abs.Mem :=
  ⟨37, [(.sc (.string ⟨#[102, 117, 110, 99, 32, 102, 40, 97, 41, 32, 123, 32, 114, 101, 116, 117, 114, 110, 32, 97, 59, 32, 125]⟩)), (.sc (.int Go.IntKind.i64 (0)))], [(.ret (.data 3 false [(.agg [(.sc (.int Go.IntKind.u8 (97))), (.sc (.string ⟨#[102, 117, 110, 99]⟩)), (.sc (.int Go.IntKind.i64 (0)))]), (.agg [(.sc (.int Go.IntKind.u8 (97))), (.sc (.string ⟨#[102]⟩)), (.sc (.int Go.IntKind.i64 (5)))]), (.agg [(.sc (.int Go.IntKind.u8 (46))), (.sc (.string ⟨#[40]⟩)), (.sc (.int Go.IntKind.i64 (6)))]), (.agg [(.sc (.int Go.IntKind.u8 (97))), (.sc (.string ⟨#[97]⟩)), (.sc (.int Go.IntKind.i64 (7)))]), (.agg [(.sc (.int Go.IntKind.u8 (46))), (.sc (.string ⟨#[41]⟩)), (.sc (.int Go.IntKind.i64 (8)))]), (.agg [(.sc (.int Go.IntKind.u8 (46))), (.sc (.string ⟨#[123]⟩)), (.sc (.int Go.IntKind.i64 (10)))]), k1, (.agg [(.sc (.int Go.IntKind.u8 (97))), (.sc (.string ⟨#[97]⟩)), (.sc (.int Go.IntKind.i64 (19)))]), (.agg [(.sc (.int Go.IntKind.u8 (46))), (.sc (.string ⟨#[59]⟩)), (.sc (.int Go.IntKind.i64 (20)))]), (.agg [(.sc (.int Go.IntKind.u8 (46))), (.sc (.string ⟨#[125]⟩)), (.sc (.int Go.IntKind.i64 (22)))]), (.agg [(.sc (.int Go.IntKind.u8 (32))), (.sc (.string ⟨#[]⟩)), (.sc (.int Go.IntKind.i64 (23)))])]))]⟩
noncomputable def F28 : Abs.FTab := F27.memo [m28]
def k29 : Abs.AVal := .agg [(.sc (.int Go.IntKind.i64 (5))), (.sc (.string ⟨#[]⟩)), (.sc (.int Go.IntKind.i64 (2))), (.sc (.string ⟨#[97]⟩)), (.sc (.int Go.IntKind.i64 (0))), (.sc (.slice none 0 0)), (.sc (.slice none 0 0)), (.sc (.slice none 0 0))]
def k30 : Abs.AVal := .data 8 false [k29]
def k31 : Abs.AVal := .agg [(.sc (.string ⟨#[102]⟩)), (.data 1 false [(.sc (.string ⟨#[97]⟩))]), k30]
def k32 : Abs.AVal := .data 3 false [k31]
def m29 : Abs.Mem :=
  ⟨36, [(.sc (.string ⟨#[102, 117, 110, 99, 32, 102, 40, 97, 41, 32, 123, 32, 114, 101, 116, 117, 114, 110, 32, 97, 59, 32, 125]⟩))], [(.ret (.tuple [k32, (.sc (.int Go.IntKind.i64 (0))), (.sc (.int Go.IntKind.i64 (0)))]))]⟩
noncomputable def F29 : Abs.FTab := F28.memo [m29]
def m30 : Abs.Mem :=
  ⟨26, [k28], [(.ret (.sc (.int Go.IntKind.i64 (0))))]⟩
noncomputable def F30 : Abs.FTab := F29.memo [m30]
def m31 : Abs.Mem :=
  ⟨42, [k32], [(.ret (.sc (.int Go.IntKind.i64 (0))))]⟩
noncomputable def F31 : Abs.FTab := F30.memo [m31]
def m32 : Abs.Mem :=
  ⟨11, [k28, (.data 1 false [(.sc (.string ⟨#[118]⟩)), (.sc (.string ⟨#[119]⟩))]), k32], [(.ret (.sc (.int Go.IntKind.i64 (91))))]⟩
noncomputable def F32 : Abs.FTab := F31.memoT [m32]
def m33 : Abs.Mem :=
  ⟨6, [], [(.ret (.sc (.bool true)))]⟩
noncomputable def F33 : Abs.FTab := F32.memo [m33]
end Go.Proofs.Ytggndcghabholaa.typedFinds
