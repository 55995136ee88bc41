/-
  Functions of the program walked: each is shown to compute a plain function (TF).
-/
import Derived.Test.YtdbkkindfakbfaaProg
import Derived.Test.YtdbkkindfakbfaaAbsDf
import Derived.Test.YtdbkkindfakbfaaAbsTyW
import Derived.KernelRfl
noncomputable section
namespace Abs
set_option linter.unusedSimpArgs false
set_option linter.unusedVariables false
set_option maxRecDepth 100000
set_option maxHeartbeats 16000000
open Go Go.Proofs
noncomputable def EE (w:WD):Env:={Env.of Try.prog w.w with ds:=w.ds}
section
variable {w:WD} {lit:Bool} {ρ:ARho} {σ:AStore} {args:List AVal} {R:AEnd->AStore->Prop}
theorem fn_4:(EE w).fns 4=true:=by kernel_rfl
theorem bs_23 {n:Nat} {ps:Array (Nat×Operand)}:aOp (EE w) lit (.buildSlice 23 n ps) ρ σ=opBuildSl σ lit ⟨1,16,(.sc (.string ⟨#[]⟩))⟩ n (partsSome ρ ps.toList):=op_buildSlice (by kernel_rfl)
theorem ln_23 {x:AVal}:opBi (EE w) .len [23] σ (some [x])=.ofV σ (aLen (.slice 0) x σ):=bi_len (by kernel_rfl)
theorem ia_23 {x y:Operand}:aOp (EE w) lit (.indexAddr 23 x y) ρ σ=opIA σ ⟨1,16,(.sc (.string ⟨#[]⟩))⟩ (ρ x) (ρ y):=op_indexAddr (by kernel_rfl)
theorem ty_9:tyA (EE w) 9=some (false,1):=by kernel_rfl
theorem fn_6:(EE w).fns 6=true:=by kernel_rfl
theorem fn_5:(EE w).fns 5=true:=by kernel_rfl
theorem ty_30:tyA (EE w) 30=some (true,4):=by kernel_rfl
theorem fn_9:(EE w).fns 9=true:=by kernel_rfl
theorem zr_30:zeroD (EE w) 30=some (.agg [(.sc (.int Go.IntKind.i64 (0))),(.sc (.string ⟨#[]⟩)),(.sc (.int Go.IntKind.i64 (0))),(.sc (.slice none 0 0))]):=by kernel_rfl
theorem zr_2:zeroD (EE w) 2=some (.sc (.int Go.IntKind.i64 (0))):=by kernel_rfl
theorem zr_3:zeroD (EE w) 3=some (.sc (.int Go.IntKind.i64 (0))):=by kernel_rfl
theorem zr_25:zeroD (EE w) 25=some (.sc (.int Go.IntKind.i64 (0))):=by kernel_rfl
theorem zr_4:zeroD (EE w) 4=some (.sc (.bool false)):=by kernel_rfl
theorem ln_24 {x:AVal}:opBi (EE w) .len [24] σ (some [x])=.ofV σ (aLen (.slice 0) x σ):=bi_len (by kernel_rfl)
theorem ty_2:tyA (EE w) 2=some (false,1):=by kernel_rfl
theorem ty_3:tyA (EE w) 3=some (false,1):=by kernel_rfl
theorem ty_25:tyA (EE w) 25=some (false,1):=by kernel_rfl
theorem ty_4:tyA (EE w) 4=some (false,1):=by kernel_rfl
theorem fn_12:(EE w).fns 12=true:=by kernel_rfl
theorem bd_49 {ps:Array (Nat×Operand)}:aOp (EE w) lit (.build 49 ps) ρ σ=opBuild σ (some ([(0,1),(1,1),(2,1),(3,1)],[(.sc (.map none)),(.sc (.map none)),(.sc (.map none)),(.sc (.int Go.IntKind.i64 (0)))])) (partsSome ρ ps.toList):=op_build (by kernel_rfl)
theorem zr_43:zeroD (EE w) 43=some (.sc (.pointer none)):=by kernel_rfl
theorem ty_43:tyA (EE w) 43=some (false,1):=by kernel_rfl
theorem fa_49_0 {x:Operand}:aOp (EE w) lit (.fieldAddr 49 x 0) ρ σ=opFA σ (some (0,false,1)) (ρ x):=op_fieldAddr (by kernel_rfl)
theorem ty_44:tyA (EE w) 44=some (false,1):=by kernel_rfl
theorem lk_44 {x k:Operand} {ok:Bool}:aOp (EE w) lit (.lookup 44 x k ok) ρ σ=opLk σ .string (.int Go.IntKind.i64 (0)) ok (ρ x) (ρ k):=op_lookup (by kernel_rfl)
theorem ia_24 {x y:Operand}:aOp (EE w) lit (.indexAddr 24 x y) ρ σ=opIA σ ⟨1,8,(.sc (.int Go.IntKind.i64 (0)))⟩ (ρ x) (ρ y):=op_indexAddr (by kernel_rfl)
theorem mu_44 {m k x:Operand}:aOp (EE w) lit (.mapUpdate 44 m k x) ρ σ=opMs σ .string (ρ m) (ρ k) (ρ x):=op_mapUpdate (z:=.int Go.IntKind.i64 (0)) (by kernel_rfl)
theorem fn_13:(EE w).fns 13=true:=by kernel_rfl
theorem ln_33 {x:AVal}:opBi (EE w) .len [33] σ (some [x])=.ofV σ (aLen (.slice 0) x σ):=bi_len (by kernel_rfl)
theorem ia_33 {x y:Operand}:aOp (EE w) lit (.indexAddr 33 x y) ρ σ=opIA σ ⟨3,64,(.agg [(.sc (.string ⟨#[]⟩)),(.sc (.slice none 0 0)),(.sc (.slice none 0 0))])⟩ (ρ x) (ρ y):=op_indexAddr (by kernel_rfl)
theorem ty_54:tyA (EE w) 54=some (true,3):=by kernel_rfl
theorem zr_54:zeroD (EE w) 54=some (.agg [(.sc (.string ⟨#[]⟩)),(.sc (.slice none 0 0)),(.sc (.slice none 0 0))]):=by kernel_rfl
theorem fa_49_1 {x:Operand}:aOp (EE w) lit (.fieldAddr 49 x 1) ρ σ=opFA σ (some (1,false,1)) (ρ x):=op_fieldAddr (by kernel_rfl)
theorem ty_45:tyA (EE w) 45=some (false,1):=by kernel_rfl
theorem fa_54_0 {x:Operand}:aOp (EE w) lit (.fieldAddr 54 x 0) ρ σ=opFA σ (some (0,false,1)) (ρ x):=op_fieldAddr (by kernel_rfl)
theorem mu_45 {m k x:Operand}:aOp (EE w) lit (.mapUpdate 45 m k x) ρ σ=opMs σ .string (ρ m) (ρ k) (ρ x):=op_mapUpdate (z:=.agg #[.string ⟨#[]⟩,.slice none 0 0,.slice none 0 0]) (by kernel_rfl)
theorem fn_15:(EE w).fns 15=true:=by kernel_rfl
theorem fa_49_3 {x:Operand}:aOp (EE w) lit (.fieldAddr 49 x 3) ρ σ=opFA σ (some (3,false,1)) (ρ x):=op_fieldAddr (by kernel_rfl)
theorem mi_46 {m k x:Operand}:aOp (EE w) lit (.insert 46 m k x) ρ σ=opMs σ (.int Go.IntKind.i64) (ρ m) (ρ k) (ρ x):=op_insert (z:=.nilFunc) (by kernel_rfl)
theorem ifc_20:ifcD (EE w) 20=some true:=by kernel_rfl
theorem as_56 {x:Operand}:aOp (EE w) lit (.typeAssert x 20 56 true) ρ σ=opAs σ (.agg #[.int Go.IntKind.i64 (0)]) 56 (ρ x):=op_assert (by kernel_rfl)
theorem zr_56:zeroD (EE w) 56=some (.agg [(.sc (.int Go.IntKind.i64 (0)))]):=by kernel_rfl
theorem ty_56:tyA (EE w) 56=some (true,1):=by kernel_rfl
theorem fa_56_0 {x:Operand}:aOp (EE w) lit (.fieldAddr 56 x 0) ρ σ=opFA σ (some (0,false,1)) (ρ x):=op_fieldAddr (by kernel_rfl)
theorem fn_40:(EE w).fns 40=true:=by kernel_rfl
theorem fa_30_0 {x:Operand}:aOp (EE w) lit (.fieldAddr 30 x 0) ρ σ=opFA σ (some (0,false,1)) (ρ x):=op_fieldAddr (by kernel_rfl)
theorem fa_30_2 {x:Operand}:aOp (EE w) lit (.fieldAddr 30 x 2) ρ σ=opFA σ (some (2,false,1)) (ρ x):=op_fieldAddr (by kernel_rfl)
theorem fa_30_1 {x:Operand}:aOp (EE w) lit (.fieldAddr 30 x 1) ρ σ=opFA σ (some (1,false,1)) (ρ x):=op_fieldAddr (by kernel_rfl)
theorem lk_77 {x k:Operand} {ok:Bool}:aOp (EE w) lit (.lookup 77 x k ok) ρ σ=opLk σ .string (.int Go.IntKind.i64 (0)) ok (ρ x) (ρ k):=op_lookup (by kernel_rfl)
theorem fa_30_3 {x:Operand}:aOp (EE w) lit (.fieldAddr 30 x 3) ρ σ=opFA σ (some (3,false,1)) (ρ x):=op_fieldAddr (by kernel_rfl)
theorem ty_28:tyA (EE w) 28=some (false,1):=by kernel_rfl
theorem ia_28 {x y:Operand}:aOp (EE w) lit (.indexAddr 28 x y) ρ σ=opIA σ ⟨4,56,(.agg [(.sc (.int Go.IntKind.i64 (0))),(.sc (.string ⟨#[]⟩)),(.sc (.int Go.IntKind.i64 (0))),(.sc (.slice none 0 0))])⟩ (ρ x) (ρ y):=op_indexAddr (by kernel_rfl)
theorem fn_25:(EE w).fns 25=true:=by kernel_rfl
theorem zr_78:zeroD (EE w) 78=some (.agg [(.sc (.int Go.IntKind.i64 (0))),(.sc (.int Go.IntKind.i64 (0))),(.sc (.int Go.IntKind.i64 (0))),(.sc (.int Go.IntKind.i64 (0)))]):=by kernel_rfl
theorem ln_28 {x:AVal}:opBi (EE w) .len [28] σ (some [x])=.ofV σ (aLen (.slice 0) x σ):=bi_len (by kernel_rfl)
theorem ia_78 {x y:Operand}:aOp (EE w) lit (.indexAddr 78 x y) ρ σ=opIAA σ (4,1) (ρ x) (ρ y):=op_indexAddrA (by kernel_rfl)
theorem lk_45 {x k:Operand} {ok:Bool}:aOp (EE w) lit (.lookup 45 x k ok) ρ σ=opLk σ .string (.agg #[.string ⟨#[]⟩,.slice none 0 0,.slice none 0 0]) ok (ρ x) (ρ k):=op_lookup (by kernel_rfl)
theorem fa_54_1 {x:Operand}:aOp (EE w) lit (.fieldAddr 54 x 1) ρ σ=opFA σ (some (1,false,1)) (ρ x):=op_fieldAddr (by kernel_rfl)
theorem ty_23:tyA (EE w) 23=some (false,1):=by kernel_rfl
theorem mu_77 {m k x:Operand}:aOp (EE w) lit (.mapUpdate 77 m k x) ρ σ=opMs σ .string (ρ m) (ρ k) (ρ x):=op_mapUpdate (z:=.int Go.IntKind.i64 (0)) (by kernel_rfl)
theorem fa_54_2 {x:Operand}:aOp (EE w) lit (.fieldAddr 54 x 2) ρ σ=opFA σ (some (2,false,1)) (ρ x):=op_fieldAddr (by kernel_rfl)
theorem ty_52:tyA (EE w) 52=some (false,1):=by kernel_rfl
theorem fn_41:(EE w).fns 41=true:=by kernel_rfl
theorem fa_49_2 {x:Operand}:aOp (EE w) lit (.fieldAddr 49 x 2) ρ σ=opFA σ (some (2,false,1)) (ρ x):=op_fieldAddr (by kernel_rfl)
theorem ty_46:tyA (EE w) 46=some (false,1):=by kernel_rfl
theorem lk_46 {x k:Operand} {ok:Bool}:aOp (EE w) lit (.lookup 46 x k ok) ρ σ=opLk σ (.int Go.IntKind.i64) (.nilFunc) ok (ρ x) (ρ k):=op_lookup (by kernel_rfl)
theorem bd_56 {ps:Array (Nat×Operand)}:aOp (EE w) lit (.build 56 ps) ρ σ=opBuild σ (some ([(0,1)],[(.sc (.int Go.IntKind.i64 (0)))])) (partsSome ρ ps.toList):=op_build (by kernel_rfl)
theorem mkI_56 {x:Operand}:aOp (EE w) lit (.makeInterface 56 x) ρ σ=opMkI 56 σ (ρ x):=op_mkI (by kernel_rfl)
theorem ap_23 {a x:AVal}:opBi (EE w) .append [23,23] σ (some [a,x])=opApp (EE w) 23 σ ⟨1,16,(.sc (.string ⟨#[]⟩))⟩ a (aSrc 1 x σ):=bi_append (by kernel_rfl)
theorem ty_70:tyA (EE w) 70=some (false,1):=by kernel_rfl
theorem zr_23:zeroD (EE w) 23=some (.sc (.slice none 0 0)):=by kernel_rfl
theorem ln_52 {x:AVal}:opBi (EE w) .len [52] σ (some [x])=.ofV σ (aLen (.slice 0) x σ):=bi_len (by kernel_rfl)
theorem ia_52 {x y:Operand}:aOp (EE w) lit (.indexAddr 52 x y) ρ σ=opIA σ ⟨8,128,(.agg [(.sc (.int Go.IntKind.i64 (0))),(.sc (.string ⟨#[]⟩)),(.sc (.int Go.IntKind.i64 (0))),(.sc (.string ⟨#[]⟩)),(.sc (.int Go.IntKind.i64 (0))),(.sc (.slice none 0 0)),(.sc (.slice none 0 0)),(.sc (.slice none 0 0))])⟩ (ρ x) (ρ y):=op_indexAddr (by kernel_rfl)
theorem ty_103:tyA (EE w) 103=some (true,8):=by kernel_rfl
theorem zr_103:zeroD (EE w) 103=some (.agg [(.sc (.int Go.IntKind.i64 (0))),(.sc (.string ⟨#[]⟩)),(.sc (.int Go.IntKind.i64 (0))),(.sc (.string ⟨#[]⟩)),(.sc (.int Go.IntKind.i64 (0))),(.sc (.slice none 0 0)),(.sc (.slice none 0 0)),(.sc (.slice none 0 0))]):=by kernel_rfl
theorem fa_103_2 {x:Operand}:aOp (EE w) lit (.fieldAddr 103 x 2) ρ σ=opFA σ (some (2,true,4)) (ρ x):=op_fieldAddr (by kernel_rfl)
theorem ty_77:tyA (EE w) 77=some (false,1):=by kernel_rfl
theorem fa_103_0 {x:Operand}:aOp (EE w) lit (.fieldAddr 103 x 0) ρ σ=opFA σ (some (0,false,1)) (ρ x):=op_fieldAddr (by kernel_rfl)
theorem fa_103_1 {x:Operand}:aOp (EE w) lit (.fieldAddr 103 x 1) ρ σ=opFA σ (some (1,false,1)) (ρ x):=op_fieldAddr (by kernel_rfl)
theorem fa_103_3 {x:Operand}:aOp (EE w) lit (.fieldAddr 103 x 3) ρ σ=opFA σ (some (6,false,1)) (ρ x):=op_fieldAddr (by kernel_rfl)
theorem fa_103_4 {x:Operand}:aOp (EE w) lit (.fieldAddr 103 x 4) ρ σ=opFA σ (some (7,false,1)) (ρ x):=op_fieldAddr (by kernel_rfl)
theorem de_77_9 {m k:AVal}:opBi (EE w) .delete [77,9] σ (some [m,k])=ofD (aMapDel .string m k σ):=bi_delete (z:=.int Go.IntKind.i64 (0)) (by kernel_rfl)
theorem fn_83:(EE w).fns 83=true:=by kernel_rfl
theorem ixa_119 {x y:Operand}:aOp (EE w) lit (.index 119 x y) ρ σ=opIxA σ (6,false,1) (ρ x) (ρ y):=op_index_arr (by kernel_rfl)
theorem rg_97 {x:Operand}:aOp (EE w) lit (.range 97 x) ρ σ=opRgM σ (ρ x):=op_rangeM (by kernel_rfl)
theorem zr_119:zeroD (EE w) 119=some (.agg [(.sc (.map none)),(.sc (.map none)),(.sc (.map none)),(.sc (.map none)),(.sc (.map none)),(.sc (.map none))]):=by kernel_rfl
theorem mi_97 {m k x:Operand}:aOp (EE w) lit (.insert 97 m k x) ρ σ=opMs σ .string (ρ m) (ρ k) (ρ x):=op_insert (z:=.int Go.IntKind.i64 (0)) (by kernel_rfl)
theorem ba_119 {ps:Array (Nat×Operand)}:aOp (EE w) lit (.build 119 ps) ρ σ=opBuildA σ (1,.agg #[.map none,.map none,.map none,.map none,.map none,.map none]) (partsSome ρ ps.toList):=op_buildA (by kernel_rfl)
theorem ty_119:tyA (EE w) 119=some (true,6):=by kernel_rfl
attribute [go_sem] fn_4 bs_23 ln_23 ia_23 ty_9 fn_6 fn_5 ty_30 fn_9 zr_30 zr_2 zr_3 zr_25 zr_4 ln_24 ty_2 ty_3 ty_25 ty_4 fn_12 bd_49 zr_43 ty_43 fa_49_0 ty_44 lk_44 ia_24 mu_44 fn_13 ln_33 ia_33 ty_54 zr_54 fa_49_1 ty_45 fa_54_0 mu_45 fn_15 fa_49_3 mi_46 ifc_20 as_56 zr_56 ty_56 fa_56_0 fn_40 fa_30_0 fa_30_2 fa_30_1 lk_77 fa_30_3 ty_28 ia_28 fn_25 zr_78 ln_28 ia_78 lk_45 fa_54_1 ty_23 mu_77 fa_54_2 ty_52 fn_41 fa_49_2 ty_46 lk_46 bd_56 mkI_56 ap_23 ty_70 zr_23 ln_52 ia_52 ty_103 zr_103 fa_103_2 ty_77 fa_103_0 fa_103_1 fa_103_3 fa_103_4 de_77_9 fn_83 ixa_119 rg_97 zr_119 mi_97 ba_119 ty_119
theorem of_3 (hn:Nat.ble args.length 50=true) (hl:Nat.blt args.length 1000=true) {c:Code} (hc:Try.f3.body=some c) (hk:okC 50 c=true) (h:V (EE ⟨w.w,[]⟩) 50 c (vFin (EE ⟨w.w,[]⟩) [.tmp 6] R) (initE args 0) σ):ACalls (EE w) 3 args σ R:=
 ACalls.of_V' (E:=EE w) (E':=EE ⟨w.w,[]⟩) (n:=50) rfl rfl Try.f3 c _ Try.func3 hc (by kernel_rfl) (by kernel_rfl) hk hn hl h
theorem of_5 (hn:Nat.ble args.length 26=true) (hl:Nat.blt args.length 1000=true) {c:Code} (hc:Try.f5.body=some c) (hk:okC 26 c=true) (h:V (EE ⟨w.w,[]⟩) 26 c (vFin (EE ⟨w.w,[]⟩) [.tmp 8,.tmp 9] R) (initE args 0) σ):ACalls (EE w) 5 args σ R:=
 ACalls.of_V' (E:=EE w) (E':=EE ⟨w.w,[]⟩) (n:=26) rfl rfl Try.f5 c _ Try.func5 hc (by kernel_rfl) (by kernel_rfl) hk hn hl h
theorem ot_9 (hn:Nat.ble args.length 101=true) (hl:Nat.blt args.length 1000=true) {c:Code} (hc:Try.f9.body=some c) (hk:okC 101 c=true) (h:Top (EE ⟨w.w,[]⟩) 101 c (aEndD (EE ⟨w.w,[]⟩) Try.f9 R) (initE args 0) σ):ACalls (EE w) 9 args σ R:=
 ACalls.of_Top (E:=EE w) (E':=EE ⟨w.w,[]⟩) (n:=101) rfl rfl Try.f9 c Try.func9 hc (by kernel_rfl) hk hn hl h
theorem of_12 (hn:Nat.ble args.length 8=true) (hl:Nat.blt args.length 1000=true) {c:Code} (hc:Try.f12.body=some c) (hk:okC 8 c=true) (h:V (EE ⟨w.w,[]⟩) 8 c (vFin (EE ⟨w.w,[]⟩) [.tmp 0] R) (initE args 0) σ):ACalls (EE w) 12 args σ R:=
 ACalls.of_V' (E:=EE w) (E':=EE ⟨w.w,[]⟩) (n:=8) rfl rfl Try.f12 c _ Try.func12 hc (by kernel_rfl) (by kernel_rfl) hk hn hl h
theorem of_15 (hn:Nat.ble args.length 181=true) (hl:Nat.blt args.length 1000=true) {c:Code} (hc:Try.f15.body=some c) (hk:okC 181 c=true) (h:V (EE ⟨w.w,[]⟩) 181 c (vFin (EE ⟨w.w,[]⟩) [.tmp 6] R) (initE args 0) σ):ACalls (EE w) 15 args σ R:=
 ACalls.of_V' (E:=EE w) (E':=EE ⟨w.w,[]⟩) (n:=181) rfl rfl Try.f15 c _ Try.func15 hc (by kernel_rfl) (by kernel_rfl) hk hn hl h
theorem of_21 (hn:Nat.ble args.length 4=true) (hl:Nat.blt args.length 1000=true) {c:Code} (hc:Try.f21.body=some c) (hk:okC 4 c=true) (h:V (EE ⟨w.w,[]⟩) 4 c (vFin (EE ⟨w.w,[]⟩) [.tmp 2] R) (initE args 0) σ):ACalls (EE w) 21 args σ R:=
 ACalls.of_V' (E:=EE w) (E':=EE ⟨w.w,[]⟩) (n:=4) rfl rfl Try.f21 c _ Try.func21 hc (by kernel_rfl) (by kernel_rfl) hk hn hl h
theorem of_22 (hn:Nat.ble args.length 14=true) (hl:Nat.blt args.length 1000=true) {c:Code} (hc:Try.f22.body=some c) (hk:okC 14 c=true) (h:V (EE ⟨w.w,[]⟩) 14 c (vFin (EE ⟨w.w,[]⟩) [.tmp 5] R) (initE args 0) σ):ACalls (EE w) 22 args σ R:=
 ACalls.of_V' (E:=EE w) (E':=EE ⟨w.w,[]⟩) (n:=14) rfl rfl Try.f22 c _ Try.func22 hc (by kernel_rfl) (by kernel_rfl) hk hn hl h
theorem of_23 (hn:Nat.ble args.length 7=true) (hl:Nat.blt args.length 1000=true) {c:Code} (hc:Try.f23.body=some c) (hk:okC 7 c=true) (h:V (EE ⟨w.w,[]⟩) 7 c (vFin (EE ⟨w.w,[]⟩) [.tmp 4] R) (initE args 0) σ):ACalls (EE w) 23 args σ R:=
 ACalls.of_V' (E:=EE w) (E':=EE ⟨w.w,[]⟩) (n:=7) rfl rfl Try.f23 c _ Try.func23 hc (by kernel_rfl) (by kernel_rfl) hk hn hl h
theorem of_24 (hn:Nat.ble args.length 8=true) (hl:Nat.blt args.length 1000=true) {c:Code} (hc:Try.f24.body=some c) (hk:okC 8 c=true) (h:V (EE ⟨w.w,[]⟩) 8 c (vFin (EE ⟨w.w,[]⟩) [.tmp 4] R) (initE args 0) σ):ACalls (EE w) 24 args σ R:=
 ACalls.of_V' (E:=EE w) (E':=EE ⟨w.w,[]⟩) (n:=8) rfl rfl Try.f24 c _ Try.func24 hc (by kernel_rfl) (by kernel_rfl) hk hn hl h
theorem of_25 (hn:Nat.ble args.length 4=true) (hl:Nat.blt args.length 1000=true) {c:Code} (hc:Try.f25.body=some c) (hk:okC 4 c=true) (h:V (EE ⟨w.w,[]⟩) 4 c (vFin (EE ⟨w.w,[]⟩) [.tmp 2] R) (initE args 0) σ):ACalls (EE w) 25 args σ R:=
 ACalls.of_V' (E:=EE w) (E':=EE ⟨w.w,[]⟩) (n:=4) rfl rfl Try.f25 c _ Try.func25 hc (by kernel_rfl) (by kernel_rfl) hk hn hl h
theorem of_26 (hn:Nat.ble args.length 8=true) (hl:Nat.blt args.length 1000=true) {c:Code} (hc:Try.f26.body=some c) (hk:okC 8 c=true) (h:V (EE ⟨w.w,[]⟩) 8 c (vFin (EE ⟨w.w,[]⟩) [.tmp 4] R) (initE args 0) σ):ACalls (EE w) 26 args σ R:=
 ACalls.of_V' (E:=EE w) (E':=EE ⟨w.w,[]⟩) (n:=8) rfl rfl Try.f26 c _ Try.func26 hc (by kernel_rfl) (by kernel_rfl) hk hn hl h
theorem of_27 (hn:Nat.ble args.length 8=true) (hl:Nat.blt args.length 1000=true) {c:Code} (hc:Try.f27.body=some c) (hk:okC 8 c=true) (h:V (EE ⟨w.w,[]⟩) 8 c (vFin (EE ⟨w.w,[]⟩) [.tmp 4] R) (initE args 0) σ):ACalls (EE w) 27 args σ R:=
 ACalls.of_V' (E:=EE w) (E':=EE ⟨w.w,[]⟩) (n:=8) rfl rfl Try.f27 c _ Try.func27 hc (by kernel_rfl) (by kernel_rfl) hk hn hl h
theorem of_28 (hn:Nat.ble args.length 8=true) (hl:Nat.blt args.length 1000=true) {c:Code} (hc:Try.f28.body=some c) (hk:okC 8 c=true) (h:V (EE ⟨w.w,[]⟩) 8 c (vFin (EE ⟨w.w,[]⟩) [.tmp 4] R) (initE args 0) σ):ACalls (EE w) 28 args σ R:=
 ACalls.of_V' (E:=EE w) (E':=EE ⟨w.w,[]⟩) (n:=8) rfl rfl Try.f28 c _ Try.func28 hc (by kernel_rfl) (by kernel_rfl) hk hn hl h
theorem of_29 (hn:Nat.ble args.length 8=true) (hl:Nat.blt args.length 1000=true) {c:Code} (hc:Try.f29.body=some c) (hk:okC 8 c=true) (h:V (EE ⟨w.w,[]⟩) 8 c (vFin (EE ⟨w.w,[]⟩) [.tmp 4] R) (initE args 0) σ):ACalls (EE w) 29 args σ R:=
 ACalls.of_V' (E:=EE w) (E':=EE ⟨w.w,[]⟩) (n:=8) rfl rfl Try.f29 c _ Try.func29 hc (by kernel_rfl) (by kernel_rfl) hk hn hl h
theorem of_30 (hn:Nat.ble args.length 8=true) (hl:Nat.blt args.length 1000=true) {c:Code} (hc:Try.f30.body=some c) (hk:okC 8 c=true) (h:V (EE ⟨w.w,[]⟩) 8 c (vFin (EE ⟨w.w,[]⟩) [.tmp 4] R) (initE args 0) σ):ACalls (EE w) 30 args σ R:=
 ACalls.of_V' (E:=EE w) (E':=EE ⟨w.w,[]⟩) (n:=8) rfl rfl Try.f30 c _ Try.func30 hc (by kernel_rfl) (by kernel_rfl) hk hn hl h
theorem of_31 (hn:Nat.ble args.length 9=true) (hl:Nat.blt args.length 1000=true) {c:Code} (hc:Try.f31.body=some c) (hk:okC 9 c=true) (h:V (EE ⟨w.w,[]⟩) 9 c (vFin (EE ⟨w.w,[]⟩) [.tmp 4] R) (initE args 0) σ):ACalls (EE w) 31 args σ R:=
 ACalls.of_V' (E:=EE w) (E':=EE ⟨w.w,[]⟩) (n:=9) rfl rfl Try.f31 c _ Try.func31 hc (by kernel_rfl) (by kernel_rfl) hk hn hl h
theorem of_32 (hn:Nat.ble args.length 9=true) (hl:Nat.blt args.length 1000=true) {c:Code} (hc:Try.f32.body=some c) (hk:okC 9 c=true) (h:V (EE ⟨w.w,[]⟩) 9 c (vFin (EE ⟨w.w,[]⟩) [.tmp 4] R) (initE args 0) σ):ACalls (EE w) 32 args σ R:=
 ACalls.of_V' (E:=EE w) (E':=EE ⟨w.w,[]⟩) (n:=9) rfl rfl Try.f32 c _ Try.func32 hc (by kernel_rfl) (by kernel_rfl) hk hn hl h
theorem of_33 (hn:Nat.ble args.length 9=true) (hl:Nat.blt args.length 1000=true) {c:Code} (hc:Try.f33.body=some c) (hk:okC 9 c=true) (h:V (EE ⟨w.w,[]⟩) 9 c (vFin (EE ⟨w.w,[]⟩) [.tmp 4] R) (initE args 0) σ):ACalls (EE w) 33 args σ R:=
 ACalls.of_V' (E:=EE w) (E':=EE ⟨w.w,[]⟩) (n:=9) rfl rfl Try.f33 c _ Try.func33 hc (by kernel_rfl) (by kernel_rfl) hk hn hl h
theorem of_34 (hn:Nat.ble args.length 9=true) (hl:Nat.blt args.length 1000=true) {c:Code} (hc:Try.f34.body=some c) (hk:okC 9 c=true) (h:V (EE ⟨w.w,[]⟩) 9 c (vFin (EE ⟨w.w,[]⟩) [.tmp 4] R) (initE args 0) σ):ACalls (EE w) 34 args σ R:=
 ACalls.of_V' (E:=EE w) (E':=EE ⟨w.w,[]⟩) (n:=9) rfl rfl Try.f34 c _ Try.func34 hc (by kernel_rfl) (by kernel_rfl) hk hn hl h
theorem of_35 (hn:Nat.ble args.length 9=true) (hl:Nat.blt args.length 1000=true) {c:Code} (hc:Try.f35.body=some c) (hk:okC 9 c=true) (h:V (EE ⟨w.w,[]⟩) 9 c (vFin (EE ⟨w.w,[]⟩) [.tmp 4] R) (initE args 0) σ):ACalls (EE w) 35 args σ R:=
 ACalls.of_V' (E:=EE w) (E':=EE ⟨w.w,[]⟩) (n:=9) rfl rfl Try.f35 c _ Try.func35 hc (by kernel_rfl) (by kernel_rfl) hk hn hl h
theorem of_36 (hn:Nat.ble args.length 9=true) (hl:Nat.blt args.length 1000=true) {c:Code} (hc:Try.f36.body=some c) (hk:okC 9 c=true) (h:V (EE ⟨w.w,[]⟩) 9 c (vFin (EE ⟨w.w,[]⟩) [.tmp 4] R) (initE args 0) σ):ACalls (EE w) 36 args σ R:=
 ACalls.of_V' (E:=EE w) (E':=EE ⟨w.w,[]⟩) (n:=9) rfl rfl Try.f36 c _ Try.func36 hc (by kernel_rfl) (by kernel_rfl) hk hn hl h
theorem of_40 (hn:Nat.ble args.length 16=true) (hl:Nat.blt args.length 1000=true) {c:Code} (hc:Try.f40.body=some c) (hk:okC 16 c=true) (h:V (EE ⟨w.w,[]⟩) 16 c (vFin (EE ⟨w.w,[]⟩) [] R) (initE args 0) σ):ACalls (EE w) 40 args σ R:=
 ACalls.of_V' (E:=EE w) (E':=EE ⟨w.w,[]⟩) (n:=16) rfl rfl Try.f40 c _ Try.func40 hc (by kernel_rfl) (by kernel_rfl) hk hn hl h
theorem ot_41 (hn:Nat.ble args.length 90=true) (hl:Nat.blt args.length 1000=true) {c:Code} (hc:Try.f41.body=some c) (hk:okC 90 c=true) (h:Top (EE ⟨w.w,[]⟩) 90 c (aEndD (EE ⟨w.w,[]⟩) Try.f41 R) (initE args 0) σ):ACalls (EE w) 41 args σ R:=
 ACalls.of_Top (E:=EE w) (E':=EE ⟨w.w,[]⟩) (n:=90) rfl rfl Try.f41 c Try.func41 hc (by kernel_rfl) hk hn hl h
theorem od_58 (hn:Nat.ble args.length 13=true) (hl:Nat.blt args.length 1000=true) {c:Code} (hc:Try.f58.body=some c) (hk:okC 13 c=true) (h:V (EE ⟨w.w,[]⟩) 13 c (vFin (EE ⟨w.w,[]⟩) [] R) (initE args 0) σ):ACallsD (EE w) 58 args σ R:=
 ACallsD.of_V' (E:=EE w) (E':=EE ⟨w.w,[]⟩) (n:=13) rfl rfl Try.f58 c _ Try.func58 hc (by kernel_rfl) (by kernel_rfl) hk hn hl h
theorem of_65 (hn:Nat.ble args.length 26=true) (hl:Nat.blt args.length 1000=true) {c:Code} (hc:Try.f65.body=some c) (hk:okC 26 c=true) (h:V (EE ⟨w.w,[]⟩) 26 c (vFin (EE ⟨w.w,[]⟩) [.tmp 2,.tmp 3] R) (initE args 0) σ):ACalls (EE w) 65 args σ R:=
 ACalls.of_V' (E:=EE w) (E':=EE ⟨w.w,[]⟩) (n:=26) rfl rfl Try.f65 c _ Try.func65 hc (by kernel_rfl) (by kernel_rfl) hk hn hl h
theorem of_83 (hn:Nat.ble args.length 12=true) (hl:Nat.blt args.length 1000=true) {c:Code} (hc:Try.f83.body=some c) (hk:okC 12 c=true) (h:V (EE ⟨w.w,[]⟩) 12 c (vFin (EE ⟨w.w,[]⟩) [.cell 0 119] R) (initE args 0) σ):ACalls (EE w) 83 args σ R:=
 ACalls.of_V' (E:=EE w) (E':=EE ⟨w.w,[]⟩) (n:=12) rfl rfl Try.f83 c _ Try.func83 hc (by kernel_rfl) (by kernel_rfl) hk hn hl h
end
end Abs
namespace Abs
set_option linter.unusedSimpArgs false
set_option linter.unusedVariables false
set_option maxRecDepth 100000
set_option maxHeartbeats 16000000
open Go
instance:LawfulBEq ByteArray where
 eq_of_beq h:=by rw [ba_beq] at h; exact of_decide_eq_true h
 rfl {a}:=by rw [ba_beq]; exact dct rfl
inductive Ex where
 | mk (k:Int) (nm:ByteArray) (i:Int) (zs:List Ex)
inductive St where
 | mk (k:Int) (nm:ByteArray) (v:Ex) (body els:List St)
structure Fc where
 nm:ByteArray
 ps:List ByteArray
 body:List St
def sA (s:ByteArray):AVal:=.sc (.string s)
mutual
def IsEx:Ex->AVal->Prop
 | .mk k nm i zs,v=>∃ S els,v=.agg [(.sc (.int .i64 (k))),.sc (.string nm),(.sc (.int .i64 (i))),S]/\IsD 4 S els/\IsExs zs els/\in64 k/\in64 i/\nm.size<=281474976710656/\els.length<=281474976710656
def IsExs:List Ex->List AVal->Prop
 | [],els=>els=[]
 | x::xs,els=>∃ e es,els=e::es/\IsEx x e/\IsExs xs es
end
def Ex.k:Ex->Int|.mk k _ _ _=>k
def Ex.nm:Ex->ByteArray|.mk _ n _ _=>n
def Ex.i:Ex->Int|.mk _ _ i _=>i
def Ex.args:Ex->List Ex|.mk _ _ _ zs=>zs
theorem IsExs.len:∀ {zs:List Ex} {els:List AVal},IsExs zs els->els.length=zs.length
  | [], els, h => by
      simp only [IsExs] at h; subst h; rfl
  | x :: xs, els, h => by
      simp only [IsExs] at h
      obtain ⟨e,es,rfl,_,h⟩:=h
      simp [IsExs.len h]
theorem IsExs.at:∀ {zs:List Ex} {els:List AVal},IsExs zs els->∀ {j:Nat} {x:Ex},zs[j]?=some x->∃ e,els[j]?=some e/\IsEx x e
  | [],els,h,j,x,hx=>by simp at hx
  | y :: xs, els, h, j, x, hx => by
      simp only [IsExs] at h
      obtain ⟨e,es,rfl,h1,h⟩:=h
      cases j with
      | zero=>simp at hx; subst hx; exact ⟨e,rfl,h1⟩
      | succ j=>simpa using IsExs.at h (by simpa using hx)
mutual
def IsSt:St->AVal->Prop
  | .mk k nm v body els, w => ∃ SA SB SE ea eb ee, w = .agg [(.sc (.int .i64 (k))), .sc (.string nm), (.sc (.int .i64 (v.k))), .sc (.string v.nm), (.sc (.int .i64 (v.i))), SA, SB, SE] ∧ IsD 4 SA ea ∧ IsExs v.args ea ∧ IsD 8 SB eb ∧ IsSts body eb ∧ IsD 8 SE ee ∧ IsSts els ee ∧
      in64 k/\in64 v.k/\in64 v.i/\nm.size<=281474976710656/\v.nm.size<=281474976710656/\ea.length<=281474976710656/\eb.length<=281474976710656/\ee.length<=281474976710656
def IsSts:List St->List AVal->Prop
  | [],els=>els=[]
  | x::xs,els=>∃ e es,els=e::es/\IsSt x e/\IsSts xs es
end
theorem IsSts.len:∀ {zs:List St} {els:List AVal},IsSts zs els->els.length=zs.length
  | [], els, h => by
      simp only [IsSts] at h; subst h; rfl
  | x :: xs, els, h => by
      simp only [IsSts] at h
      obtain ⟨e,es,rfl,_,h⟩:=h
      simp [IsSts.len h]
theorem IsSts.at:∀ {zs:List St} {els:List AVal},IsSts zs els->∀ {j:Nat} {x:St},zs[j]?=some x->∃ e,els[j]?=some e/\IsSt x e
  | [],els,h,j,x,hx=>by simp at hx
  | y :: xs, els, h, j, x, hx => by
      simp only [IsSts] at h
      obtain ⟨e,es,rfl,h1,h⟩:=h
      cases j with
      | zero=>simp at hx; subst hx; exact ⟨e,rfl,h1⟩
      | succ j=>simpa using IsSts.at h (by simpa using hx)
def IsFc (f:Fc) (w:AVal):Prop:=∃ SP SB eb,w=.agg [.sc (.string f.nm),SP,SB]/\IsD 1 SP (f.ps.map sA)/\IsD 8 SB eb/\IsSts f.body eb/\f.nm.size<=281474976710656/\(∀ p∈f.ps,p.size<=281474976710656)/\f.ps.length<=281474976710656/\eb.length<=281474976710656
mutual
theorem IsEx.wf:∀ {x:Ex} {v:AVal},IsEx x v->WF 0 v
  | .mk k nm i zs, v, h => by
      simp only [IsEx] at h
      obtain ⟨S,els,rfl,hS,hs,_⟩:=h
      exact .agg _ (.cons _ _ (.sc _) (.cons _ _ (.sc _) (.cons _ _ (.sc _) (.cons _ _ (hS.wf (IsExs.wf hs)) .nil))))
theorem IsExs.wf:∀ {zs:List Ex} {els:List AVal},IsExs zs els->WFs 0 els
  | [],els,h=>by simp only [IsExs] at h; subst h; exact .nil
  | x :: xs, els, h => by
      simp only [IsExs] at h
      obtain ⟨e,es,rfl,h1,h⟩:=h
      exact .cons _ _ (IsEx.wf h1) (IsExs.wf h)
end
mutual
theorem IsSt.wf:∀ {x:St} {v:AVal},IsSt x v->WF 0 v
  | .mk k nm w body els, v, h => by
      simp only [IsSt] at h
      obtain ⟨SA,SB,SE,ea,eb,ee,rfl,hA,ha,hB,hb,hE,he,_⟩:=h
      exact .agg _ (.cons _ _ (.sc _) (.cons _ _ (.sc _) (.cons _ _ (.sc _) (.cons _ _ (.sc _) (.cons _ _ (.sc _) (.cons _ _ (hA.wf (IsExs.wf ha)) (.cons _ _ (hB.wf (IsSts.wf hb)) (.cons _ _ (hE.wf (IsSts.wf he)) .nil))))))))
theorem IsSts.wf:∀ {zs:List St} {els:List AVal},IsSts zs els->WFs 0 els
  | [],els,h=>by simp only [IsSts] at h; subst h; exact .nil
  | x :: xs, els, h => by
      simp only [IsSts] at h
      obtain ⟨e,es,rfl,h1,h⟩:=h
      exact .cons _ _ (IsSt.wf h1) (IsSts.wf h)
end
theorem wf_sA (l:List ByteArray):WFs 0 (l.map sA):=WFs.map fun _=>.sc _
theorem IsFc.wf {f:Fc} {w:AVal} (h:IsFc f w):WF 0 w:=by
 obtain ⟨SP,SB,eb,rfl,hP,hB,hb,_⟩:=h
 exact .agg _ (.cons _ _ (.sc _) (.cons _ _ (hP.wf (wf_sA _)) (.cons _ _ (hB.wf (IsSts.wf hb)) .nil)))
end Abs
namespace Abs
set_option linter.unusedSimpArgs false
set_option linter.unusedVariables false
set_option maxRecDepth 100000
set_option maxHeartbeats 16000000
open Go
/-- How many parts a kind may have. -/
def arityB (k:Int) (n:Nat):Bool:=
 if k=1\/k=2 then decide (n=0)
 else if k=3\/k=4 then decide (n=1)
 else if 5<=k/\k<=17 then decide (n=2)
 else if k=18 then decide (n=3)
 else decide (k=19)
variable (nameB:ByteArray->Bool)
mutual
def nodesE:Ex->Nat
 | .mk _ _ _ zs=>1+nodesEs zs
def nodesEs:List Ex->Nat
 | []=>0
 | x::xs=>nodesE x+nodesEs xs
end
def fcOf (l:List Fc) (nm:ByteArray):Option Fc:=l.find? fun f=>decide (f.nm=nm)
end Abs
namespace Abs
set_option linter.unusedSimpArgs false
set_option linter.unusedVariables false
set_option maxRecDepth 100000
set_option maxHeartbeats 16000000
open Go
variable (nameB:ByteArray->Bool)
end Abs
end
