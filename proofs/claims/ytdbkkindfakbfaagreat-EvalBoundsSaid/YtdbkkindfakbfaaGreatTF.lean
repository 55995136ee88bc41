/-
  Functions of the program walked: each is shown to compute a plain function (TF).
-/
import Derived.Test.YtdbkkindfakbfaaGreatProg
import Derived.Test.YtdbkkindfakbfaaGreatAbsDf
import Derived.Test.YtdbkkindfakbfaaGreatAbsTyW
import Derived.KernelRfl
noncomputable section
namespace Abs
set_option linter.unusedSimpArgs false
set_option linter.unusedVariables false
set_option maxRecDepth 100000
set_option maxHeartbeats 16000000
open Go Go.Proofs
noncomputable def EE (w:WD):Env:={Env.of Tryz.prog w.w with ds:=w.ds}
section
variable {w:WD} {lit:Bool} {ρ:ARho} {σ:AStore} {args:List AVal} {R:AEnd->AStore->Prop}
theorem fn_5:(EE w).fns 5=true:=by kernel_rfl
theorem ty_24:tyA (EE w) 24=some (true,4):=by kernel_rfl
theorem ty_28:tyA (EE w) 28=some (true,2):=by kernel_rfl
theorem fn_6:(EE w).fns 6=true:=by kernel_rfl
theorem bs_26 {n:Nat} {ps:Array (Nat×Operand)}:aOp (EE w) lit (.buildSlice 26 n ps) ρ σ=opBuildSl σ lit ⟨1,8,(.sc (.int Go.IntKind.i64 (0)))⟩ n (partsSome ρ ps.toList):=op_buildSlice (by kernel_rfl)
theorem fa_28_1 {x:Operand}:aOp (EE w) lit (.fieldAddr 28 x 1) ρ σ=opFA σ (some (1,false,1)) (ρ x):=op_fieldAddr (by kernel_rfl)
theorem ty_26:tyA (EE w) 26=some (false,1):=by kernel_rfl
theorem ap_26 {a x:AVal}:opBi (EE w) .append [26,26] σ (some [a,x])=opApp (EE w) 26 σ ⟨1,8,(.sc (.int Go.IntKind.i64 (0)))⟩ a (aSrc 1 x σ):=bi_append (by kernel_rfl)
theorem fa_28_0 {x:Operand}:aOp (EE w) lit (.fieldAddr 28 x 0) ρ σ=opFA σ (some (0,false,1)) (ρ x):=op_fieldAddr (by kernel_rfl)
theorem ty_25:tyA (EE w) 25=some (false,1):=by kernel_rfl
theorem fn_7:(EE w).fns 7=true:=by kernel_rfl
theorem fn_9:(EE w).fns 9=true:=by kernel_rfl
theorem fn_12:(EE w).fns 12=true:=by kernel_rfl
theorem bs_25 {n:Nat} {ps:Array (Nat×Operand)}:aOp (EE w) lit (.buildSlice 25 n ps) ρ σ=opBuildSl σ lit ⟨1,16,(.sc (.string ⟨#[]⟩))⟩ n (partsSome ρ ps.toList):=op_buildSlice (by kernel_rfl)
theorem ap_25 {a x:AVal}:opBi (EE w) .append [25,25] σ (some [a,x])=opApp (EE w) 25 σ ⟨1,16,(.sc (.string ⟨#[]⟩))⟩ a (aSrc 1 x σ):=bi_append (by kernel_rfl)
theorem fn_13:(EE w).fns 13=true:=by kernel_rfl
theorem fn_16:(EE w).fns 16=true:=by kernel_rfl
theorem fn_17:(EE w).fns 17=true:=by kernel_rfl
theorem ln_26 {x:AVal}:opBi (EE w) .len [26] σ (some [x])=.ofV σ (aLen (.slice 0) x σ):=bi_len (by kernel_rfl)
theorem fn_18:(EE w).fns 18=true:=by kernel_rfl
theorem fn_19:(EE w).fns 19=true:=by kernel_rfl
theorem ia_26 {x y:Operand}:aOp (EE w) lit (.indexAddr 26 x y) ρ σ=opIA σ ⟨1,8,(.sc (.int Go.IntKind.i64 (0)))⟩ (ρ x) (ρ y):=op_indexAddr (by kernel_rfl)
theorem ty_2:tyA (EE w) 2=some (false,1):=by kernel_rfl
theorem fa_24_3 {x:Operand}:aOp (EE w) lit (.fieldAddr 24 x 3) ρ σ=opFA σ (some (3,false,1)) (ρ x):=op_fieldAddr (by kernel_rfl)
theorem ty_22:tyA (EE w) 22=some (false,1):=by kernel_rfl
theorem ln_22 {x:AVal}:opBi (EE w) .len [22] σ (some [x])=.ofV σ (aLen (.slice 0) x σ):=bi_len (by kernel_rfl)
theorem ia_22 {x y:Operand}:aOp (EE w) lit (.indexAddr 22 x y) ρ σ=opIA σ ⟨4,56,(.agg [(.sc (.int Go.IntKind.i64 (0))),(.sc (.string ⟨#[]⟩)),(.sc (.int Go.IntKind.i64 (0))),(.sc (.slice none 0 0))])⟩ (ρ x) (ρ y):=op_indexAddr (by kernel_rfl)
theorem fa_24_0 {x:Operand}:aOp (EE w) lit (.fieldAddr 24 x 0) ρ σ=opFA σ (some (0,false,1)) (ρ x):=op_fieldAddr (by kernel_rfl)
theorem ty_3:tyA (EE w) 3=some (false,1):=by kernel_rfl
theorem ln_25 {x:AVal}:opBi (EE w) .len [25] σ (some [x])=.ofV σ (aLen (.slice 0) x σ):=bi_len (by kernel_rfl)
theorem ia_25 {x y:Operand}:aOp (EE w) lit (.indexAddr 25 x y) ρ σ=opIA σ ⟨1,16,(.sc (.string ⟨#[]⟩))⟩ (ρ x) (ρ y):=op_indexAddr (by kernel_rfl)
theorem ty_9:tyA (EE w) 9=some (false,1):=by kernel_rfl
theorem zr_24:zeroD (EE w) 24=some (.agg [(.sc (.int Go.IntKind.i64 (0))),(.sc (.string ⟨#[]⟩)),(.sc (.int Go.IntKind.i64 (0))),(.sc (.slice none 0 0))]):=by kernel_rfl
theorem fn_24:(EE w).fns 24=true:=by kernel_rfl
theorem ln_9 {x:AVal}:opBi (EE w) .len [9] σ (some [x])=.ofV σ (aLen .string x σ):=bi_lenS (by kernel_rfl)
theorem ln_29 {x:AVal}:opBi (EE w) .len [29] σ (some [x])=.ofV σ (aLen (.slice 0) x σ):=bi_len (by kernel_rfl)
theorem ia_29 {x y:Operand}:aOp (EE w) lit (.indexAddr 29 x y) ρ σ=opIA σ ⟨3,64,(.agg [(.sc (.string ⟨#[]⟩)),(.sc (.slice none 0 0)),(.sc (.slice none 0 0))])⟩ (ρ x) (ρ y):=op_indexAddr (by kernel_rfl)
theorem fa_57_1 {x:Operand}:aOp (EE w) lit (.fieldAddr 57 x 1) ρ σ=opFA σ (some (1,false,1)) (ρ x):=op_fieldAddr (by kernel_rfl)
theorem fa_57_2 {x:Operand}:aOp (EE w) lit (.fieldAddr 57 x 2) ρ σ=opFA σ (some (2,false,1)) (ρ x):=op_fieldAddr (by kernel_rfl)
theorem ty_55:tyA (EE w) 55=some (false,1):=by kernel_rfl
theorem fa_57_0 {x:Operand}:aOp (EE w) lit (.fieldAddr 57 x 0) ρ σ=opFA σ (some (0,false,1)) (ρ x):=op_fieldAddr (by kernel_rfl)
theorem fn_25:(EE w).fns 25=true:=by kernel_rfl
theorem zr_2:zeroD (EE w) 2=some (.sc (.int Go.IntKind.i64 (0))):=by kernel_rfl
theorem zr_3:zeroD (EE w) 3=some (.sc (.int Go.IntKind.i64 (0))):=by kernel_rfl
theorem zr_32:zeroD (EE w) 32=some (.sc (.int Go.IntKind.i64 (0))):=by kernel_rfl
theorem zr_4:zeroD (EE w) 4=some (.sc (.bool false)):=by kernel_rfl
theorem ty_32:tyA (EE w) 32=some (false,1):=by kernel_rfl
theorem ty_4:tyA (EE w) 4=some (false,1):=by kernel_rfl
theorem fn_26:(EE w).fns 26=true:=by kernel_rfl
theorem bd_65 {ps:Array (Nat×Operand)}:aOp (EE w) lit (.build 65 ps) ρ σ=opBuild σ (some ([(0,1),(1,1),(2,1),(3,1)],[(.sc (.map none)),(.sc (.map none)),(.sc (.map none)),(.sc (.int Go.IntKind.i64 (0)))])) (partsSome ρ ps.toList):=op_build (by kernel_rfl)
theorem zr_59:zeroD (EE w) 59=some (.sc (.pointer none)):=by kernel_rfl
theorem ty_59:tyA (EE w) 59=some (false,1):=by kernel_rfl
theorem fa_65_0 {x:Operand}:aOp (EE w) lit (.fieldAddr 65 x 0) ρ σ=opFA σ (some (0,false,1)) (ρ x):=op_fieldAddr (by kernel_rfl)
theorem ty_60:tyA (EE w) 60=some (false,1):=by kernel_rfl
theorem lk_60 {x k:Operand} {ok:Bool}:aOp (EE w) lit (.lookup 60 x k ok) ρ σ=opLk σ .string (.int Go.IntKind.i64 (0)) ok (ρ x) (ρ k):=op_lookup (by kernel_rfl)
theorem mu_60 {m k x:Operand}:aOp (EE w) lit (.mapUpdate 60 m k x) ρ σ=opMs σ .string (ρ m) (ρ k) (ρ x):=op_mapUpdate (z:=.int Go.IntKind.i64 (0)) (by kernel_rfl)
theorem fn_27:(EE w).fns 27=true:=by kernel_rfl
theorem ty_57:tyA (EE w) 57=some (true,3):=by kernel_rfl
theorem zr_57:zeroD (EE w) 57=some (.agg [(.sc (.string ⟨#[]⟩)),(.sc (.slice none 0 0)),(.sc (.slice none 0 0))]):=by kernel_rfl
theorem fa_65_1 {x:Operand}:aOp (EE w) lit (.fieldAddr 65 x 1) ρ σ=opFA σ (some (1,false,1)) (ρ x):=op_fieldAddr (by kernel_rfl)
theorem ty_61:tyA (EE w) 61=some (false,1):=by kernel_rfl
theorem mu_61 {m k x:Operand}:aOp (EE w) lit (.mapUpdate 61 m k x) ρ σ=opMs σ .string (ρ m) (ρ k) (ρ x):=op_mapUpdate (z:=.agg #[.string ⟨#[]⟩,.slice none 0 0,.slice none 0 0]) (by kernel_rfl)
theorem fn_29:(EE w).fns 29=true:=by kernel_rfl
theorem fa_65_3 {x:Operand}:aOp (EE w) lit (.fieldAddr 65 x 3) ρ σ=opFA σ (some (3,false,1)) (ρ x):=op_fieldAddr (by kernel_rfl)
theorem ty_5:tyA (EE w) 5=some (false,1):=by kernel_rfl
theorem fa_24_1 {x:Operand}:aOp (EE w) lit (.fieldAddr 24 x 1) ρ σ=opFA σ (some (1,false,1)) (ρ x):=op_fieldAddr (by kernel_rfl)
theorem ln_55 {x:AVal}:opBi (EE w) .len [55] σ (some [x])=.ofV σ (aLen (.slice 0) x σ):=bi_len (by kernel_rfl)
theorem ia_55 {x y:Operand}:aOp (EE w) lit (.indexAddr 55 x y) ρ σ=opIA σ ⟨8,128,(.agg [(.sc (.int Go.IntKind.i64 (0))),(.sc (.string ⟨#[]⟩)),(.sc (.int Go.IntKind.i64 (0))),(.sc (.string ⟨#[]⟩)),(.sc (.int Go.IntKind.i64 (0))),(.sc (.slice none 0 0)),(.sc (.slice none 0 0)),(.sc (.slice none 0 0))])⟩ (ρ x) (ρ y):=op_indexAddr (by kernel_rfl)
theorem fa_91_2 {x:Operand}:aOp (EE w) lit (.fieldAddr 91 x 2) ρ σ=opFA σ (some (2,true,4)) (ρ x):=op_fieldAddr (by kernel_rfl)
theorem fa_91_1 {x:Operand}:aOp (EE w) lit (.fieldAddr 91 x 1) ρ σ=opFA σ (some (1,false,1)) (ρ x):=op_fieldAddr (by kernel_rfl)
theorem fa_91_3 {x:Operand}:aOp (EE w) lit (.fieldAddr 91 x 3) ρ σ=opFA σ (some (6,false,1)) (ρ x):=op_fieldAddr (by kernel_rfl)
theorem fa_91_4 {x:Operand}:aOp (EE w) lit (.fieldAddr 91 x 4) ρ σ=opFA σ (some (7,false,1)) (ρ x):=op_fieldAddr (by kernel_rfl)
theorem mi_62 {m k x:Operand}:aOp (EE w) lit (.insert 62 m k x) ρ σ=opMs σ (.int Go.IntKind.i64) (ρ m) (ρ k) (ρ x):=op_insert (z:=.nilFunc) (by kernel_rfl)
theorem fn_53:(EE w).fns 53=true:=by kernel_rfl
theorem fn_54:(EE w).fns 54=true:=by kernel_rfl
theorem fn_55:(EE w).fns 55=true:=by kernel_rfl
theorem ifc_20:ifcD (EE w) 20=some true:=by kernel_rfl
theorem as_69 {x:Operand}:aOp (EE w) lit (.typeAssert x 20 69 true) ρ σ=opAs σ (.agg #[.int Go.IntKind.i64 (0)]) 69 (ρ x):=op_assert (by kernel_rfl)
theorem zr_69:zeroD (EE w) 69=some (.agg [(.sc (.int Go.IntKind.i64 (0)))]):=by kernel_rfl
theorem ty_69:tyA (EE w) 69=some (true,1):=by kernel_rfl
theorem fa_69_0 {x:Operand}:aOp (EE w) lit (.fieldAddr 69 x 0) ρ σ=opFA σ (some (0,false,1)) (ρ x):=op_fieldAddr (by kernel_rfl)
theorem fn_56:(EE w).fns 56=true:=by kernel_rfl
theorem fa_24_2 {x:Operand}:aOp (EE w) lit (.fieldAddr 24 x 2) ρ σ=opFA σ (some (2,false,1)) (ρ x):=op_fieldAddr (by kernel_rfl)
theorem lk_99 {x k:Operand} {ok:Bool}:aOp (EE w) lit (.lookup 99 x k ok) ρ σ=opLk σ .string (.int Go.IntKind.i64 (0)) ok (ρ x) (ρ k):=op_lookup (by kernel_rfl)
theorem fn_41:(EE w).fns 41=true:=by kernel_rfl
theorem zr_100:zeroD (EE w) 100=some (.agg [(.sc (.int Go.IntKind.i64 (0))),(.sc (.int Go.IntKind.i64 (0))),(.sc (.int Go.IntKind.i64 (0))),(.sc (.int Go.IntKind.i64 (0)))]):=by kernel_rfl
theorem ia_100 {x y:Operand}:aOp (EE w) lit (.indexAddr 100 x y) ρ σ=opIAA σ (4,1) (ρ x) (ρ y):=op_indexAddrA (by kernel_rfl)
theorem lk_61 {x k:Operand} {ok:Bool}:aOp (EE w) lit (.lookup 61 x k ok) ρ σ=opLk σ .string (.agg #[.string ⟨#[]⟩,.slice none 0 0,.slice none 0 0]) ok (ρ x) (ρ k):=op_lookup (by kernel_rfl)
theorem mu_99 {m k x:Operand}:aOp (EE w) lit (.mapUpdate 99 m k x) ρ σ=opMs σ .string (ρ m) (ρ k) (ρ x):=op_mapUpdate (z:=.int Go.IntKind.i64 (0)) (by kernel_rfl)
theorem fn_57:(EE w).fns 57=true:=by kernel_rfl
theorem fa_65_2 {x:Operand}:aOp (EE w) lit (.fieldAddr 65 x 2) ρ σ=opFA σ (some (2,false,1)) (ρ x):=op_fieldAddr (by kernel_rfl)
theorem ty_62:tyA (EE w) 62=some (false,1):=by kernel_rfl
theorem lk_62 {x k:Operand} {ok:Bool}:aOp (EE w) lit (.lookup 62 x k ok) ρ σ=opLk σ (.int Go.IntKind.i64) (.nilFunc) ok (ρ x) (ρ k):=op_lookup (by kernel_rfl)
theorem bd_69 {ps:Array (Nat×Operand)}:aOp (EE w) lit (.build 69 ps) ρ σ=opBuild σ (some ([(0,1)],[(.sc (.int Go.IntKind.i64 (0)))])) (partsSome ρ ps.toList):=op_build (by kernel_rfl)
theorem mkI_69 {x:Operand}:aOp (EE w) lit (.makeInterface 69 x) ρ σ=opMkI 69 σ (ρ x):=op_mkI (by kernel_rfl)
theorem ixs_9 {x y:Operand}:aOp (EE w) lit (.index 9 x y) ρ σ=opIS σ (ρ x) (ρ y):=op_index_str (by kernel_rfl)
theorem ty_92:tyA (EE w) 92=some (false,1):=by kernel_rfl
theorem fn_76:(EE w).fns 76=true:=by kernel_rfl
theorem fn_77:(EE w).fns 77=true:=by kernel_rfl
theorem fn_78:(EE w).fns 78=true:=by kernel_rfl
theorem fn_79:(EE w).fns 79=true:=by kernel_rfl
theorem fn_80:(EE w).fns 80=true:=by kernel_rfl
theorem fn_81:(EE w).fns 81=true:=by kernel_rfl
theorem fa_127_1 {x:Operand}:aOp (EE w) lit (.fieldAddr 127 x 1) ρ σ=opFA σ (some (1,false,1)) (ρ x):=op_fieldAddr (by kernel_rfl)
theorem ty_125:tyA (EE w) 125=some (false,1):=by kernel_rfl
theorem mu_125 {m k x:Operand}:aOp (EE w) lit (.mapUpdate 125 m k x) ρ σ=opMs σ .string (ρ m) (ρ k) (ρ x):=op_mapUpdate (z:=.int Go.IntKind.i64 (0)) (by kernel_rfl)
theorem fa_127_0 {x:Operand}:aOp (EE w) lit (.fieldAddr 127 x 0) ρ σ=opFA σ (some (0,false,1)) (ρ x):=op_fieldAddr (by kernel_rfl)
theorem ty_124:tyA (EE w) 124=some (false,1):=by kernel_rfl
theorem lk_124 {x k:Operand} {ok:Bool}:aOp (EE w) lit (.lookup 124 x k ok) ρ σ=opLk σ .string (.bool false) ok (ρ x) (ρ k):=op_lookup (by kernel_rfl)
theorem lk_125 {x k:Operand} {ok:Bool}:aOp (EE w) lit (.lookup 125 x k ok) ρ σ=opLk σ .string (.int Go.IntKind.i64 (0)) ok (ρ x) (ρ k):=op_lookup (by kernel_rfl)
theorem zr_25:zeroD (EE w) 25=some (.sc (.slice none 0 0)):=by kernel_rfl
theorem ty_91:tyA (EE w) 91=some (true,8):=by kernel_rfl
theorem zr_91:zeroD (EE w) 91=some (.agg [(.sc (.int Go.IntKind.i64 (0))),(.sc (.string ⟨#[]⟩)),(.sc (.int Go.IntKind.i64 (0))),(.sc (.string ⟨#[]⟩)),(.sc (.int Go.IntKind.i64 (0))),(.sc (.slice none 0 0)),(.sc (.slice none 0 0)),(.sc (.slice none 0 0))]):=by kernel_rfl
theorem ty_99:tyA (EE w) 99=some (false,1):=by kernel_rfl
theorem fa_91_0 {x:Operand}:aOp (EE w) lit (.fieldAddr 91 x 0) ρ σ=opFA σ (some (0,false,1)) (ρ x):=op_fieldAddr (by kernel_rfl)
theorem fn_93:(EE w).fns 93=true:=by kernel_rfl
theorem fn_94:(EE w).fns 94=true:=by kernel_rfl
theorem fn_95:(EE w).fns 95=true:=by kernel_rfl
theorem zr_119:zeroD (EE w) 119=some (.agg [(.sc (.int Go.IntKind.i64 (0))),(.sc (.int Go.IntKind.i64 (0))),(.sc (.bool false))]):=by kernel_rfl
theorem bd_119 {ps:Array (Nat×Operand)}:aOp (EE w) lit (.build 119 ps) ρ σ=opBuild σ (some ([(0,1),(1,1),(2,1)],[(.sc (.int Go.IntKind.i64 (0))),(.sc (.int Go.IntKind.i64 (0))),(.sc (.bool false))])) (partsSome ρ ps.toList):=op_build (by kernel_rfl)
theorem ty_119:tyA (EE w) 119=some (true,3):=by kernel_rfl
theorem fn_97:(EE w).fns 97=true:=by kernel_rfl
theorem fa_119_0 {x:Operand}:aOp (EE w) lit (.fieldAddr 119 x 0) ρ σ=opFA σ (some (0,false,1)) (ρ x):=op_fieldAddr (by kernel_rfl)
theorem fa_119_1 {x:Operand}:aOp (EE w) lit (.fieldAddr 119 x 1) ρ σ=opFA σ (some (1,false,1)) (ρ x):=op_fieldAddr (by kernel_rfl)
theorem fa_119_2 {x:Operand}:aOp (EE w) lit (.fieldAddr 119 x 2) ρ σ=opFA σ (some (2,false,1)) (ρ x):=op_fieldAddr (by kernel_rfl)
theorem fn_98:(EE w).fns 98=true:=by kernel_rfl
theorem fn_100:(EE w).fns 100=true:=by kernel_rfl
theorem fn_103:(EE w).fns 103=true:=by kernel_rfl
theorem bd_127 {ps:Array (Nat×Operand)}:aOp (EE w) lit (.build 127 ps) ρ σ=opBuild σ (some ([(0,1),(1,1)],[(.sc (.map none)),(.sc (.map none))])) (partsSome ρ ps.toList):=op_build (by kernel_rfl)
theorem mu_124 {m k x:Operand}:aOp (EE w) lit (.mapUpdate 124 m k x) ρ σ=opMs σ .string (ρ m) (ρ k) (ρ x):=op_mapUpdate (z:=.bool false) (by kernel_rfl)
theorem ty_96:tyA (EE w) 96=some (false,1):=by kernel_rfl
theorem fn_105:(EE w).fns 105=true:=by kernel_rfl
theorem fn_106:(EE w).fns 106=true:=by kernel_rfl
theorem de_99_9 {m k:AVal}:opBi (EE w) .delete [99,9] σ (some [m,k])=ofD (aMapDel .string m k σ):=bi_delete (z:=.int Go.IntKind.i64 (0)) (by kernel_rfl)
theorem fn_115:(EE w).fns 115=true:=by kernel_rfl
theorem ixa_148 {x y:Operand}:aOp (EE w) lit (.index 148 x y) ρ σ=opIxA σ (6,false,1) (ρ x) (ρ y):=op_index_arr (by kernel_rfl)
theorem rg_125 {x:Operand}:aOp (EE w) lit (.range 125 x) ρ σ=opRgM σ (ρ x):=op_rangeM (by kernel_rfl)
theorem fn_116:(EE w).fns 116=true:=by kernel_rfl
theorem fn_118:(EE w).fns 118=true:=by kernel_rfl
theorem fn_117:(EE w).fns 117=true:=by kernel_rfl
theorem cvb_9_150:bytesD (EE w) 9 150=true:=by kernel_rfl
theorem cvg_9_150 {x:Operand}:aOp (EE w) lit (.convert 9 150 x) ρ σ=opCvG (EE w) 9 150 σ (ρ x):=op_convG
theorem ln_150 {x:AVal}:opBi (EE w) .len [150] σ (some [x])=.ofV σ (aLen (.slice 0) x σ):=bi_len (by kernel_rfl)
theorem ia_150 {x y:Operand}:aOp (EE w) lit (.indexAddr 150 x y) ρ σ=opIA σ ⟨1,1,(.sc (.int Go.IntKind.u8 (0)))⟩ (ρ x) (ρ y):=op_indexAddr (by kernel_rfl)
theorem fn_119:(EE w).fns 119=true:=by kernel_rfl
theorem fn_120:(EE w).fns 120=true:=by kernel_rfl
theorem fn_121:(EE w).fns 121=true:=by kernel_rfl
theorem fn_122:(EE w).fns 122=true:=by kernel_rfl
theorem fn_102:(EE w).fns 102=true:=by kernel_rfl
theorem fn_124:(EE w).fns 124=true:=by kernel_rfl
theorem rg_124 {x:Operand}:aOp (EE w) lit (.range 124 x) ρ σ=opRgM σ (ρ x):=op_rangeM (by kernel_rfl)
theorem de_124_9 {m k:AVal}:opBi (EE w) .delete [124,9] σ (some [m,k])=ofD (aMapDel .string m k σ):=bi_delete (z:=.bool false) (by kernel_rfl)
theorem bs_156 {n:Nat} {ps:Array (Nat×Operand)}:aOp (EE w) lit (.buildSlice 156 n ps) ρ σ=opBuildSl σ lit ⟨1,24,(.sc (.slice none 0 0))⟩ n (partsSome ρ ps.toList):=op_buildSlice (by kernel_rfl)
theorem ln_156 {x:AVal}:opBi (EE w) .len [156] σ (some [x])=.ofV σ (aLen (.slice 0) x σ):=bi_len (by kernel_rfl)
theorem ia_156 {x y:Operand}:aOp (EE w) lit (.indexAddr 156 x y) ρ σ=opIA σ ⟨1,24,(.sc (.slice none 0 0))⟩ (ρ x) (ρ y):=op_indexAddr (by kernel_rfl)
theorem zr_148:zeroD (EE w) 148=some (.agg [(.sc (.map none)),(.sc (.map none)),(.sc (.map none)),(.sc (.map none)),(.sc (.map none)),(.sc (.map none))]):=by kernel_rfl
theorem mi_125 {m k x:Operand}:aOp (EE w) lit (.insert 125 m k x) ρ σ=opMs σ .string (ρ m) (ρ k) (ρ x):=op_insert (z:=.int Go.IntKind.i64 (0)) (by kernel_rfl)
theorem ba_148 {ps:Array (Nat×Operand)}:aOp (EE w) lit (.build 148 ps) ρ σ=opBuildA σ (1,.agg #[.map none,.map none,.map none,.map none,.map none,.map none]) (partsSome ρ ps.toList):=op_buildA (by kernel_rfl)
theorem ty_148:tyA (EE w) 148=some (true,6):=by kernel_rfl
theorem fn_127:(EE w).fns 127=true:=by kernel_rfl
attribute [go_sem] fn_5 ty_24 ty_28 fn_6 bs_26 fa_28_1 ty_26 ap_26 fa_28_0 ty_25 fn_7 fn_9 fn_12 bs_25 ap_25 fn_13 fn_16 fn_17 ln_26 fn_18 fn_19 ia_26 ty_2 fa_24_3 ty_22 ln_22 ia_22 fa_24_0 ty_3 ln_25 ia_25 ty_9 zr_24 fn_24 ln_9 ln_29 ia_29 fa_57_1 fa_57_2 ty_55 fa_57_0 fn_25 zr_2 zr_3 zr_32 zr_4 ty_32 ty_4 fn_26 bd_65 zr_59 ty_59 fa_65_0 ty_60 lk_60 mu_60 fn_27 ty_57 zr_57 fa_65_1 ty_61 mu_61 fn_29 fa_65_3 ty_5 fa_24_1 ln_55 ia_55 fa_91_2 fa_91_1 fa_91_3 fa_91_4 mi_62 fn_53 fn_54 fn_55 ifc_20 as_69 zr_69 ty_69 fa_69_0 fn_56 fa_24_2 lk_99 fn_41 zr_100 ia_100 lk_61 mu_99 fn_57 fa_65_2 ty_62 lk_62 bd_69 mkI_69 ixs_9 ty_92 fn_76 fn_77 fn_78 fn_79 fn_80 fn_81 fa_127_1 ty_125 mu_125 fa_127_0 ty_124 lk_124 lk_125 zr_25 ty_91 zr_91 ty_99 fa_91_0 fn_93 fn_94 fn_95 zr_119 bd_119 ty_119 fn_97 fa_119_0 fa_119_1 fa_119_2 fn_98 fn_100 fn_103 bd_127 mu_124 ty_96 fn_105 fn_106 de_99_9 fn_115 ixa_148 rg_125 fn_116 fn_118 fn_117 cvb_9_150 cvg_9_150 ln_150 ia_150 fn_119 fn_120 fn_121 fn_122 fn_102 fn_124 rg_124 de_124_9 bs_156 ln_156 ia_156 zr_148 mi_125 ba_148 ty_148 fn_127
theorem of_4 (hn:Nat.ble args.length 121=true) (hl:Nat.blt args.length 1000=true) {c:Code} (hc:Tryz.f4.body=some c) (hk:okC 121 c=true) (h:V (EE ⟨w.w,[]⟩) 121 c (vFin (EE ⟨w.w,[]⟩) [.tmp 6] R) (initE args 0) σ):ACalls (EE w) 4 args σ R:=
 ACalls.of_V' (E:=EE w) (E':=EE ⟨w.w,[]⟩) (n:=121) rfl rfl Tryz.f4 c _ Tryz.func4 hc (by kernel_rfl) (by kernel_rfl) hk hn hl h
theorem of_6 (hn:Nat.ble args.length 24=true) (hl:Nat.blt args.length 1000=true) {c:Code} (hc:Tryz.f6.body=some c) (hk:okC 24 c=true) (h:V (EE ⟨w.w,[]⟩) 24 c (vFin (EE ⟨w.w,[]⟩) [.tmp 6] R) (initE args 0) σ):ACalls (EE w) 6 args σ R:=
 ACalls.of_V' (E:=EE w) (E':=EE ⟨w.w,[]⟩) (n:=24) rfl rfl Tryz.f6 c _ Tryz.func6 hc (by kernel_rfl) (by kernel_rfl) hk hn hl h
theorem of_7 (hn:Nat.ble args.length 26=true) (hl:Nat.blt args.length 1000=true) {c:Code} (hc:Tryz.f7.body=some c) (hk:okC 26 c=true) (h:V (EE ⟨w.w,[]⟩) 26 c (vFin (EE ⟨w.w,[]⟩) [.tmp 8,.tmp 9] R) (initE args 0) σ):ACalls (EE w) 7 args σ R:=
 ACalls.of_V' (E:=EE w) (E':=EE ⟨w.w,[]⟩) (n:=26) rfl rfl Tryz.f7 c _ Tryz.func7 hc (by kernel_rfl) (by kernel_rfl) hk hn hl h
theorem of_9 (hn:Nat.ble args.length 27=true) (hl:Nat.blt args.length 1000=true) {c:Code} (hc:Tryz.f9.body=some c) (hk:okC 27 c=true) (h:V (EE ⟨w.w,[]⟩) 27 c (vFin (EE ⟨w.w,[]⟩) [.tmp 8,.tmp 9] R) (initE args 0) σ):ACalls (EE w) 9 args σ R:=
 ACalls.of_V' (E:=EE w) (E':=EE ⟨w.w,[]⟩) (n:=27) rfl rfl Tryz.f9 c _ Tryz.func9 hc (by kernel_rfl) (by kernel_rfl) hk hn hl h
theorem of_12 (hn:Nat.ble args.length 28=true) (hl:Nat.blt args.length 1000=true) {c:Code} (hc:Tryz.f12.body=some c) (hk:okC 28 c=true) (h:V (EE ⟨w.w,[]⟩) 28 c (vFin (EE ⟨w.w,[]⟩) [.tmp 2] R) (initE args 0) σ):ACalls (EE w) 12 args σ R:=
 ACalls.of_V' (E:=EE w) (E':=EE ⟨w.w,[]⟩) (n:=28) rfl rfl Tryz.f12 c _ Tryz.func12 hc (by kernel_rfl) (by kernel_rfl) hk hn hl h
theorem of_13 (hn:Nat.ble args.length 18=true) (hl:Nat.blt args.length 1000=true) {c:Code} (hc:Tryz.f13.body=some c) (hk:okC 18 c=true) (h:V (EE ⟨w.w,[]⟩) 18 c (vFin (EE ⟨w.w,[]⟩) [.tmp 4] R) (initE args 0) σ):ACalls (EE w) 13 args σ R:=
 ACalls.of_V' (E:=EE w) (E':=EE ⟨w.w,[]⟩) (n:=18) rfl rfl Tryz.f13 c _ Tryz.func13 hc (by kernel_rfl) (by kernel_rfl) hk hn hl h
theorem of_16 (hn:Nat.ble args.length 9=true) (hl:Nat.blt args.length 1000=true) {c:Code} (hc:Tryz.f16.body=some c) (hk:okC 9 c=true) (h:V (EE ⟨w.w,[]⟩) 9 c (vFin (EE ⟨w.w,[]⟩) [.tmp 4] R) (initE args 0) σ):ACalls (EE w) 16 args σ R:=
 ACalls.of_V' (E:=EE w) (E':=EE ⟨w.w,[]⟩) (n:=9) rfl rfl Tryz.f16 c _ Tryz.func16 hc (by kernel_rfl) (by kernel_rfl) hk hn hl h
theorem of_17 (hn:Nat.ble args.length 34=true) (hl:Nat.blt args.length 1000=true) {c:Code} (hc:Tryz.f17.body=some c) (hk:okC 34 c=true) (h:V (EE ⟨w.w,[]⟩) 34 c (vFin (EE ⟨w.w,[]⟩) [.tmp 4] R) (initE args 0) σ):ACalls (EE w) 17 args σ R:=
 ACalls.of_V' (E:=EE w) (E':=EE ⟨w.w,[]⟩) (n:=34) rfl rfl Tryz.f17 c _ Tryz.func17 hc (by kernel_rfl) (by kernel_rfl) hk hn hl h
theorem of_18 (hn:Nat.ble args.length 42=true) (hl:Nat.blt args.length 1000=true) {c:Code} (hc:Tryz.f18.body=some c) (hk:okC 42 c=true) (h:V (EE ⟨w.w,[]⟩) 42 c (vFin (EE ⟨w.w,[]⟩) [.tmp 4] R) (initE args 0) σ):ACalls (EE w) 18 args σ R:=
 ACalls.of_V' (E:=EE w) (E':=EE ⟨w.w,[]⟩) (n:=42) rfl rfl Tryz.f18 c _ Tryz.func18 hc (by kernel_rfl) (by kernel_rfl) hk hn hl h
theorem ot_19 (hn:Nat.ble args.length 101=true) (hl:Nat.blt args.length 1000=true) {c:Code} (hc:Tryz.f19.body=some c) (hk:okC 101 c=true) (h:Top (EE ⟨w.w,[]⟩) 101 c (aEndD (EE ⟨w.w,[]⟩) Tryz.f19 R) (initE args 0) σ):ACalls (EE w) 19 args σ R:=
 ACalls.of_Top (E:=EE w) (E':=EE ⟨w.w,[]⟩) (n:=101) rfl rfl Tryz.f19 c Tryz.func19 hc (by kernel_rfl) hk hn hl h
theorem of_24 (hn:Nat.ble args.length 31=true) (hl:Nat.blt args.length 1000=true) {c:Code} (hc:Tryz.f24.body=some c) (hk:okC 31 c=true) (h:V (EE ⟨w.w,[]⟩) 31 c (vFin (EE ⟨w.w,[]⟩) [.tmp 4] R) (initE args 0) σ):ACalls (EE w) 24 args σ R:=
 ACalls.of_V' (E:=EE w) (E':=EE ⟨w.w,[]⟩) (n:=31) rfl rfl Tryz.f24 c _ Tryz.func24 hc (by kernel_rfl) (by kernel_rfl) hk hn hl h
theorem of_25 (hn:Nat.ble args.length 46=true) (hl:Nat.blt args.length 1000=true) {c:Code} (hc:Tryz.f25.body=some c) (hk:okC 46 c=true) (h:V (EE ⟨w.w,[]⟩) 46 c (vFin (EE ⟨w.w,[]⟩) [.tmp 4] R) (initE args 0) σ):ACalls (EE w) 25 args σ R:=
 ACalls.of_V' (E:=EE w) (E':=EE ⟨w.w,[]⟩) (n:=46) rfl rfl Tryz.f25 c _ Tryz.func25 hc (by kernel_rfl) (by kernel_rfl) hk hn hl h
theorem of_26 (hn:Nat.ble args.length 8=true) (hl:Nat.blt args.length 1000=true) {c:Code} (hc:Tryz.f26.body=some c) (hk:okC 8 c=true) (h:V (EE ⟨w.w,[]⟩) 8 c (vFin (EE ⟨w.w,[]⟩) [.tmp 0] R) (initE args 0) σ):ACalls (EE w) 26 args σ R:=
 ACalls.of_V' (E:=EE w) (E':=EE ⟨w.w,[]⟩) (n:=8) rfl rfl Tryz.f26 c _ Tryz.func26 hc (by kernel_rfl) (by kernel_rfl) hk hn hl h
theorem of_27 (hn:Nat.ble args.length 29=true) (hl:Nat.blt args.length 1000=true) {c:Code} (hc:Tryz.f27.body=some c) (hk:okC 29 c=true) (h:V (EE ⟨w.w,[]⟩) 29 c (vFin (EE ⟨w.w,[]⟩) [.tmp 6] R) (initE args 0) σ):ACalls (EE w) 27 args σ R:=
 ACalls.of_V' (E:=EE w) (E':=EE ⟨w.w,[]⟩) (n:=29) rfl rfl Tryz.f27 c _ Tryz.func27 hc (by kernel_rfl) (by kernel_rfl) hk hn hl h
theorem of_29 (hn:Nat.ble args.length 181=true) (hl:Nat.blt args.length 1000=true) {c:Code} (hc:Tryz.f29.body=some c) (hk:okC 181 c=true) (h:V (EE ⟨w.w,[]⟩) 181 c (vFin (EE ⟨w.w,[]⟩) [.tmp 6] R) (initE args 0) σ):ACalls (EE w) 29 args σ R:=
 ACalls.of_V' (E:=EE w) (E':=EE ⟨w.w,[]⟩) (n:=181) rfl rfl Tryz.f29 c _ Tryz.func29 hc (by kernel_rfl) (by kernel_rfl) hk hn hl h
theorem of_37 (hn:Nat.ble args.length 4=true) (hl:Nat.blt args.length 1000=true) {c:Code} (hc:Tryz.f37.body=some c) (hk:okC 4 c=true) (h:V (EE ⟨w.w,[]⟩) 4 c (vFin (EE ⟨w.w,[]⟩) [.tmp 2] R) (initE args 0) σ):ACalls (EE w) 37 args σ R:=
 ACalls.of_V' (E:=EE w) (E':=EE ⟨w.w,[]⟩) (n:=4) rfl rfl Tryz.f37 c _ Tryz.func37 hc (by kernel_rfl) (by kernel_rfl) hk hn hl h
theorem of_38 (hn:Nat.ble args.length 14=true) (hl:Nat.blt args.length 1000=true) {c:Code} (hc:Tryz.f38.body=some c) (hk:okC 14 c=true) (h:V (EE ⟨w.w,[]⟩) 14 c (vFin (EE ⟨w.w,[]⟩) [.tmp 5] R) (initE args 0) σ):ACalls (EE w) 38 args σ R:=
 ACalls.of_V' (E:=EE w) (E':=EE ⟨w.w,[]⟩) (n:=14) rfl rfl Tryz.f38 c _ Tryz.func38 hc (by kernel_rfl) (by kernel_rfl) hk hn hl h
theorem of_39 (hn:Nat.ble args.length 7=true) (hl:Nat.blt args.length 1000=true) {c:Code} (hc:Tryz.f39.body=some c) (hk:okC 7 c=true) (h:V (EE ⟨w.w,[]⟩) 7 c (vFin (EE ⟨w.w,[]⟩) [.tmp 4] R) (initE args 0) σ):ACalls (EE w) 39 args σ R:=
 ACalls.of_V' (E:=EE w) (E':=EE ⟨w.w,[]⟩) (n:=7) rfl rfl Tryz.f39 c _ Tryz.func39 hc (by kernel_rfl) (by kernel_rfl) hk hn hl h
theorem of_40 (hn:Nat.ble args.length 8=true) (hl:Nat.blt args.length 1000=true) {c:Code} (hc:Tryz.f40.body=some c) (hk:okC 8 c=true) (h:V (EE ⟨w.w,[]⟩) 8 c (vFin (EE ⟨w.w,[]⟩) [.tmp 4] R) (initE args 0) σ):ACalls (EE w) 40 args σ R:=
 ACalls.of_V' (E:=EE w) (E':=EE ⟨w.w,[]⟩) (n:=8) rfl rfl Tryz.f40 c _ Tryz.func40 hc (by kernel_rfl) (by kernel_rfl) hk hn hl h
theorem of_41 (hn:Nat.ble args.length 4=true) (hl:Nat.blt args.length 1000=true) {c:Code} (hc:Tryz.f41.body=some c) (hk:okC 4 c=true) (h:V (EE ⟨w.w,[]⟩) 4 c (vFin (EE ⟨w.w,[]⟩) [.tmp 2] R) (initE args 0) σ):ACalls (EE w) 41 args σ R:=
 ACalls.of_V' (E:=EE w) (E':=EE ⟨w.w,[]⟩) (n:=4) rfl rfl Tryz.f41 c _ Tryz.func41 hc (by kernel_rfl) (by kernel_rfl) hk hn hl h
theorem of_42 (hn:Nat.ble args.length 8=true) (hl:Nat.blt args.length 1000=true) {c:Code} (hc:Tryz.f42.body=some c) (hk:okC 8 c=true) (h:V (EE ⟨w.w,[]⟩) 8 c (vFin (EE ⟨w.w,[]⟩) [.tmp 4] R) (initE args 0) σ):ACalls (EE w) 42 args σ R:=
 ACalls.of_V' (E:=EE w) (E':=EE ⟨w.w,[]⟩) (n:=8) rfl rfl Tryz.f42 c _ Tryz.func42 hc (by kernel_rfl) (by kernel_rfl) hk hn hl h
theorem of_43 (hn:Nat.ble args.length 8=true) (hl:Nat.blt args.length 1000=true) {c:Code} (hc:Tryz.f43.body=some c) (hk:okC 8 c=true) (h:V (EE ⟨w.w,[]⟩) 8 c (vFin (EE ⟨w.w,[]⟩) [.tmp 4] R) (initE args 0) σ):ACalls (EE w) 43 args σ R:=
 ACalls.of_V' (E:=EE w) (E':=EE ⟨w.w,[]⟩) (n:=8) rfl rfl Tryz.f43 c _ Tryz.func43 hc (by kernel_rfl) (by kernel_rfl) hk hn hl h
theorem of_44 (hn:Nat.ble args.length 8=true) (hl:Nat.blt args.length 1000=true) {c:Code} (hc:Tryz.f44.body=some c) (hk:okC 8 c=true) (h:V (EE ⟨w.w,[]⟩) 8 c (vFin (EE ⟨w.w,[]⟩) [.tmp 4] R) (initE args 0) σ):ACalls (EE w) 44 args σ R:=
 ACalls.of_V' (E:=EE w) (E':=EE ⟨w.w,[]⟩) (n:=8) rfl rfl Tryz.f44 c _ Tryz.func44 hc (by kernel_rfl) (by kernel_rfl) hk hn hl h
theorem of_45 (hn:Nat.ble args.length 8=true) (hl:Nat.blt args.length 1000=true) {c:Code} (hc:Tryz.f45.body=some c) (hk:okC 8 c=true) (h:V (EE ⟨w.w,[]⟩) 8 c (vFin (EE ⟨w.w,[]⟩) [.tmp 4] R) (initE args 0) σ):ACalls (EE w) 45 args σ R:=
 ACalls.of_V' (E:=EE w) (E':=EE ⟨w.w,[]⟩) (n:=8) rfl rfl Tryz.f45 c _ Tryz.func45 hc (by kernel_rfl) (by kernel_rfl) hk hn hl h
theorem of_46 (hn:Nat.ble args.length 8=true) (hl:Nat.blt args.length 1000=true) {c:Code} (hc:Tryz.f46.body=some c) (hk:okC 8 c=true) (h:V (EE ⟨w.w,[]⟩) 8 c (vFin (EE ⟨w.w,[]⟩) [.tmp 4] R) (initE args 0) σ):ACalls (EE w) 46 args σ R:=
 ACalls.of_V' (E:=EE w) (E':=EE ⟨w.w,[]⟩) (n:=8) rfl rfl Tryz.f46 c _ Tryz.func46 hc (by kernel_rfl) (by kernel_rfl) hk hn hl h
theorem of_47 (hn:Nat.ble args.length 9=true) (hl:Nat.blt args.length 1000=true) {c:Code} (hc:Tryz.f47.body=some c) (hk:okC 9 c=true) (h:V (EE ⟨w.w,[]⟩) 9 c (vFin (EE ⟨w.w,[]⟩) [.tmp 4] R) (initE args 0) σ):ACalls (EE w) 47 args σ R:=
 ACalls.of_V' (E:=EE w) (E':=EE ⟨w.w,[]⟩) (n:=9) rfl rfl Tryz.f47 c _ Tryz.func47 hc (by kernel_rfl) (by kernel_rfl) hk hn hl h
theorem of_48 (hn:Nat.ble args.length 9=true) (hl:Nat.blt args.length 1000=true) {c:Code} (hc:Tryz.f48.body=some c) (hk:okC 9 c=true) (h:V (EE ⟨w.w,[]⟩) 9 c (vFin (EE ⟨w.w,[]⟩) [.tmp 4] R) (initE args 0) σ):ACalls (EE w) 48 args σ R:=
 ACalls.of_V' (E:=EE w) (E':=EE ⟨w.w,[]⟩) (n:=9) rfl rfl Tryz.f48 c _ Tryz.func48 hc (by kernel_rfl) (by kernel_rfl) hk hn hl h
theorem of_49 (hn:Nat.ble args.length 9=true) (hl:Nat.blt args.length 1000=true) {c:Code} (hc:Tryz.f49.body=some c) (hk:okC 9 c=true) (h:V (EE ⟨w.w,[]⟩) 9 c (vFin (EE ⟨w.w,[]⟩) [.tmp 4] R) (initE args 0) σ):ACalls (EE w) 49 args σ R:=
 ACalls.of_V' (E:=EE w) (E':=EE ⟨w.w,[]⟩) (n:=9) rfl rfl Tryz.f49 c _ Tryz.func49 hc (by kernel_rfl) (by kernel_rfl) hk hn hl h
theorem of_50 (hn:Nat.ble args.length 9=true) (hl:Nat.blt args.length 1000=true) {c:Code} (hc:Tryz.f50.body=some c) (hk:okC 9 c=true) (h:V (EE ⟨w.w,[]⟩) 9 c (vFin (EE ⟨w.w,[]⟩) [.tmp 4] R) (initE args 0) σ):ACalls (EE w) 50 args σ R:=
 ACalls.of_V' (E:=EE w) (E':=EE ⟨w.w,[]⟩) (n:=9) rfl rfl Tryz.f50 c _ Tryz.func50 hc (by kernel_rfl) (by kernel_rfl) hk hn hl h
theorem of_51 (hn:Nat.ble args.length 9=true) (hl:Nat.blt args.length 1000=true) {c:Code} (hc:Tryz.f51.body=some c) (hk:okC 9 c=true) (h:V (EE ⟨w.w,[]⟩) 9 c (vFin (EE ⟨w.w,[]⟩) [.tmp 4] R) (initE args 0) σ):ACalls (EE w) 51 args σ R:=
 ACalls.of_V' (E:=EE w) (E':=EE ⟨w.w,[]⟩) (n:=9) rfl rfl Tryz.f51 c _ Tryz.func51 hc (by kernel_rfl) (by kernel_rfl) hk hn hl h
theorem of_52 (hn:Nat.ble args.length 9=true) (hl:Nat.blt args.length 1000=true) {c:Code} (hc:Tryz.f52.body=some c) (hk:okC 9 c=true) (h:V (EE ⟨w.w,[]⟩) 9 c (vFin (EE ⟨w.w,[]⟩) [.tmp 4] R) (initE args 0) σ):ACalls (EE w) 52 args σ R:=
 ACalls.of_V' (E:=EE w) (E':=EE ⟨w.w,[]⟩) (n:=9) rfl rfl Tryz.f52 c _ Tryz.func52 hc (by kernel_rfl) (by kernel_rfl) hk hn hl h
theorem of_53 (hn:Nat.ble args.length 10=true) (hl:Nat.blt args.length 1000=true) {c:Code} (hc:Tryz.f53.body=some c) (hk:okC 10 c=true) (h:V (EE ⟨w.w,[]⟩) 10 c (vFin (EE ⟨w.w,[]⟩) [.tmp 2] R) (initE args 0) σ):ACalls (EE w) 53 args σ R:=
 ACalls.of_V' (E:=EE w) (E':=EE ⟨w.w,[]⟩) (n:=10) rfl rfl Tryz.f53 c _ Tryz.func53 hc (by kernel_rfl) (by kernel_rfl) hk hn hl h
theorem of_54 (hn:Nat.ble args.length 44=true) (hl:Nat.blt args.length 1000=true) {c:Code} (hc:Tryz.f54.body=some c) (hk:okC 44 c=true) (h:V (EE ⟨w.w,[]⟩) 44 c (vFin (EE ⟨w.w,[]⟩) [.tmp 4,.tmp 5,.tmp 6] R) (initE args 0) σ):ACalls (EE w) 54 args σ R:=
 ACalls.of_V' (E:=EE w) (E':=EE ⟨w.w,[]⟩) (n:=44) rfl rfl Tryz.f54 c _ Tryz.func54 hc (by kernel_rfl) (by kernel_rfl) hk hn hl h
theorem of_55 (hn:Nat.ble args.length 61=true) (hl:Nat.blt args.length 1000=true) {c:Code} (hc:Tryz.f55.body=some c) (hk:okC 61 c=true) (h:V (EE ⟨w.w,[]⟩) 61 c (vFin (EE ⟨w.w,[]⟩) [.tmp 4] R) (initE args 0) σ):ACalls (EE w) 55 args σ R:=
 ACalls.of_V' (E:=EE w) (E':=EE ⟨w.w,[]⟩) (n:=61) rfl rfl Tryz.f55 c _ Tryz.func55 hc (by kernel_rfl) (by kernel_rfl) hk hn hl h
theorem of_56 (hn:Nat.ble args.length 16=true) (hl:Nat.blt args.length 1000=true) {c:Code} (hc:Tryz.f56.body=some c) (hk:okC 16 c=true) (h:V (EE ⟨w.w,[]⟩) 16 c (vFin (EE ⟨w.w,[]⟩) [] R) (initE args 0) σ):ACalls (EE w) 56 args σ R:=
 ACalls.of_V' (E:=EE w) (E':=EE ⟨w.w,[]⟩) (n:=16) rfl rfl Tryz.f56 c _ Tryz.func56 hc (by kernel_rfl) (by kernel_rfl) hk hn hl h
theorem ot_57 (hn:Nat.ble args.length 90=true) (hl:Nat.blt args.length 1000=true) {c:Code} (hc:Tryz.f57.body=some c) (hk:okC 90 c=true) (h:Top (EE ⟨w.w,[]⟩) 90 c (aEndD (EE ⟨w.w,[]⟩) Tryz.f57 R) (initE args 0) σ):ACalls (EE w) 57 args σ R:=
 ACalls.of_Top (E:=EE w) (E':=EE ⟨w.w,[]⟩) (n:=90) rfl rfl Tryz.f57 c Tryz.func57 hc (by kernel_rfl) hk hn hl h
theorem of_76 (hn:Nat.ble args.length 78=true) (hl:Nat.blt args.length 1000=true) {c:Code} (hc:Tryz.f76.body=some c) (hk:okC 78 c=true) (h:V (EE ⟨w.w,[]⟩) 78 c (vFin (EE ⟨w.w,[]⟩) [.tmp 2] R) (initE args 0) σ):ACalls (EE w) 76 args σ R:=
 ACalls.of_V' (E:=EE w) (E':=EE ⟨w.w,[]⟩) (n:=78) rfl rfl Tryz.f76 c _ Tryz.func76 hc (by kernel_rfl) (by kernel_rfl) hk hn hl h
theorem of_77 (hn:Nat.ble args.length 23=true) (hl:Nat.blt args.length 1000=true) {c:Code} (hc:Tryz.f77.body=some c) (hk:okC 23 c=true) (h:V (EE ⟨w.w,[]⟩) 23 c (vFin (EE ⟨w.w,[]⟩) [.cell 2 119] R) (initE args 0) σ):ACalls (EE w) 77 args σ R:=
 ACalls.of_V' (E:=EE w) (E':=EE ⟨w.w,[]⟩) (n:=23) rfl rfl Tryz.f77 c _ Tryz.func77 hc (by kernel_rfl) (by kernel_rfl) hk hn hl h
theorem of_78 (hn:Nat.ble args.length 16=true) (hl:Nat.blt args.length 1000=true) {c:Code} (hc:Tryz.f78.body=some c) (hk:okC 16 c=true) (h:V (EE ⟨w.w,[]⟩) 16 c (vFin (EE ⟨w.w,[]⟩) [.tmp 2] R) (initE args 0) σ):ACalls (EE w) 78 args σ R:=
 ACalls.of_V' (E:=EE w) (E':=EE ⟨w.w,[]⟩) (n:=16) rfl rfl Tryz.f78 c _ Tryz.func78 hc (by kernel_rfl) (by kernel_rfl) hk hn hl h
theorem of_79 (hn:Nat.ble args.length 29=true) (hl:Nat.blt args.length 1000=true) {c:Code} (hc:Tryz.f79.body=some c) (hk:okC 29 c=true) (h:V (EE ⟨w.w,[]⟩) 29 c (vFin (EE ⟨w.w,[]⟩) [.tmp 2] R) (initE args 0) σ):ACalls (EE w) 79 args σ R:=
 ACalls.of_V' (E:=EE w) (E':=EE ⟨w.w,[]⟩) (n:=29) rfl rfl Tryz.f79 c _ Tryz.func79 hc (by kernel_rfl) (by kernel_rfl) hk hn hl h
theorem of_80 (hn:Nat.ble args.length 23=true) (hl:Nat.blt args.length 1000=true) {c:Code} (hc:Tryz.f80.body=some c) (hk:okC 23 c=true) (h:V (EE ⟨w.w,[]⟩) 23 c (vFin (EE ⟨w.w,[]⟩) [.tmp 2] R) (initE args 0) σ):ACalls (EE w) 80 args σ R:=
 ACalls.of_V' (E:=EE w) (E':=EE ⟨w.w,[]⟩) (n:=23) rfl rfl Tryz.f80 c _ Tryz.func80 hc (by kernel_rfl) (by kernel_rfl) hk hn hl h
theorem ot_81 (hn:Nat.ble args.length 71=true) (hl:Nat.blt args.length 1000=true) {c:Code} (hc:Tryz.f81.body=some c) (hk:okC 71 c=true) (h:Top (EE ⟨w.w,[]⟩) 71 c (aEndD (EE ⟨w.w,[]⟩) Tryz.f81 R) (initE args 0) σ):ACalls (EE w) 81 args σ R:=
 ACalls.of_Top (E:=EE w) (E':=EE ⟨w.w,[]⟩) (n:=71) rfl rfl Tryz.f81 c Tryz.func81 hc (by kernel_rfl) hk hn hl h
theorem od_82 (hn:Nat.ble args.length 13=true) (hl:Nat.blt args.length 1000=true) {c:Code} (hc:Tryz.f82.body=some c) (hk:okC 13 c=true) (h:V (EE ⟨w.w,[]⟩) 13 c (vFin (EE ⟨w.w,[]⟩) [] R) (initE args 0) σ):ACallsD (EE w) 82 args σ R:=
 ACallsD.of_V' (E:=EE w) (E':=EE ⟨w.w,[]⟩) (n:=13) rfl rfl Tryz.f82 c _ Tryz.func82 hc (by kernel_rfl) (by kernel_rfl) hk hn hl h
theorem of_93 (hn:Nat.ble args.length 26=true) (hl:Nat.blt args.length 1000=true) {c:Code} (hc:Tryz.f93.body=some c) (hk:okC 26 c=true) (h:V (EE ⟨w.w,[]⟩) 26 c (vFin (EE ⟨w.w,[]⟩) [.tmp 2,.tmp 3] R) (initE args 0) σ):ACalls (EE w) 93 args σ R:=
 ACalls.of_V' (E:=EE w) (E':=EE ⟨w.w,[]⟩) (n:=26) rfl rfl Tryz.f93 c _ Tryz.func93 hc (by kernel_rfl) (by kernel_rfl) hk hn hl h
theorem of_94 (hn:Nat.ble args.length 43=true) (hl:Nat.blt args.length 1000=true) {c:Code} (hc:Tryz.f94.body=some c) (hk:okC 43 c=true) (h:V (EE ⟨w.w,[]⟩) 43 c (vFin (EE ⟨w.w,[]⟩) [.tmp 2] R) (initE args 0) σ):ACalls (EE w) 94 args σ R:=
 ACalls.of_V' (E:=EE w) (E':=EE ⟨w.w,[]⟩) (n:=43) rfl rfl Tryz.f94 c _ Tryz.func94 hc (by kernel_rfl) (by kernel_rfl) hk hn hl h
theorem of_95 (hn:Nat.ble args.length 9=true) (hl:Nat.blt args.length 1000=true) {c:Code} (hc:Tryz.f95.body=some c) (hk:okC 9 c=true) (h:V (EE ⟨w.w,[]⟩) 9 c (vFin (EE ⟨w.w,[]⟩) [.tmp 4] R) (initE args 0) σ):ACalls (EE w) 95 args σ R:=
 ACalls.of_V' (E:=EE w) (E':=EE ⟨w.w,[]⟩) (n:=9) rfl rfl Tryz.f95 c _ Tryz.func95 hc (by kernel_rfl) (by kernel_rfl) hk hn hl h
theorem of_96 (hn:Nat.ble args.length 6=true) (hl:Nat.blt args.length 1000=true) {c:Code} (hc:Tryz.f96.body=some c) (hk:okC 6 c=true) (h:V (EE ⟨w.w,[]⟩) 6 c (vFin (EE ⟨w.w,[]⟩) [.tmp 2] R) (initE args 0) σ):ACalls (EE w) 96 args σ R:=
 ACalls.of_V' (E:=EE w) (E':=EE ⟨w.w,[]⟩) (n:=6) rfl rfl Tryz.f96 c _ Tryz.func96 hc (by kernel_rfl) (by kernel_rfl) hk hn hl h
theorem of_97 (hn:Nat.ble args.length 36=true) (hl:Nat.blt args.length 1000=true) {c:Code} (hc:Tryz.f97.body=some c) (hk:okC 36 c=true) (h:V (EE ⟨w.w,[]⟩) 36 c (vFin (EE ⟨w.w,[]⟩) [] R) (initE args 0) σ):ACalls (EE w) 97 args σ R:=
 ACalls.of_V' (E:=EE w) (E':=EE ⟨w.w,[]⟩) (n:=36) rfl rfl Tryz.f97 c _ Tryz.func97 hc (by kernel_rfl) (by kernel_rfl) hk hn hl h
theorem of_98 (hn:Nat.ble args.length 9=true) (hl:Nat.blt args.length 1000=true) {c:Code} (hc:Tryz.f98.body=some c) (hk:okC 9 c=true) (h:V (EE ⟨w.w,[]⟩) 9 c (vFin (EE ⟨w.w,[]⟩) [.tmp 4] R) (initE args 0) σ):ACalls (EE w) 98 args σ R:=
 ACalls.of_V' (E:=EE w) (E':=EE ⟨w.w,[]⟩) (n:=9) rfl rfl Tryz.f98 c _ Tryz.func98 hc (by kernel_rfl) (by kernel_rfl) hk hn hl h
theorem of_99 (hn:Nat.ble args.length 6=true) (hl:Nat.blt args.length 1000=true) {c:Code} (hc:Tryz.f99.body=some c) (hk:okC 6 c=true) (h:V (EE ⟨w.w,[]⟩) 6 c (vFin (EE ⟨w.w,[]⟩) [.tmp 2] R) (initE args 0) σ):ACalls (EE w) 99 args σ R:=
 ACalls.of_V' (E:=EE w) (E':=EE ⟨w.w,[]⟩) (n:=6) rfl rfl Tryz.f99 c _ Tryz.func99 hc (by kernel_rfl) (by kernel_rfl) hk hn hl h
theorem of_100 (hn:Nat.ble args.length 9=true) (hl:Nat.blt args.length 1000=true) {c:Code} (hc:Tryz.f100.body=some c) (hk:okC 9 c=true) (h:V (EE ⟨w.w,[]⟩) 9 c (vFin (EE ⟨w.w,[]⟩) [.tmp 4] R) (initE args 0) σ):ACalls (EE w) 100 args σ R:=
 ACalls.of_V' (E:=EE w) (E':=EE ⟨w.w,[]⟩) (n:=9) rfl rfl Tryz.f100 c _ Tryz.func100 hc (by kernel_rfl) (by kernel_rfl) hk hn hl h
theorem of_101 (hn:Nat.ble args.length 6=true) (hl:Nat.blt args.length 1000=true) {c:Code} (hc:Tryz.f101.body=some c) (hk:okC 6 c=true) (h:V (EE ⟨w.w,[]⟩) 6 c (vFin (EE ⟨w.w,[]⟩) [.tmp 2] R) (initE args 0) σ):ACalls (EE w) 101 args σ R:=
 ACalls.of_V' (E:=EE w) (E':=EE ⟨w.w,[]⟩) (n:=6) rfl rfl Tryz.f101 c _ Tryz.func101 hc (by kernel_rfl) (by kernel_rfl) hk hn hl h
theorem of_102 (hn:Nat.ble args.length 76=true) (hl:Nat.blt args.length 1000=true) {c:Code} (hc:Tryz.f102.body=some c) (hk:okC 76 c=true) (h:V (EE ⟨w.w,[]⟩) 76 c (vFin (EE ⟨w.w,[]⟩) [.tmp 2] R) (initE args 0) σ):ACalls (EE w) 102 args σ R:=
 ACalls.of_V' (E:=EE w) (E':=EE ⟨w.w,[]⟩) (n:=76) rfl rfl Tryz.f102 c _ Tryz.func102 hc (by kernel_rfl) (by kernel_rfl) hk hn hl h
theorem of_103 (hn:Nat.ble args.length 56=true) (hl:Nat.blt args.length 1000=true) {c:Code} (hc:Tryz.f103.body=some c) (hk:okC 56 c=true) (h:V (EE ⟨w.w,[]⟩) 56 c (vFin (EE ⟨w.w,[]⟩) [.tmp 2] R) (initE args 0) σ):ACalls (EE w) 103 args σ R:=
 ACalls.of_V' (E:=EE w) (E':=EE ⟨w.w,[]⟩) (n:=56) rfl rfl Tryz.f103 c _ Tryz.func103 hc (by kernel_rfl) (by kernel_rfl) hk hn hl h
theorem od_104 (hn:Nat.ble args.length 19=true) (hl:Nat.blt args.length 1000=true) {c:Code} (hc:Tryz.f104.body=some c) (hk:okC 19 c=true) (h:V (EE ⟨w.w,[]⟩) 19 c (vFin (EE ⟨w.w,[]⟩) [] R) (initE args 0) σ):ACallsD (EE w) 104 args σ R:=
 ACallsD.of_V' (E:=EE w) (E':=EE ⟨w.w,[]⟩) (n:=19) rfl rfl Tryz.f104 c _ Tryz.func104 hc (by kernel_rfl) (by kernel_rfl) hk hn hl h
theorem ot_105 (hn:Nat.ble args.length 85=true) (hl:Nat.blt args.length 1000=true) {c:Code} (hc:Tryz.f105.body=some c) (hk:okC 85 c=true) (h:Top (EE ⟨w.w,[]⟩) 85 c (aEndD (EE ⟨w.w,[]⟩) Tryz.f105 R) (initE args 0) σ):ACalls (EE w) 105 args σ R:=
 ACalls.of_Top (E:=EE w) (E':=EE ⟨w.w,[]⟩) (n:=85) rfl rfl Tryz.f105 c Tryz.func105 hc (by kernel_rfl) hk hn hl h
theorem of_106 (hn:Nat.ble args.length 30=true) (hl:Nat.blt args.length 1000=true) {c:Code} (hc:Tryz.f106.body=some c) (hk:okC 30 c=true) (h:V (EE ⟨w.w,[]⟩) 30 c (vFin (EE ⟨w.w,[]⟩) [.tmp 2] R) (initE args 0) σ):ACalls (EE w) 106 args σ R:=
 ACalls.of_V' (E:=EE w) (E':=EE ⟨w.w,[]⟩) (n:=30) rfl rfl Tryz.f106 c _ Tryz.func106 hc (by kernel_rfl) (by kernel_rfl) hk hn hl h
theorem of_115 (hn:Nat.ble args.length 12=true) (hl:Nat.blt args.length 1000=true) {c:Code} (hc:Tryz.f115.body=some c) (hk:okC 12 c=true) (h:V (EE ⟨w.w,[]⟩) 12 c (vFin (EE ⟨w.w,[]⟩) [.cell 0 148] R) (initE args 0) σ):ACalls (EE w) 115 args σ R:=
 ACalls.of_V' (E:=EE w) (E':=EE ⟨w.w,[]⟩) (n:=12) rfl rfl Tryz.f115 c _ Tryz.func115 hc (by kernel_rfl) (by kernel_rfl) hk hn hl h
theorem of_116 (hn:Nat.ble args.length 11=true) (hl:Nat.blt args.length 1000=true) {c:Code} (hc:Tryz.f116.body=some c) (hk:okC 11 c=true) (h:V (EE ⟨w.w,[]⟩) 11 c (vFin (EE ⟨w.w,[]⟩) [.tmp 2] R) (initE args 0) σ):ACalls (EE w) 116 args σ R:=
 ACalls.of_V' (E:=EE w) (E':=EE ⟨w.w,[]⟩) (n:=11) rfl rfl Tryz.f116 c _ Tryz.func116 hc (by kernel_rfl) (by kernel_rfl) hk hn hl h
theorem of_117 (hn:Nat.ble args.length 9=true) (hl:Nat.blt args.length 1000=true) {c:Code} (hc:Tryz.f117.body=some c) (hk:okC 9 c=true) (h:V (EE ⟨w.w,[]⟩) 9 c (vFin (EE ⟨w.w,[]⟩) [.tmp 4] R) (initE args 0) σ):ACalls (EE w) 117 args σ R:=
 ACalls.of_V' (E:=EE w) (E':=EE ⟨w.w,[]⟩) (n:=9) rfl rfl Tryz.f117 c _ Tryz.func117 hc (by kernel_rfl) (by kernel_rfl) hk hn hl h
theorem of_118 (hn:Nat.ble args.length 2=true) (hl:Nat.blt args.length 1000=true) {c:Code} (hc:Tryz.f118.body=some c) (hk:okC 2 c=true) (h:V (EE ⟨w.w,[]⟩) 2 c (vFin (EE ⟨w.w,[]⟩) [.tmp 0] R) (initE args 0) σ):ACalls (EE w) 118 args σ R:=
 ACalls.of_V' (E:=EE w) (E':=EE ⟨w.w,[]⟩) (n:=2) rfl rfl Tryz.f118 c _ Tryz.func118 hc (by kernel_rfl) (by kernel_rfl) hk hn hl h
theorem of_119 (hn:Nat.ble args.length 9=true) (hl:Nat.blt args.length 1000=true) {c:Code} (hc:Tryz.f119.body=some c) (hk:okC 9 c=true) (h:V (EE ⟨w.w,[]⟩) 9 c (vFin (EE ⟨w.w,[]⟩) [.tmp 2] R) (initE args 0) σ):ACalls (EE w) 119 args σ R:=
 ACalls.of_V' (E:=EE w) (E':=EE ⟨w.w,[]⟩) (n:=9) rfl rfl Tryz.f119 c _ Tryz.func119 hc (by kernel_rfl) (by kernel_rfl) hk hn hl h
theorem of_120 (hn:Nat.ble args.length 19=true) (hl:Nat.blt args.length 1000=true) {c:Code} (hc:Tryz.f120.body=some c) (hk:okC 19 c=true) (h:V (EE ⟨w.w,[]⟩) 19 c (vFin (EE ⟨w.w,[]⟩) [.tmp 4] R) (initE args 0) σ):ACalls (EE w) 120 args σ R:=
 ACalls.of_V' (E:=EE w) (E':=EE ⟨w.w,[]⟩) (n:=19) rfl rfl Tryz.f120 c _ Tryz.func120 hc (by kernel_rfl) (by kernel_rfl) hk hn hl h
theorem of_121 (hn:Nat.ble args.length 19=true) (hl:Nat.blt args.length 1000=true) {c:Code} (hc:Tryz.f121.body=some c) (hk:okC 19 c=true) (h:V (EE ⟨w.w,[]⟩) 19 c (vFin (EE ⟨w.w,[]⟩) [.tmp 4] R) (initE args 0) σ):ACalls (EE w) 121 args σ R:=
 ACalls.of_V' (E:=EE w) (E':=EE ⟨w.w,[]⟩) (n:=19) rfl rfl Tryz.f121 c _ Tryz.func121 hc (by kernel_rfl) (by kernel_rfl) hk hn hl h
theorem of_122 (hn:Nat.ble args.length 19=true) (hl:Nat.blt args.length 1000=true) {c:Code} (hc:Tryz.f122.body=some c) (hk:okC 19 c=true) (h:V (EE ⟨w.w,[]⟩) 19 c (vFin (EE ⟨w.w,[]⟩) [.tmp 4] R) (initE args 0) σ):ACalls (EE w) 122 args σ R:=
 ACalls.of_V' (E:=EE w) (E':=EE ⟨w.w,[]⟩) (n:=19) rfl rfl Tryz.f122 c _ Tryz.func122 hc (by kernel_rfl) (by kernel_rfl) hk hn hl h
theorem of_123 (hn:Nat.ble args.length 6=true) (hl:Nat.blt args.length 1000=true) {c:Code} (hc:Tryz.f123.body=some c) (hk:okC 6 c=true) (h:V (EE ⟨w.w,[]⟩) 6 c (vFin (EE ⟨w.w,[]⟩) [.tmp 2] R) (initE args 0) σ):ACalls (EE w) 123 args σ R:=
 ACalls.of_V' (E:=EE w) (E':=EE ⟨w.w,[]⟩) (n:=6) rfl rfl Tryz.f123 c _ Tryz.func123 hc (by kernel_rfl) (by kernel_rfl) hk hn hl h
theorem of_124 (hn:Nat.ble args.length 35=true) (hl:Nat.blt args.length 1000=true) {c:Code} (hc:Tryz.f124.body=some c) (hk:okC 35 c=true) (h:V (EE ⟨w.w,[]⟩) 35 c (vFin (EE ⟨w.w,[]⟩) [.cell 2 119] R) (initE args 0) σ):ACalls (EE w) 124 args σ R:=
 ACalls.of_V' (E:=EE w) (E':=EE ⟨w.w,[]⟩) (n:=35) rfl rfl Tryz.f124 c _ Tryz.func124 hc (by kernel_rfl) (by kernel_rfl) hk hn hl h
theorem od_125 (hn:Nat.ble args.length 16=true) (hl:Nat.blt args.length 1000=true) {c:Code} (hc:Tryz.f125.body=some c) (hk:okC 16 c=true) (h:V (EE ⟨w.w,[]⟩) 16 c (vFin (EE ⟨w.w,[]⟩) [] R) (initE args 0) σ):ACallsD (EE w) 125 args σ R:=
 ACallsD.of_V' (E:=EE w) (E':=EE ⟨w.w,[]⟩) (n:=16) rfl rfl Tryz.f125 c _ Tryz.func125 hc (by kernel_rfl) (by kernel_rfl) hk hn hl h
theorem of_127 (hn:Nat.ble args.length 19=true) (hl:Nat.blt args.length 1000=true) {c:Code} (hc:Tryz.f127.body=some c) (hk:okC 19 c=true) (h:V (EE ⟨w.w,[]⟩) 19 c (vFin (EE ⟨w.w,[]⟩) [.tmp 4] R) (initE args 0) σ):ACalls (EE w) 127 args σ R:=
 ACalls.of_V' (E:=EE w) (E':=EE ⟨w.w,[]⟩) (n:=19) rfl rfl Tryz.f127 c _ Tryz.func127 hc (by kernel_rfl) (by kernel_rfl) hk hn hl h
end
end Abs
namespace Abs
set_option linter.unusedSimpArgs false
set_option linter.unusedVariables false
set_option maxRecDepth 100000
set_option maxHeartbeats 16000000
open Go
instance:LawfulBEq ByteArray where
 eq_of_beq h:=by rw [ba_beq] at h; exact of_decide_eq_true h
 rfl {a}:=by rw [ba_beq]; exact dct rfl
inductive Ex where
 | mk (k:Int) (nm:ByteArray) (i:Int) (zs:List Ex)
inductive St where
 | mk (k:Int) (nm:ByteArray) (v:Ex) (body els:List St)
structure Fc where
 nm:ByteArray
 ps:List ByteArray
 body:List St
def sA (s:ByteArray):AVal:=.sc (.string s)
mutual
def IsEx:Ex->AVal->Prop
 | .mk k nm i zs,v=>∃ S els,v=.agg [(.sc (.int .i64 (k))),.sc (.string nm),(.sc (.int .i64 (i))),S]/\IsD 4 S els/\IsExs zs els/\in64 k/\in64 i/\nm.size<=281474976710656/\els.length<=281474976710656
def IsExs:List Ex->List AVal->Prop
 | [],els=>els=[]
 | x::xs,els=>∃ e es,els=e::es/\IsEx x e/\IsExs xs es
end
def Ex.k:Ex->Int|.mk k _ _ _=>k
def Ex.nm:Ex->ByteArray|.mk _ n _ _=>n
def Ex.i:Ex->Int|.mk _ _ i _=>i
def Ex.args:Ex->List Ex|.mk _ _ _ zs=>zs
theorem IsExs.len:∀ {zs:List Ex} {els:List AVal},IsExs zs els->els.length=zs.length
  | [], els, h => by
      simp only [IsExs] at h; subst h; rfl
  | x :: xs, els, h => by
      simp only [IsExs] at h
      obtain ⟨e,es,rfl,_,h⟩:=h
      simp [IsExs.len h]
theorem IsExs.at:∀ {zs:List Ex} {els:List AVal},IsExs zs els->∀ {j:Nat} {x:Ex},zs[j]?=some x->∃ e,els[j]?=some e/\IsEx x e
  | [],els,h,j,x,hx=>by simp at hx
  | y :: xs, els, h, j, x, hx => by
      simp only [IsExs] at h
      obtain ⟨e,es,rfl,h1,h⟩:=h
      cases j with
      | zero=>simp at hx; subst hx; exact ⟨e,rfl,h1⟩
      | succ j=>simpa using IsExs.at h (by simpa using hx)
mutual
def IsSt:St->AVal->Prop
  | .mk k nm v body els, w => ∃ SA SB SE ea eb ee, w = .agg [(.sc (.int .i64 (k))), .sc (.string nm), (.sc (.int .i64 (v.k))), .sc (.string v.nm), (.sc (.int .i64 (v.i))), SA, SB, SE] ∧ IsD 4 SA ea ∧ IsExs v.args ea ∧ IsD 8 SB eb ∧ IsSts body eb ∧ IsD 8 SE ee ∧ IsSts els ee ∧
      in64 k/\in64 v.k/\in64 v.i/\nm.size<=281474976710656/\v.nm.size<=281474976710656/\ea.length<=281474976710656/\eb.length<=281474976710656/\ee.length<=281474976710656
def IsSts:List St->List AVal->Prop
  | [],els=>els=[]
  | x::xs,els=>∃ e es,els=e::es/\IsSt x e/\IsSts xs es
end
theorem IsSts.len:∀ {zs:List St} {els:List AVal},IsSts zs els->els.length=zs.length
  | [], els, h => by
      simp only [IsSts] at h; subst h; rfl
  | x :: xs, els, h => by
      simp only [IsSts] at h
      obtain ⟨e,es,rfl,_,h⟩:=h
      simp [IsSts.len h]
theorem IsSts.at:∀ {zs:List St} {els:List AVal},IsSts zs els->∀ {j:Nat} {x:St},zs[j]?=some x->∃ e,els[j]?=some e/\IsSt x e
  | [],els,h,j,x,hx=>by simp at hx
  | y :: xs, els, h, j, x, hx => by
      simp only [IsSts] at h
      obtain ⟨e,es,rfl,h1,h⟩:=h
      cases j with
      | zero=>simp at hx; subst hx; exact ⟨e,rfl,h1⟩
      | succ j=>simpa using IsSts.at h (by simpa using hx)
def IsFc (f:Fc) (w:AVal):Prop:=∃ SP SB eb,w=.agg [.sc (.string f.nm),SP,SB]/\IsD 1 SP (f.ps.map sA)/\IsD 8 SB eb/\IsSts f.body eb/\f.nm.size<=281474976710656/\(∀ p∈f.ps,p.size<=281474976710656)/\f.ps.length<=281474976710656/\eb.length<=281474976710656
mutual
theorem IsEx.wf:∀ {x:Ex} {v:AVal},IsEx x v->WF 0 v
  | .mk k nm i zs, v, h => by
      simp only [IsEx] at h
      obtain ⟨S,els,rfl,hS,hs,_⟩:=h
      exact .agg _ (.cons _ _ (.sc _) (.cons _ _ (.sc _) (.cons _ _ (.sc _) (.cons _ _ (hS.wf (IsExs.wf hs)) .nil))))
theorem IsExs.wf:∀ {zs:List Ex} {els:List AVal},IsExs zs els->WFs 0 els
  | [],els,h=>by simp only [IsExs] at h; subst h; exact .nil
  | x :: xs, els, h => by
      simp only [IsExs] at h
      obtain ⟨e,es,rfl,h1,h⟩:=h
      exact .cons _ _ (IsEx.wf h1) (IsExs.wf h)
end
mutual
theorem IsSt.wf:∀ {x:St} {v:AVal},IsSt x v->WF 0 v
  | .mk k nm w body els, v, h => by
      simp only [IsSt] at h
      obtain ⟨SA,SB,SE,ea,eb,ee,rfl,hA,ha,hB,hb,hE,he,_⟩:=h
      exact .agg _ (.cons _ _ (.sc _) (.cons _ _ (.sc _) (.cons _ _ (.sc _) (.cons _ _ (.sc _) (.cons _ _ (.sc _) (.cons _ _ (hA.wf (IsExs.wf ha)) (.cons _ _ (hB.wf (IsSts.wf hb)) (.cons _ _ (hE.wf (IsSts.wf he)) .nil))))))))
theorem IsSts.wf:∀ {zs:List St} {els:List AVal},IsSts zs els->WFs 0 els
  | [],els,h=>by simp only [IsSts] at h; subst h; exact .nil
  | x :: xs, els, h => by
      simp only [IsSts] at h
      obtain ⟨e,es,rfl,h1,h⟩:=h
      exact .cons _ _ (IsSt.wf h1) (IsSts.wf h)
end
theorem wf_sA (l:List ByteArray):WFs 0 (l.map sA):=WFs.map fun _=>.sc _
theorem IsFc.wf {f:Fc} {w:AVal} (h:IsFc f w):WF 0 w:=by
 obtain ⟨SP,SB,eb,rfl,hP,hB,hb,_⟩:=h
 exact .agg _ (.cons _ _ (.sc _) (.cons _ _ (hP.wf (wf_sA _)) (.cons _ _ (hB.wf (IsSts.wf hb)) .nil)))
end Abs
namespace Abs
set_option linter.unusedSimpArgs false
set_option linter.unusedVariables false
set_option maxRecDepth 100000
set_option maxHeartbeats 16000000
open Go
/-- How many parts a kind may have. -/
def arityB (k:Int) (n:Nat):Bool:=
 if k=1\/k=2 then decide (n=0)
 else if k=3\/k=4 then decide (n=1)
 else if 5<=k/\k<=17 then decide (n=2)
 else if k=18 then decide (n=3)
 else decide (k=19)
variable (nameB:ByteArray->Bool)
mutual
def formedB:Ex->Bool
 | .mk k nm i zs=>(arityB k zs.length && (if k=2\/k=19 then nameB nm else decide (nm.size=0))) && ((decide (i=0) || decide (k=1)) && (decide (-2147483648<=i) && decide (i<=2147483648))) && formedBs zs
def formedBs:List Ex->Bool
 | []=>true
 | x::xs=>formedB x && formedBs xs
end
theorem formedBs_all:∀ l,formedBs nameB l=l.all (formedB nameB)
 | []=>rfl
 | x::xs=>by simp [formedBs,formedBs_all xs]
mutual
def formedS:St->Bool
  | .mk k nm v body els => (decide (1 ≤ k) && decide (k ≤ 5)) && (if k = 1 ∨ k = 2 then nameB nm else decide (nm.size = 0)) && formedB nameB v &&
      ((decide (body.length=0) || (decide (k=3) || decide (k=4))) && (decide (els.length=0) || decide (k=3))) && formedSs body && formedSs els
def formedSs:List St->Bool
  | []=>true
  | x::xs=>formedS x && formedSs xs
end
theorem formedSs_all:∀ l,formedSs nameB l=l.all (formedS nameB)
 | []=>rfl
 | x::xs=>by simp [formedSs,formedSs_all xs]
mutual
def nodesE:Ex->Nat
 | .mk _ _ _ zs=>1+nodesEs zs
def nodesEs:List Ex->Nat
 | []=>0
 | x::xs=>nodesE x+nodesEs xs
end
mutual
def depthE:Ex->Nat
 | .mk _ _ _ zs=>1+depthEs zs
def depthEs:List Ex->Nat
 | []=>0
 | x::xs=>max (depthE x) (depthEs xs)
end
mutual
def fewE:Ex->Bool
 | .mk _ _ _ zs=>decide (zs.length<=4) && fewEs zs
def fewEs:List Ex->Bool
 | []=>true
 | x::xs=>fewE x && fewEs xs
end
mutual
def nodesS:St->Nat
 | .mk _ _ v b e=>1+nodesE v+nodesSs b+nodesSs e
def nodesSs:List St->Nat
 | []=>0
 | x::xs=>nodesS x+nodesSs xs
end
mutual
def depthS:St->Nat
 | .mk _ _ v b e=>1+max (depthE v) (max (depthSs b) (depthSs e))
def depthSs:List St->Nat
 | []=>0
 | x::xs=>max (depthS x) (depthSs xs)
end
mutual
def fewS:St->Bool
 | .mk _ _ v b e=>fewE v && fewSs b && fewSs e
def fewSs:List St->Bool
 | []=>true
 | x::xs=>fewS x && fewSs xs
end
def smallE (x:Ex):Bool:=decide (nodesE x<=400) && decide (depthE x<=30) && fewE x
def nodesF (l:List Fc):Nat:=(l.map fun f=>nodesSs f.body).sum
def smallF (l:List Fc):Bool:=(l.all fun f=>decide (depthSs f.body<=30) && fewSs f.body && decide (f.ps.length<=4)) && decide (nodesF l<=400) && decide (l.length<=8)
/-- 0: well; 2: no well-formed one; 3: too large. -/
def checkE (x:Ex):Int:=if formedB nameB x then (if smallE x then 0 else 3) else 2
def formedF (f:Fc):Bool:=nameB f.nm && f.ps.all nameB && formedSs nameB f.body
def checkF (l:List Fc):Int:=if l.all (formedF nameB) then (if smallF l then 0 else 3) else 2
def fcOf (l:List Fc) (nm:ByteArray):Option Fc:=l.find? fun f=>decide (f.nm=nm)
mutual
def expE (g o:List ByteArray) (l:List Fc):Ex->Int
 | .mk k nm _ zs=>
  match expEs g o l zs with
  | 0=>
   if k=2 then (if nm∈g\/nm∈o then 0 else 90)
   else if k=19 then (match fcOf l nm with
    | none=>90
    | some f=>if f.ps.length=zs.length then 0 else 91)
   else 0
  | e=>e
def expEs (g o:List ByteArray) (l:List Fc):List Ex->Int
 | []=>0
 | x::xs=>match expE g o l x with
  | 0=>expEs g o l xs
  | e=>e
end
mutual
def stE (g o:List ByteArray) (l:List Fc):St->Int
 | .mk k nm v b e=>
  match expE g o l v with
  | 0=>
   if (k=1/\(nm∈g\/nm∈o))\/(k=2/\nm ∉ o) then 90
   else match stEs g (if k=1 then o++[nm] else o) l b with
    | 0=>stEs g (if k=1 then o++[nm] else o) l e
    | e=>e
  | e=>e
def stEs (g o:List ByteArray) (l:List Fc):List St->Int
 | []=>0
 | x::xs=>match stE g o l x with
  | 0=>stEs g (match x with|.mk k nm _ _ _=>if k=1 then o++[nm] else o) l xs
  | e=>e
end
mutual
def retS:St->Bool
 | .mk k _ _ b e=>decide (k=5) || (decide (k=3) && retSs b && retSs e)
def retSs:List St->Bool
 | []=>false
 | x::xs=>retS x || retSs xs
end
/-- The first static error of a function behind others. -/
def parsBad (g:List ByteArray):List ByteArray->List ByteArray->Bool
 | _,[]=>false
 | o,p::ps=>decide (p∈g\/p∈o) || parsBad g (o++[p]) ps
def fnE (g:List ByteArray) (l:List Fc) (f:Fc):Int:=
 if f.nm∈g\/(fcOf l f.nm).isSome then 90
 else if parsBad g [] f.ps then 90
 else match stEs g f.ps l f.body with
  | 0=>if retSs f.body then 0 else 92
  | e=>e
def goF (g:List ByteArray):List Fc->List Fc->Int×Int
 | _,[]=>(0,0)
 | l,f::r=>match fnE g l f with
  | 0=>goF g (l++[f]) r
  | e=>(l.length,e)
def funcsP (l:List Fc) (g:List ByteArray):Int×Int:=
 match checkF nameB l with
 | 0=>goF g [] l
 | e=>(0,e)
def expP (x:Ex) (g:List ByteArray) (l:List Fc):Int:=
 match checkE nameB x with
 | 0=>match (funcsP nameB l g).2 with
  | 0=>expE g [] l x
  | e=>e
 | e=>e
end Abs
namespace Abs
set_option linter.unusedSimpArgs false
set_option linter.unusedVariables false
set_option maxRecDepth 100000
set_option maxHeartbeats 16000000
open Go
variable (nameB:ByteArray->Bool)
theorem goF_cons {g:List ByteArray} {f:Fc} {r d:List Fc}:goF g d (f::r)=if fnE g d f=0 then goF g (d++[f]) r else ((d.length:Int),fnE g d f):=by
 simp only [goF]
 by_cases h:fnE g d f=0
 ·simp only [h,if_true]
 ·rw [if_neg h]
  split
  ·rename_i h'; exact absurd h' h
  ·rfl
end Abs
end
