/-
  Functions of the program walked: each is shown to compute a plain function (TF).
-/
import Derived.Test.YtdbkkindfakbfaaGreatProg
import Derived.Test.YtdbkkindfakbfaaGreatAbsDf
import Derived.Test.YtdbkkindfakbfaaGreatAbsTyW
import Derived.KernelRfl
set_option linter.unusedSimpArgs false
set_option linter.unusedVariables false
set_option maxRecDepth 100000
set_option maxHeartbeats 16000000
noncomputable section
namespace Abs
open Go Go.Proofs
noncomputable def EE (w:WD):Env:={Env.of Tryz.prog w.w with ds:=w.ds}
def OfT (w:WD) (f:Func) (k n:Nat) (rs:List ResultVar):Prop:=∀ {args:List AVal} {σ:AStore} {R:AEnd->AStore->Prop} (_:Nat.ble args.length n=true) (_:Nat.blt args.length 1000=true) {c:Code} (_:f.body=some c) (_:okC n c=true) (_:V (EE ⟨w.w,[]⟩) n c (vFin (EE ⟨w.w,[]⟩) rs R) (initE args 0) σ),ACalls (EE w) k args σ R
section
variable {w:WD} {lit:Bool} {ρ:ARho} {σ:AStore} {args:List AVal} {R:AEnd->AStore->Prop}
theorem OfT.mk {f:Func} {k n:Nat} {rs:List ResultVar} (hf:Tryz.prog.funcs[k]?=some f) (h1:f.results.toList=rs) (h2:f.ntmps=n):OfT w f k n rs:=fun hn hl _ hc hk h=>ACalls.of_V' (E:=EE w) (E':=EE ⟨w.w,[]⟩) (n:=n) rfl rfl f _ _ hf hc h1 h2 hk hn hl h
def OdT (w:WD) (f:Func) (k n:Nat) (rs:List ResultVar):Prop:=∀ {args:List AVal} {σ:AStore} {R:AEnd->AStore->Prop} (_:Nat.ble args.length n=true) (_:Nat.blt args.length 1000=true) {c:Code} (_:f.body=some c) (_:okC n c=true) (_:V (EE ⟨w.w,[]⟩) n c (vFin (EE ⟨w.w,[]⟩) rs R) (initE args 0) σ),ACallsD (EE w) k args σ R
theorem OdT.mk {f:Func} {k n:Nat} {rs:List ResultVar} (hf:Tryz.prog.funcs[k]?=some f) (h1:f.results.toList=rs) (h2:f.ntmps=n):OdT w f k n rs:=fun hn hl _ hc hk h=>ACallsD.of_V' (E:=EE w) (E':=EE ⟨w.w,[]⟩) (n:=n) rfl rfl f _ _ hf hc h1 h2 hk hn hl h
def OtT (w:WD) (f:Func) (k n:Nat):Prop:=∀ {args:List AVal} {σ:AStore} {R:AEnd->AStore->Prop} (_:Nat.ble args.length n=true) (_:Nat.blt args.length 1000=true) {c:Code} (_:f.body=some c) (_:okC n c=true) (_:Top (EE ⟨w.w,[]⟩) n c (aEndD (EE ⟨w.w,[]⟩) f R) (initE args 0) σ),ACalls (EE w) k args σ R
theorem OtT.mk {f:Func} {k n:Nat} (hf:Tryz.prog.funcs[k]?=some f) (h2:f.ntmps=n):OtT w f k n:=fun hn hl _ hc hk h=>ACalls.of_Top (E:=EE w) (E':=EE ⟨w.w,[]⟩) (n:=n) rfl rfl f _ hf hc h2 hk hn hl h
theorem fn_5:(EE w).fns 5=true:=by kernel_rfl
theorem ty_24:tyA (EE w) 24=some (true,4):=by kernel_rfl
theorem ty_28:tyA (EE w) 28=some (true,2):=by kernel_rfl
theorem fn_6:(EE w).fns 6=true:=by kernel_rfl
theorem bs_26 {n:Nat} {ps:Array (Nat×Operand)}:aOp (EE w) lit (.buildSlice 26 n ps) ρ σ=opBuildSl σ lit ⟨1,8,(.sc (.int .i64 0))⟩ n (partsSome ρ ps.toList):=op_buildSlice (by kernel_rfl)
theorem fa_28_1 {x:Operand}:aOp (EE w) lit (.fieldAddr 28 x 1) ρ σ=opFA σ (some (1,false,1)) (ρ x):=op_fieldAddr (by kernel_rfl)
theorem ty_26:tyA (EE w) 26=some (false,1):=by kernel_rfl
theorem ap_26 {a x:AVal}:opBi (EE w) .append [26,26] σ (some [a,x])=opApp (EE w) 26 σ ⟨1,8,(.sc (.int .i64 0))⟩ a (aSrc 1 x σ):=bi_append (by kernel_rfl)
theorem fa_28_0 {x:Operand}:aOp (EE w) lit (.fieldAddr 28 x 0) ρ σ=opFA σ (some (0,false,1)) (ρ x):=op_fieldAddr (by kernel_rfl)
theorem ty_25:tyA (EE w) 25=some (false,1):=by kernel_rfl
theorem fn_7:(EE w).fns 7=true:=by kernel_rfl
theorem fn_8:(EE w).fns 8=true:=by kernel_rfl
theorem fn_9:(EE w).fns 9=true:=by kernel_rfl
theorem fn_10:(EE w).fns 10=true:=by kernel_rfl
theorem fn_11:(EE w).fns 11=true:=by kernel_rfl
theorem bs_25 {n:Nat} {ps:Array (Nat×Operand)}:aOp (EE w) lit (.buildSlice 25 n ps) ρ σ=opBuildSl σ lit ⟨1,16,(.sc (.string ⟨#[]⟩))⟩ n (partsSome ρ ps.toList):=op_buildSlice (by kernel_rfl)
theorem ap_25 {a x:AVal}:opBi (EE w) .append [25,25] σ (some [a,x])=opApp (EE w) 25 σ ⟨1,16,(.sc (.string ⟨#[]⟩))⟩ a (aSrc 1 x σ):=bi_append (by kernel_rfl)
theorem fn_13:(EE w).fns 13=true:=by kernel_rfl
theorem fn_16:(EE w).fns 16=true:=by kernel_rfl
theorem fn_17:(EE w).fns 17=true:=by kernel_rfl
theorem ln_26 {x:AVal}:opBi (EE w) .len [26] σ (some [x])=.ofV σ (aLen (.slice 0) x σ):=bi_len (by kernel_rfl)
theorem fn_18:(EE w).fns 18=true:=by kernel_rfl
theorem fn_19:(EE w).fns 19=true:=by kernel_rfl
theorem fn_20:(EE w).fns 20=true:=by kernel_rfl
theorem fn_21:(EE w).fns 21=true:=by kernel_rfl
theorem ia_26 {x y:Operand}:aOp (EE w) lit (.indexAddr 26 x y) ρ σ=opIA σ ⟨1,8,(.sc (.int .i64 0))⟩ (ρ x) (ρ y):=op_indexAddr (by kernel_rfl)
theorem ty_2:tyA (EE w) 2=some (false,1):=by kernel_rfl
theorem fa_24_3 {x:Operand}:aOp (EE w) lit (.fieldAddr 24 x 3) ρ σ=opFA σ (some (3,false,1)) (ρ x):=op_fieldAddr (by kernel_rfl)
theorem ty_22:tyA (EE w) 22=some (false,1):=by kernel_rfl
theorem ln_22 {x:AVal}:opBi (EE w) .len [22] σ (some [x])=.ofV σ (aLen (.slice 0) x σ):=bi_len (by kernel_rfl)
theorem ia_22 {x y:Operand}:aOp (EE w) lit (.indexAddr 22 x y) ρ σ=opIA σ ⟨4,56,(.agg [(.sc (.int .i64 0)),(.sc (.string ⟨#[]⟩)),(.sc (.int .i64 0)),(.sc (.slice none 0 0))])⟩ (ρ x) (ρ y):=op_indexAddr (by kernel_rfl)
theorem fa_24_0 {x:Operand}:aOp (EE w) lit (.fieldAddr 24 x 0) ρ σ=opFA σ (some (0,false,1)) (ρ x):=op_fieldAddr (by kernel_rfl)
theorem ty_3:tyA (EE w) 3=some (false,1):=by kernel_rfl
theorem ln_25 {x:AVal}:opBi (EE w) .len [25] σ (some [x])=.ofV σ (aLen (.slice 0) x σ):=bi_len (by kernel_rfl)
theorem ia_25 {x y:Operand}:aOp (EE w) lit (.indexAddr 25 x y) ρ σ=opIA σ ⟨1,16,(.sc (.string ⟨#[]⟩))⟩ (ρ x) (ρ y):=op_indexAddr (by kernel_rfl)
theorem ty_9:tyA (EE w) 9=some (false,1):=by kernel_rfl
theorem zr_24:zeroD (EE w) 24=some (.agg [(.sc (.int .i64 0)),(.sc (.string ⟨#[]⟩)),(.sc (.int .i64 0)),(.sc (.slice none 0 0))]):=by kernel_rfl
theorem fn_24:(EE w).fns 24=true:=by kernel_rfl
theorem ln_9 {x:AVal}:opBi (EE w) .len [9] σ (some [x])=.ofV σ (aLen .string x σ):=bi_lenS (by kernel_rfl)
theorem ln_29 {x:AVal}:opBi (EE w) .len [29] σ (some [x])=.ofV σ (aLen (.slice 0) x σ):=bi_len (by kernel_rfl)
theorem ia_29 {x y:Operand}:aOp (EE w) lit (.indexAddr 29 x y) ρ σ=opIA σ ⟨3,64,(.agg [(.sc (.string ⟨#[]⟩)),(.sc (.slice none 0 0)),(.sc (.slice none 0 0))])⟩ (ρ x) (ρ y):=op_indexAddr (by kernel_rfl)
theorem fa_57_1 {x:Operand}:aOp (EE w) lit (.fieldAddr 57 x 1) ρ σ=opFA σ (some (1,false,1)) (ρ x):=op_fieldAddr (by kernel_rfl)
theorem fa_57_2 {x:Operand}:aOp (EE w) lit (.fieldAddr 57 x 2) ρ σ=opFA σ (some (2,false,1)) (ρ x):=op_fieldAddr (by kernel_rfl)
theorem ty_55:tyA (EE w) 55=some (false,1):=by kernel_rfl
theorem fa_57_0 {x:Operand}:aOp (EE w) lit (.fieldAddr 57 x 0) ρ σ=opFA σ (some (0,false,1)) (ρ x):=op_fieldAddr (by kernel_rfl)
theorem fn_25:(EE w).fns 25=true:=by kernel_rfl
theorem zr_2:zeroD (EE w) 2=some (.sc (.int .i64 0)):=by kernel_rfl
theorem zr_3:zeroD (EE w) 3=some (.sc (.int .i64 0)):=by kernel_rfl
theorem zr_32:zeroD (EE w) 32=some (.sc (.int .i64 0)):=by kernel_rfl
theorem zr_4:zeroD (EE w) 4=some (.sc (.bool false)):=by kernel_rfl
theorem ty_32:tyA (EE w) 32=some (false,1):=by kernel_rfl
theorem ty_4:tyA (EE w) 4=some (false,1):=by kernel_rfl
theorem fn_26:(EE w).fns 26=true:=by kernel_rfl
theorem bd_65 {ps:Array (Nat×Operand)}:aOp (EE w) lit (.build 65 ps) ρ σ=opBuild σ (some ([(0,1),(1,1),(2,1),(3,1)],[(.sc (.map none)),(.sc (.map none)),(.sc (.map none)),(.sc (.int .i64 0))])) (partsSome ρ ps.toList):=op_build (by kernel_rfl)
theorem zr_59:zeroD (EE w) 59=some (.sc (.pointer none)):=by kernel_rfl
theorem ty_59:tyA (EE w) 59=some (false,1):=by kernel_rfl
theorem fa_65_0 {x:Operand}:aOp (EE w) lit (.fieldAddr 65 x 0) ρ σ=opFA σ (some (0,false,1)) (ρ x):=op_fieldAddr (by kernel_rfl)
theorem ty_60:tyA (EE w) 60=some (false,1):=by kernel_rfl
theorem lk_60 {x k:Operand} {ok:Bool}:aOp (EE w) lit (.lookup 60 x k ok) ρ σ=opLk σ .string (.int .i64 0) ok (ρ x) (ρ k):=op_lookup (by kernel_rfl)
theorem mu_60 {m k x:Operand}:aOp (EE w) lit (.mapUpdate 60 m k x) ρ σ=opMs σ .string (ρ m) (ρ k) (ρ x):=op_mapUpdate (z:=.int Go.IntKind.i64 (0)) (by kernel_rfl)
theorem fn_27:(EE w).fns 27=true:=by kernel_rfl
theorem ty_57:tyA (EE w) 57=some (true,3):=by kernel_rfl
theorem zr_57:zeroD (EE w) 57=some (.agg [(.sc (.string ⟨#[]⟩)),(.sc (.slice none 0 0)),(.sc (.slice none 0 0))]):=by kernel_rfl
theorem fa_65_1 {x:Operand}:aOp (EE w) lit (.fieldAddr 65 x 1) ρ σ=opFA σ (some (1,false,1)) (ρ x):=op_fieldAddr (by kernel_rfl)
theorem ty_61:tyA (EE w) 61=some (false,1):=by kernel_rfl
theorem mu_61 {m k x:Operand}:aOp (EE w) lit (.mapUpdate 61 m k x) ρ σ=opMs σ .string (ρ m) (ρ k) (ρ x):=op_mapUpdate (z:=.agg #[.string ⟨#[]⟩,.slice none 0 0,.slice none 0 0]) (by kernel_rfl)
theorem fn_29:(EE w).fns 29=true:=by kernel_rfl
theorem fa_65_3 {x:Operand}:aOp (EE w) lit (.fieldAddr 65 x 3) ρ σ=opFA σ (some (3,false,1)) (ρ x):=op_fieldAddr (by kernel_rfl)
theorem sl_25 {x:Operand} {lo hi:Option Operand}:aOp (EE w) lit (.slice 25 x lo hi none) ρ σ=opSl σ ⟨1,16,(.sc (.string ⟨#[]⟩))⟩ (ρ x) (optSome ρ lo) (optSome ρ hi):=op_slice (by kernel_rfl)
theorem fn_30:(EE w).fns 30=true:=by kernel_rfl
theorem bd_75 {ps:Array (Nat×Operand)}:aOp (EE w) lit (.build 75 ps) ρ σ=opBuild σ (some ([(0,1),(1,1),(2,1),(3,1)],[(.sc (.slice none 0 0)),(.sc (.slice none 0 0)),(.sc (.int .i64 0)),(.sc (.int .i64 0))])) (partsSome ρ ps.toList):=op_build (by kernel_rfl)
theorem fa_75_0 {x:Operand}:aOp (EE w) lit (.fieldAddr 75 x 0) ρ σ=opFA σ (some (0,false,1)) (ρ x):=op_fieldAddr (by kernel_rfl)
theorem ty_73:tyA (EE w) 73=some (false,1):=by kernel_rfl
theorem bd_77 {ps:Array (Nat×Operand)}:aOp (EE w) lit (.build 77 ps) ρ σ=opBuild σ (some ([(0,1),(1,1)],[(.sc (.string ⟨#[]⟩)),(.sc (.int .i64 0))])) (partsSome ρ ps.toList):=op_build (by kernel_rfl)
theorem bs_73 {n:Nat} {ps:Array (Nat×Operand)}:aOp (EE w) lit (.buildSlice 73 n ps) ρ σ=opBuildSl σ lit ⟨2,24,(.agg [(.sc (.string ⟨#[]⟩)),(.sc (.int .i64 0))])⟩ n (partsSome ρ ps.toList):=op_buildSlice (by kernel_rfl)
theorem ap_73 {a x:AVal}:opBi (EE w) .append [73,73] σ (some [a,x])=opApp (EE w) 73 σ ⟨2,24,(.agg [(.sc (.string ⟨#[]⟩)),(.sc (.int .i64 0))])⟩ a (aSrc 2 x σ):=bi_append (by kernel_rfl)
theorem fn_31:(EE w).fns 31=true:=by kernel_rfl
theorem fa_75_3 {x:Operand}:aOp (EE w) lit (.fieldAddr 75 x 3) ρ σ=opFA σ (some (3,false,1)) (ρ x):=op_fieldAddr (by kernel_rfl)
theorem fa_75_2 {x:Operand}:aOp (EE w) lit (.fieldAddr 75 x 2) ρ σ=opFA σ (some (2,false,1)) (ρ x):=op_fieldAddr (by kernel_rfl)
theorem ty_5:tyA (EE w) 5=some (false,1):=by kernel_rfl
theorem fn_34:(EE w).fns 34=true:=by kernel_rfl
theorem fn_36:(EE w).fns 36=true:=by kernel_rfl
theorem fa_24_1 {x:Operand}:aOp (EE w) lit (.fieldAddr 24 x 1) ρ σ=opFA σ (some (1,false,1)) (ρ x):=op_fieldAddr (by kernel_rfl)
theorem ln_55 {x:AVal}:opBi (EE w) .len [55] σ (some [x])=.ofV σ (aLen (.slice 0) x σ):=bi_len (by kernel_rfl)
theorem ia_55 {x y:Operand}:aOp (EE w) lit (.indexAddr 55 x y) ρ σ=opIA σ ⟨8,128,(.agg [(.sc (.int .i64 0)),(.sc (.string ⟨#[]⟩)),(.sc (.int .i64 0)),(.sc (.string ⟨#[]⟩)),(.sc (.int .i64 0)),(.sc (.slice none 0 0)),(.sc (.slice none 0 0)),(.sc (.slice none 0 0))])⟩ (ρ x) (ρ y):=op_indexAddr (by kernel_rfl)
theorem fa_91_2 {x:Operand}:aOp (EE w) lit (.fieldAddr 91 x 2) ρ σ=opFA σ (some (2,true,4)) (ρ x):=op_fieldAddr (by kernel_rfl)
theorem fa_91_1 {x:Operand}:aOp (EE w) lit (.fieldAddr 91 x 1) ρ σ=opFA σ (some (1,false,1)) (ρ x):=op_fieldAddr (by kernel_rfl)
theorem fa_91_3 {x:Operand}:aOp (EE w) lit (.fieldAddr 91 x 3) ρ σ=opFA σ (some (6,false,1)) (ρ x):=op_fieldAddr (by kernel_rfl)
theorem fa_91_4 {x:Operand}:aOp (EE w) lit (.fieldAddr 91 x 4) ρ σ=opFA σ (some (7,false,1)) (ρ x):=op_fieldAddr (by kernel_rfl)
theorem mi_62 {m k x:Operand}:aOp (EE w) lit (.insert 62 m k x) ρ σ=opMs σ (.int Go.IntKind.i64) (ρ m) (ρ k) (ρ x):=op_insert (z:=.nilFunc) (by kernel_rfl)
theorem fn_53:(EE w).fns 53=true:=by kernel_rfl
theorem fn_54:(EE w).fns 54=true:=by kernel_rfl
theorem fn_55:(EE w).fns 55=true:=by kernel_rfl
theorem ifc_20:ifcD (EE w) 20=some true:=by kernel_rfl
theorem as_69 {x:Operand}:aOp (EE w) lit (.typeAssert x 20 69 true) ρ σ=opAs σ (.agg #[.int Go.IntKind.i64 (0)]) 69 (ρ x):=op_assert (by kernel_rfl)
theorem zr_69:zeroD (EE w) 69=some (.agg [(.sc (.int .i64 0))]):=by kernel_rfl
theorem ty_69:tyA (EE w) 69=some (true,1):=by kernel_rfl
theorem fa_69_0 {x:Operand}:aOp (EE w) lit (.fieldAddr 69 x 0) ρ σ=opFA σ (some (0,false,1)) (ρ x):=op_fieldAddr (by kernel_rfl)
theorem fn_56:(EE w).fns 56=true:=by kernel_rfl
theorem fa_24_2 {x:Operand}:aOp (EE w) lit (.fieldAddr 24 x 2) ρ σ=opFA σ (some (2,false,1)) (ρ x):=op_fieldAddr (by kernel_rfl)
theorem lk_99 {x k:Operand} {ok:Bool}:aOp (EE w) lit (.lookup 99 x k ok) ρ σ=opLk σ .string (.int .i64 0) ok (ρ x) (ρ k):=op_lookup (by kernel_rfl)
theorem fn_41:(EE w).fns 41=true:=by kernel_rfl
theorem zr_100:zeroD (EE w) 100=some (.agg [(.sc (.int .i64 0)),(.sc (.int .i64 0)),(.sc (.int .i64 0)),(.sc (.int .i64 0))]):=by kernel_rfl
theorem ia_100 {x y:Operand}:aOp (EE w) lit (.indexAddr 100 x y) ρ σ=opIAA σ (4,1) (ρ x) (ρ y):=op_indexAddrA (by kernel_rfl)
theorem lk_61 {x k:Operand} {ok:Bool}:aOp (EE w) lit (.lookup 61 x k ok) ρ σ=opLk σ .string (.agg #[.string ⟨#[]⟩,.slice none 0 0,.slice none 0 0]) ok (ρ x) (ρ k):=op_lookup (by kernel_rfl)
theorem mu_99 {m k x:Operand}:aOp (EE w) lit (.mapUpdate 99 m k x) ρ σ=opMs σ .string (ρ m) (ρ k) (ρ x):=op_mapUpdate (z:=.int Go.IntKind.i64 (0)) (by kernel_rfl)
theorem fn_57:(EE w).fns 57=true:=by kernel_rfl
theorem fa_65_2 {x:Operand}:aOp (EE w) lit (.fieldAddr 65 x 2) ρ σ=opFA σ (some (2,false,1)) (ρ x):=op_fieldAddr (by kernel_rfl)
theorem ty_62:tyA (EE w) 62=some (false,1):=by kernel_rfl
theorem lk_62 {x k:Operand} {ok:Bool}:aOp (EE w) lit (.lookup 62 x k ok) ρ σ=opLk σ (.int Go.IntKind.i64) (.nilFunc) ok (ρ x) (ρ k):=op_lookup (by kernel_rfl)
theorem bd_69 {ps:Array (Nat×Operand)}:aOp (EE w) lit (.build 69 ps) ρ σ=opBuild σ (some ([(0,1)],[(.sc (.int .i64 0))])) (partsSome ρ ps.toList):=op_build (by kernel_rfl)
theorem mkI_69 {x:Operand}:aOp (EE w) lit (.makeInterface 69 x) ρ σ=opMkI 69 σ (ρ x):=op_mkI (by kernel_rfl)
theorem fn_58:(EE w).fns 58=true:=by kernel_rfl
theorem fn_59:(EE w).fns 59=true:=by kernel_rfl
theorem bd_104 {ps:Array (Nat×Operand)}:aOp (EE w) lit (.build 104 ps) ρ σ=opBuild σ (some ([(0,1),(1,1),(2,1)],[(.sc (.slice none 0 0)),(.sc (.slice none 0 0)),(.sc (.slice none 0 0))])) (partsSome ρ ps.toList):=op_build (by kernel_rfl)
theorem fn_60:(EE w).fns 60=true:=by kernel_rfl
theorem fn_61:(EE w).fns 61=true:=by kernel_rfl
theorem fn_62:(EE w).fns 62=true:=by kernel_rfl
theorem fn_63:(EE w).fns 63=true:=by kernel_rfl
theorem fn_64:(EE w).fns 64=true:=by kernel_rfl
theorem fn_65:(EE w).fns 65=true:=by kernel_rfl
theorem ixs_9 {x y:Operand}:aOp (EE w) lit (.index 9 x y) ρ σ=opIS σ (ρ x) (ρ y):=op_index_str (by kernel_rfl)
theorem fn_66:(EE w).fns 66=true:=by kernel_rfl
theorem fn_67:(EE w).fns 67=true:=by kernel_rfl
theorem fn_73:(EE w).fns 73=true:=by kernel_rfl
theorem fn_75:(EE w).fns 75=true:=by kernel_rfl
theorem ty_92:tyA (EE w) 92=some (false,1):=by kernel_rfl
theorem fn_76:(EE w).fns 76=true:=by kernel_rfl
theorem fn_77:(EE w).fns 77=true:=by kernel_rfl
theorem fn_78:(EE w).fns 78=true:=by kernel_rfl
theorem fn_79:(EE w).fns 79=true:=by kernel_rfl
theorem fn_80:(EE w).fns 80=true:=by kernel_rfl
theorem fn_81:(EE w).fns 81=true:=by kernel_rfl
theorem fa_127_1 {x:Operand}:aOp (EE w) lit (.fieldAddr 127 x 1) ρ σ=opFA σ (some (1,false,1)) (ρ x):=op_fieldAddr (by kernel_rfl)
theorem ty_125:tyA (EE w) 125=some (false,1):=by kernel_rfl
theorem mu_125 {m k x:Operand}:aOp (EE w) lit (.mapUpdate 125 m k x) ρ σ=opMs σ .string (ρ m) (ρ k) (ρ x):=op_mapUpdate (z:=.int Go.IntKind.i64 (0)) (by kernel_rfl)
theorem fa_127_0 {x:Operand}:aOp (EE w) lit (.fieldAddr 127 x 0) ρ σ=opFA σ (some (0,false,1)) (ρ x):=op_fieldAddr (by kernel_rfl)
theorem ty_124:tyA (EE w) 124=some (false,1):=by kernel_rfl
theorem lk_124 {x k:Operand} {ok:Bool}:aOp (EE w) lit (.lookup 124 x k ok) ρ σ=opLk σ .string (.bool false) ok (ρ x) (ρ k):=op_lookup (by kernel_rfl)
theorem lk_125 {x k:Operand} {ok:Bool}:aOp (EE w) lit (.lookup 125 x k ok) ρ σ=opLk σ .string (.int .i64 0) ok (ρ x) (ρ k):=op_lookup (by kernel_rfl)
theorem zr_25:zeroD (EE w) 25=some (.sc (.slice none 0 0)):=by kernel_rfl
theorem ty_91:tyA (EE w) 91=some (true,8):=by kernel_rfl
theorem zr_91:zeroD (EE w) 91=some (.agg [(.sc (.int .i64 0)),(.sc (.string ⟨#[]⟩)),(.sc (.int .i64 0)),(.sc (.string ⟨#[]⟩)),(.sc (.int .i64 0)),(.sc (.slice none 0 0)),(.sc (.slice none 0 0)),(.sc (.slice none 0 0))]):=by kernel_rfl
theorem ty_99:tyA (EE w) 99=some (false,1):=by kernel_rfl
theorem fa_91_0 {x:Operand}:aOp (EE w) lit (.fieldAddr 91 x 0) ρ σ=opFA σ (some (0,false,1)) (ρ x):=op_fieldAddr (by kernel_rfl)
theorem fn_83:(EE w).fns 83=true:=by kernel_rfl
theorem fn_84:(EE w).fns 84=true:=by kernel_rfl
theorem fn_85:(EE w).fns 85=true:=by kernel_rfl
theorem ty_104:tyA (EE w) 104=some (true,3):=by kernel_rfl
theorem fa_104_0 {x:Operand}:aOp (EE w) lit (.fieldAddr 104 x 0) ρ σ=opFA σ (some (0,false,1)) (ρ x):=op_fieldAddr (by kernel_rfl)
theorem fa_104_1 {x:Operand}:aOp (EE w) lit (.fieldAddr 104 x 1) ρ σ=opFA σ (some (1,false,1)) (ρ x):=op_fieldAddr (by kernel_rfl)
theorem fa_104_2 {x:Operand}:aOp (EE w) lit (.fieldAddr 104 x 2) ρ σ=opFA σ (some (2,false,1)) (ρ x):=op_fieldAddr (by kernel_rfl)
theorem ty_29:tyA (EE w) 29=some (false,1):=by kernel_rfl
theorem ln_73 {x:AVal}:opBi (EE w) .len [73] σ (some [x])=.ofV σ (aLen (.slice 0) x σ):=bi_len (by kernel_rfl)
theorem ia_73 {x y:Operand}:aOp (EE w) lit (.indexAddr 73 x y) ρ σ=opIA σ ⟨2,24,(.agg [(.sc (.string ⟨#[]⟩)),(.sc (.int .i64 0))])⟩ (ρ x) (ρ y):=op_indexAddr (by kernel_rfl)
theorem fa_77_0 {x:Operand}:aOp (EE w) lit (.fieldAddr 77 x 0) ρ σ=opFA σ (some (0,false,1)) (ρ x):=op_fieldAddr (by kernel_rfl)
theorem fa_77_1 {x:Operand}:aOp (EE w) lit (.fieldAddr 77 x 1) ρ σ=opFA σ (some (1,false,1)) (ρ x):=op_fieldAddr (by kernel_rfl)
theorem fa_75_1 {x:Operand}:aOp (EE w) lit (.fieldAddr 75 x 1) ρ σ=opFA σ (some (1,false,1)) (ρ x):=op_fieldAddr (by kernel_rfl)
theorem fn_86:(EE w).fns 86=true:=by kernel_rfl
theorem fn_93:(EE w).fns 93=true:=by kernel_rfl
theorem fn_94:(EE w).fns 94=true:=by kernel_rfl
theorem fn_95:(EE w).fns 95=true:=by kernel_rfl
theorem zr_119:zeroD (EE w) 119=some (.agg [(.sc (.int .i64 0)),(.sc (.int .i64 0)),(.sc (.bool false))]):=by kernel_rfl
theorem bd_119 {ps:Array (Nat×Operand)}:aOp (EE w) lit (.build 119 ps) ρ σ=opBuild σ (some ([(0,1),(1,1),(2,1)],[(.sc (.int .i64 0)),(.sc (.int .i64 0)),(.sc (.bool false))])) (partsSome ρ ps.toList):=op_build (by kernel_rfl)
theorem ty_119:tyA (EE w) 119=some (true,3):=by kernel_rfl
theorem fn_97:(EE w).fns 97=true:=by kernel_rfl
theorem fa_119_0 {x:Operand}:aOp (EE w) lit (.fieldAddr 119 x 0) ρ σ=opFA σ (some (0,false,1)) (ρ x):=op_fieldAddr (by kernel_rfl)
theorem fa_119_1 {x:Operand}:aOp (EE w) lit (.fieldAddr 119 x 1) ρ σ=opFA σ (some (1,false,1)) (ρ x):=op_fieldAddr (by kernel_rfl)
theorem fa_119_2 {x:Operand}:aOp (EE w) lit (.fieldAddr 119 x 2) ρ σ=opFA σ (some (2,false,1)) (ρ x):=op_fieldAddr (by kernel_rfl)
theorem fn_98:(EE w).fns 98=true:=by kernel_rfl
theorem fn_100:(EE w).fns 100=true:=by kernel_rfl
theorem fn_103:(EE w).fns 103=true:=by kernel_rfl
theorem bd_127 {ps:Array (Nat×Operand)}:aOp (EE w) lit (.build 127 ps) ρ σ=opBuild σ (some ([(0,1),(1,1)],[(.sc (.map none)),(.sc (.map none))])) (partsSome ρ ps.toList):=op_build (by kernel_rfl)
theorem mu_124 {m k x:Operand}:aOp (EE w) lit (.mapUpdate 124 m k x) ρ σ=opMs σ .string (ρ m) (ρ k) (ρ x):=op_mapUpdate (z:=.bool false) (by kernel_rfl)
theorem ty_96:tyA (EE w) 96=some (false,1):=by kernel_rfl
theorem fn_105:(EE w).fns 105=true:=by kernel_rfl
theorem fn_106:(EE w).fns 106=true:=by kernel_rfl
theorem de_99_9 {m k:AVal}:opBi (EE w) .delete [99,9] σ (some [m,k])=ofD (aMapDel .string m k σ):=bi_delete (z:=.int Go.IntKind.i64 (0)) (by kernel_rfl)
theorem fn_107:(EE w).fns 107=true:=by kernel_rfl
theorem fn_108:(EE w).fns 108=true:=by kernel_rfl
theorem fn_109:(EE w).fns 109=true:=by kernel_rfl
theorem sl_29 {x:Operand} {lo hi:Option Operand}:aOp (EE w) lit (.slice 29 x lo hi none) ρ σ=opSl σ ⟨3,64,(.agg [(.sc (.string ⟨#[]⟩)),(.sc (.slice none 0 0)),(.sc (.slice none 0 0))])⟩ (ρ x) (optSome ρ lo) (optSome ρ hi):=op_slice (by kernel_rfl)
theorem fn_110:(EE w).fns 110=true:=by kernel_rfl
theorem fn_111:(EE w).fns 111=true:=by kernel_rfl
theorem sl_73 {x:Operand} {lo hi:Option Operand}:aOp (EE w) lit (.slice 73 x lo hi none) ρ σ=opSl σ ⟨2,24,(.agg [(.sc (.string ⟨#[]⟩)),(.sc (.int .i64 0))])⟩ (ρ x) (optSome ρ lo) (optSome ρ hi):=op_slice (by kernel_rfl)
theorem fn_115:(EE w).fns 115=true:=by kernel_rfl
theorem ixa_148 {x y:Operand}:aOp (EE w) lit (.index 148 x y) ρ σ=opIxA σ (6,false,1) (ρ x) (ρ y):=op_index_arr (by kernel_rfl)
theorem rg_125 {x:Operand}:aOp (EE w) lit (.range 125 x) ρ σ=opRgM σ (ρ x):=op_rangeM (by kernel_rfl)
theorem fn_116:(EE w).fns 116=true:=by kernel_rfl
theorem fn_118:(EE w).fns 118=true:=by kernel_rfl
theorem fn_117:(EE w).fns 117=true:=by kernel_rfl
theorem cvb_9_150:bytesD (EE w) 9 150=true:=by kernel_rfl
theorem cvg_9_150 {x:Operand}:aOp (EE w) lit (.convert 9 150 x) ρ σ=opCvG (EE w) 9 150 σ (ρ x):=op_convG
theorem ln_150 {x:AVal}:opBi (EE w) .len [150] σ (some [x])=.ofV σ (aLen (.slice 0) x σ):=bi_len (by kernel_rfl)
theorem ia_150 {x y:Operand}:aOp (EE w) lit (.indexAddr 150 x y) ρ σ=opIA σ ⟨1,1,(.sc (.int Go.IntKind.u8 (0)))⟩ (ρ x) (ρ y):=op_indexAddr (by kernel_rfl)
theorem fn_119:(EE w).fns 119=true:=by kernel_rfl
theorem fn_120:(EE w).fns 120=true:=by kernel_rfl
theorem fn_121:(EE w).fns 121=true:=by kernel_rfl
theorem fn_122:(EE w).fns 122=true:=by kernel_rfl
theorem fn_102:(EE w).fns 102=true:=by kernel_rfl
theorem fn_124:(EE w).fns 124=true:=by kernel_rfl
theorem rg_124 {x:Operand}:aOp (EE w) lit (.range 124 x) ρ σ=opRgM σ (ρ x):=op_rangeM (by kernel_rfl)
theorem de_124_9 {m k:AVal}:opBi (EE w) .delete [124,9] σ (some [m,k])=ofD (aMapDel .string m k σ):=bi_delete (z:=.bool false) (by kernel_rfl)
theorem bs_156 {n:Nat} {ps:Array (Nat×Operand)}:aOp (EE w) lit (.buildSlice 156 n ps) ρ σ=opBuildSl σ lit ⟨1,24,(.sc (.slice none 0 0))⟩ n (partsSome ρ ps.toList):=op_buildSlice (by kernel_rfl)
theorem ln_156 {x:AVal}:opBi (EE w) .len [156] σ (some [x])=.ofV σ (aLen (.slice 0) x σ):=bi_len (by kernel_rfl)
theorem ia_156 {x y:Operand}:aOp (EE w) lit (.indexAddr 156 x y) ρ σ=opIA σ ⟨1,24,(.sc (.slice none 0 0))⟩ (ρ x) (ρ y):=op_indexAddr (by kernel_rfl)
theorem fn_126:(EE w).fns 126=true:=by kernel_rfl
theorem zr_148:zeroD (EE w) 148=some (.agg [(.sc (.map none)),(.sc (.map none)),(.sc (.map none)),(.sc (.map none)),(.sc (.map none)),(.sc (.map none))]):=by kernel_rfl
theorem mi_125 {m k x:Operand}:aOp (EE w) lit (.insert 125 m k x) ρ σ=opMs σ .string (ρ m) (ρ k) (ρ x):=op_insert (z:=.int Go.IntKind.i64 (0)) (by kernel_rfl)
theorem ba_148 {ps:Array (Nat×Operand)}:aOp (EE w) lit (.build 148 ps) ρ σ=opBuildA σ (1,.agg #[.map none,.map none,.map none,.map none,.map none,.map none]) (partsSome ρ ps.toList):=op_buildA (by kernel_rfl)
theorem ty_148:tyA (EE w) 148=some (true,6):=by kernel_rfl
theorem fn_127:(EE w).fns 127=true:=by kernel_rfl
attribute [go_sem] fn_5 ty_24 ty_28 fn_6 bs_26 fa_28_1 ty_26 ap_26 fa_28_0 ty_25 fn_7 fn_8 fn_9 fn_10 fn_11 bs_25 ap_25 fn_13 fn_16 fn_17 ln_26 fn_18 fn_19 fn_20 fn_21 ia_26 ty_2 fa_24_3 ty_22 ln_22 ia_22 fa_24_0 ty_3 ln_25 ia_25 ty_9 zr_24 fn_24 ln_9 ln_29 ia_29 fa_57_1 fa_57_2 ty_55 fa_57_0 fn_25 zr_2 zr_3 zr_32 zr_4 ty_32 ty_4 fn_26 bd_65 zr_59 ty_59 fa_65_0 ty_60 lk_60 mu_60 fn_27 ty_57 zr_57 fa_65_1 ty_61 mu_61 fn_29 fa_65_3 sl_25 fn_30 bd_75 fa_75_0 ty_73 bd_77 bs_73 ap_73 fn_31 fa_75_3 fa_75_2 ty_5 fn_34 fn_36 fa_24_1 ln_55 ia_55 fa_91_2 fa_91_1 fa_91_3 fa_91_4 mi_62 fn_53 fn_54 fn_55 ifc_20 as_69 zr_69 ty_69 fa_69_0 fn_56 fa_24_2 lk_99 fn_41 zr_100 ia_100 lk_61 mu_99 fn_57 fa_65_2 ty_62 lk_62 bd_69 mkI_69 fn_58 fn_59 bd_104 fn_60 fn_61 fn_62 fn_63 fn_64 fn_65 ixs_9 fn_66 fn_67 fn_73 fn_75 ty_92 fn_76 fn_77 fn_78 fn_79 fn_80 fn_81 fa_127_1 ty_125 mu_125 fa_127_0 ty_124 lk_124 lk_125 zr_25 ty_91 zr_91 ty_99 fa_91_0 fn_83 fn_84 fn_85 ty_104 fa_104_0 fa_104_1 fa_104_2 ty_29 ln_73 ia_73 fa_77_0 fa_77_1 fa_75_1 fn_86 fn_93 fn_94 fn_95 zr_119 bd_119 ty_119 fn_97 fa_119_0 fa_119_1 fa_119_2 fn_98 fn_100 fn_103 bd_127 mu_124 ty_96 fn_105 fn_106 de_99_9 fn_107 fn_108 fn_109 sl_29 fn_110 fn_111 sl_73 fn_115 ixa_148 rg_125 fn_116 fn_118 fn_117 cvb_9_150 cvg_9_150 ln_150 ia_150 fn_119 fn_120 fn_121 fn_122 fn_102 fn_124 rg_124 de_124_9 bs_156 ln_156 ia_156 fn_126 zr_148 mi_125 ba_148 ty_148 fn_127
theorem of_3:OfT w Tryz.f3 3 88 [.tmp 6]:=OfT.mk Tryz.func3 (by kernel_rfl) (by kernel_rfl)
theorem of_6:OfT w Tryz.f6 6 24 [.tmp 6]:=OfT.mk Tryz.func6 (by kernel_rfl) (by kernel_rfl)
theorem of_7:OfT w Tryz.f7 7 26 [.tmp 8,.tmp 9]:=OfT.mk Tryz.func7 (by kernel_rfl) (by kernel_rfl)
theorem of_8:OfT w Tryz.f8 8 32 [.tmp 8,.tmp 9]:=OfT.mk Tryz.func8 (by kernel_rfl) (by kernel_rfl)
theorem of_9:OfT w Tryz.f9 9 27 [.tmp 8,.tmp 9]:=OfT.mk Tryz.func9 (by kernel_rfl) (by kernel_rfl)
theorem of_10:OfT w Tryz.f10 10 32 [.tmp 8,.tmp 9]:=OfT.mk Tryz.func10 (by kernel_rfl) (by kernel_rfl)
theorem of_11:OfT w Tryz.f11 11 26 [.tmp 4]:=OfT.mk Tryz.func11 (by kernel_rfl) (by kernel_rfl)
theorem of_13:OfT w Tryz.f13 13 18 [.tmp 4]:=OfT.mk Tryz.func13 (by kernel_rfl) (by kernel_rfl)
theorem of_16:OfT w Tryz.f16 16 9 [.tmp 4]:=OfT.mk Tryz.func16 (by kernel_rfl) (by kernel_rfl)
theorem of_17:OfT w Tryz.f17 17 34 [.tmp 4]:=OfT.mk Tryz.func17 (by kernel_rfl) (by kernel_rfl)
theorem of_18:OfT w Tryz.f18 18 42 [.tmp 4]:=OfT.mk Tryz.func18 (by kernel_rfl) (by kernel_rfl)
theorem ot_19:OtT w Tryz.f19 19 101:=OtT.mk Tryz.func19 (by kernel_rfl)
theorem of_20:OfT w Tryz.f20 20 47 [.tmp 8]:=OfT.mk Tryz.func20 (by kernel_rfl) (by kernel_rfl)
theorem of_21:OfT w Tryz.f21 21 62 [.tmp 8,.tmp 9,.tmp 10]:=OfT.mk Tryz.func21 (by kernel_rfl) (by kernel_rfl)
theorem of_24:OfT w Tryz.f24 24 31 [.tmp 4]:=OfT.mk Tryz.func24 (by kernel_rfl) (by kernel_rfl)
theorem of_25:OfT w Tryz.f25 25 46 [.tmp 4]:=OfT.mk Tryz.func25 (by kernel_rfl) (by kernel_rfl)
theorem of_26:OfT w Tryz.f26 26 8 [.tmp 0]:=OfT.mk Tryz.func26 (by kernel_rfl) (by kernel_rfl)
theorem of_27:OfT w Tryz.f27 27 29 [.tmp 6]:=OfT.mk Tryz.func27 (by kernel_rfl) (by kernel_rfl)
theorem of_29:OfT w Tryz.f29 29 181 [.tmp 6]:=OfT.mk Tryz.func29 (by kernel_rfl) (by kernel_rfl)
theorem of_30:OfT w Tryz.f30 30 27 [.tmp 6]:=OfT.mk Tryz.func30 (by kernel_rfl) (by kernel_rfl)
theorem of_31:OfT w Tryz.f31 31 160 [.tmp 6]:=OfT.mk Tryz.func31 (by kernel_rfl) (by kernel_rfl)
theorem of_34:OfT w Tryz.f34 34 49 [.tmp 2]:=OfT.mk Tryz.func34 (by kernel_rfl) (by kernel_rfl)
theorem of_36:OfT w Tryz.f36 36 21 [.tmp 2]:=OfT.mk Tryz.func36 (by kernel_rfl) (by kernel_rfl)
theorem of_37:OfT w Tryz.f37 37 4 [.tmp 2]:=OfT.mk Tryz.func37 (by kernel_rfl) (by kernel_rfl)
theorem of_38:OfT w Tryz.f38 38 14 [.tmp 5]:=OfT.mk Tryz.func38 (by kernel_rfl) (by kernel_rfl)
theorem of_39:OfT w Tryz.f39 39 7 [.tmp 4]:=OfT.mk Tryz.func39 (by kernel_rfl) (by kernel_rfl)
theorem of_40:OfT w Tryz.f40 40 8 [.tmp 4]:=OfT.mk Tryz.func40 (by kernel_rfl) (by kernel_rfl)
theorem of_41:OfT w Tryz.f41 41 4 [.tmp 2]:=OfT.mk Tryz.func41 (by kernel_rfl) (by kernel_rfl)
theorem of_42:OfT w Tryz.f42 42 8 [.tmp 4]:=OfT.mk Tryz.func42 (by kernel_rfl) (by kernel_rfl)
theorem of_43:OfT w Tryz.f43 43 8 [.tmp 4]:=OfT.mk Tryz.func43 (by kernel_rfl) (by kernel_rfl)
theorem of_44:OfT w Tryz.f44 44 8 [.tmp 4]:=OfT.mk Tryz.func44 (by kernel_rfl) (by kernel_rfl)
theorem of_45:OfT w Tryz.f45 45 8 [.tmp 4]:=OfT.mk Tryz.func45 (by kernel_rfl) (by kernel_rfl)
theorem of_46:OfT w Tryz.f46 46 8 [.tmp 4]:=OfT.mk Tryz.func46 (by kernel_rfl) (by kernel_rfl)
theorem of_47:OfT w Tryz.f47 47 9 [.tmp 4]:=OfT.mk Tryz.func47 (by kernel_rfl) (by kernel_rfl)
theorem of_48:OfT w Tryz.f48 48 9 [.tmp 4]:=OfT.mk Tryz.func48 (by kernel_rfl) (by kernel_rfl)
theorem of_49:OfT w Tryz.f49 49 9 [.tmp 4]:=OfT.mk Tryz.func49 (by kernel_rfl) (by kernel_rfl)
theorem of_50:OfT w Tryz.f50 50 9 [.tmp 4]:=OfT.mk Tryz.func50 (by kernel_rfl) (by kernel_rfl)
theorem of_51:OfT w Tryz.f51 51 9 [.tmp 4]:=OfT.mk Tryz.func51 (by kernel_rfl) (by kernel_rfl)
theorem of_52:OfT w Tryz.f52 52 9 [.tmp 4]:=OfT.mk Tryz.func52 (by kernel_rfl) (by kernel_rfl)
theorem of_53:OfT w Tryz.f53 53 10 [.tmp 2]:=OfT.mk Tryz.func53 (by kernel_rfl) (by kernel_rfl)
theorem of_54:OfT w Tryz.f54 54 44 [.tmp 4,.tmp 5,.tmp 6]:=OfT.mk Tryz.func54 (by kernel_rfl) (by kernel_rfl)
theorem of_55:OfT w Tryz.f55 55 61 [.tmp 4]:=OfT.mk Tryz.func55 (by kernel_rfl) (by kernel_rfl)
theorem of_56:OfT w Tryz.f56 56 16 []:=OfT.mk Tryz.func56 (by kernel_rfl) (by kernel_rfl)
theorem ot_57:OtT w Tryz.f57 57 90:=OtT.mk Tryz.func57 (by kernel_rfl)
theorem of_58:OfT w Tryz.f58 58 9 [.tmp 2]:=OfT.mk Tryz.func58 (by kernel_rfl) (by kernel_rfl)
theorem of_59:OfT w Tryz.f59 59 28 [.tmp 4,.tmp 5]:=OfT.mk Tryz.func59 (by kernel_rfl) (by kernel_rfl)
theorem of_60:OfT w Tryz.f60 60 74 [.tmp 4]:=OfT.mk Tryz.func60 (by kernel_rfl) (by kernel_rfl)
theorem of_61:OfT w Tryz.f61 61 22 []:=OfT.mk Tryz.func61 (by kernel_rfl) (by kernel_rfl)
theorem of_62:OfT w Tryz.f62 62 26 [.tmp 4,.tmp 5]:=OfT.mk Tryz.func62 (by kernel_rfl) (by kernel_rfl)
theorem of_63:OfT w Tryz.f63 63 4 [.tmp 2]:=OfT.mk Tryz.func63 (by kernel_rfl) (by kernel_rfl)
theorem of_64:OfT w Tryz.f64 64 73 [.tmp 6]:=OfT.mk Tryz.func64 (by kernel_rfl) (by kernel_rfl)
theorem of_65:OfT w Tryz.f65 65 108 [.tmp 6]:=OfT.mk Tryz.func65 (by kernel_rfl) (by kernel_rfl)
theorem of_66:OfT w Tryz.f66 66 17 [.tmp 2]:=OfT.mk Tryz.func66 (by kernel_rfl) (by kernel_rfl)
theorem of_67:OfT w Tryz.f67 67 9 [.tmp 2]:=OfT.mk Tryz.func67 (by kernel_rfl) (by kernel_rfl)
theorem of_73:OfT w Tryz.f73 73 83 [.tmp 2,.tmp 3,.tmp 4]:=OfT.mk Tryz.func73 (by kernel_rfl) (by kernel_rfl)
theorem of_75:OfT w Tryz.f75 75 47 [.tmp 2,.tmp 3,.tmp 4]:=OfT.mk Tryz.func75 (by kernel_rfl) (by kernel_rfl)
theorem of_76:OfT w Tryz.f76 76 78 [.tmp 2]:=OfT.mk Tryz.func76 (by kernel_rfl) (by kernel_rfl)
theorem of_77:OfT w Tryz.f77 77 23 [.cell 2 119]:=OfT.mk Tryz.func77 (by kernel_rfl) (by kernel_rfl)
theorem of_78:OfT w Tryz.f78 78 16 [.tmp 2]:=OfT.mk Tryz.func78 (by kernel_rfl) (by kernel_rfl)
theorem of_79:OfT w Tryz.f79 79 29 [.tmp 2]:=OfT.mk Tryz.func79 (by kernel_rfl) (by kernel_rfl)
theorem of_80:OfT w Tryz.f80 80 23 [.tmp 2]:=OfT.mk Tryz.func80 (by kernel_rfl) (by kernel_rfl)
theorem ot_81:OtT w Tryz.f81 81 71:=OtT.mk Tryz.func81 (by kernel_rfl)
theorem od_82:OdT w Tryz.f82 82 13 []:=OdT.mk Tryz.func82 (by kernel_rfl) (by kernel_rfl)
theorem of_83:OfT w Tryz.f83 83 80 [.tmp 2]:=OfT.mk Tryz.func83 (by kernel_rfl) (by kernel_rfl)
theorem of_84:OfT w Tryz.f84 84 50 [.tmp 2]:=OfT.mk Tryz.func84 (by kernel_rfl) (by kernel_rfl)
theorem of_85:OfT w Tryz.f85 85 75 [.tmp 6]:=OfT.mk Tryz.func85 (by kernel_rfl) (by kernel_rfl)
theorem of_86:OfT w Tryz.f86 86 173 [.tmp 6,.tmp 7,.tmp 8]:=OfT.mk Tryz.func86 (by kernel_rfl) (by kernel_rfl)
theorem of_93:OfT w Tryz.f93 93 26 [.tmp 2,.tmp 3]:=OfT.mk Tryz.func93 (by kernel_rfl) (by kernel_rfl)
theorem of_94:OfT w Tryz.f94 94 43 [.tmp 2]:=OfT.mk Tryz.func94 (by kernel_rfl) (by kernel_rfl)
theorem of_95:OfT w Tryz.f95 95 9 [.tmp 4]:=OfT.mk Tryz.func95 (by kernel_rfl) (by kernel_rfl)
theorem of_96:OfT w Tryz.f96 96 6 [.tmp 2]:=OfT.mk Tryz.func96 (by kernel_rfl) (by kernel_rfl)
theorem of_97:OfT w Tryz.f97 97 36 []:=OfT.mk Tryz.func97 (by kernel_rfl) (by kernel_rfl)
theorem of_98:OfT w Tryz.f98 98 9 [.tmp 4]:=OfT.mk Tryz.func98 (by kernel_rfl) (by kernel_rfl)
theorem of_99:OfT w Tryz.f99 99 6 [.tmp 2]:=OfT.mk Tryz.func99 (by kernel_rfl) (by kernel_rfl)
theorem of_100:OfT w Tryz.f100 100 9 [.tmp 4]:=OfT.mk Tryz.func100 (by kernel_rfl) (by kernel_rfl)
theorem of_101:OfT w Tryz.f101 101 6 [.tmp 2]:=OfT.mk Tryz.func101 (by kernel_rfl) (by kernel_rfl)
theorem of_102:OfT w Tryz.f102 102 76 [.tmp 2]:=OfT.mk Tryz.func102 (by kernel_rfl) (by kernel_rfl)
theorem of_103:OfT w Tryz.f103 103 56 [.tmp 2]:=OfT.mk Tryz.func103 (by kernel_rfl) (by kernel_rfl)
theorem od_104:OdT w Tryz.f104 104 19 []:=OdT.mk Tryz.func104 (by kernel_rfl) (by kernel_rfl)
theorem ot_105:OtT w Tryz.f105 105 85:=OtT.mk Tryz.func105 (by kernel_rfl)
theorem of_106:OfT w Tryz.f106 106 30 [.tmp 2]:=OfT.mk Tryz.func106 (by kernel_rfl) (by kernel_rfl)
theorem of_107:OfT w Tryz.f107 107 30 [.tmp 2]:=OfT.mk Tryz.func107 (by kernel_rfl) (by kernel_rfl)
theorem of_108:OfT w Tryz.f108 108 46 [.tmp 2]:=OfT.mk Tryz.func108 (by kernel_rfl) (by kernel_rfl)
theorem of_109:OfT w Tryz.f109 109 89 [.tmp 2]:=OfT.mk Tryz.func109 (by kernel_rfl) (by kernel_rfl)
theorem of_110:OfT w Tryz.f110 110 91 [.tmp 4]:=OfT.mk Tryz.func110 (by kernel_rfl) (by kernel_rfl)
theorem of_111:OfT w Tryz.f111 111 40 [.tmp 2]:=OfT.mk Tryz.func111 (by kernel_rfl) (by kernel_rfl)
theorem of_115:OfT w Tryz.f115 115 12 [.cell 0 148]:=OfT.mk Tryz.func115 (by kernel_rfl) (by kernel_rfl)
theorem of_116:OfT w Tryz.f116 116 11 [.tmp 2]:=OfT.mk Tryz.func116 (by kernel_rfl) (by kernel_rfl)
theorem of_117:OfT w Tryz.f117 117 9 [.tmp 4]:=OfT.mk Tryz.func117 (by kernel_rfl) (by kernel_rfl)
theorem of_118:OfT w Tryz.f118 118 2 [.tmp 0]:=OfT.mk Tryz.func118 (by kernel_rfl) (by kernel_rfl)
theorem of_119:OfT w Tryz.f119 119 9 [.tmp 2]:=OfT.mk Tryz.func119 (by kernel_rfl) (by kernel_rfl)
theorem of_120:OfT w Tryz.f120 120 19 [.tmp 4]:=OfT.mk Tryz.func120 (by kernel_rfl) (by kernel_rfl)
theorem of_121:OfT w Tryz.f121 121 19 [.tmp 4]:=OfT.mk Tryz.func121 (by kernel_rfl) (by kernel_rfl)
theorem of_122:OfT w Tryz.f122 122 19 [.tmp 4]:=OfT.mk Tryz.func122 (by kernel_rfl) (by kernel_rfl)
theorem of_123:OfT w Tryz.f123 123 6 [.tmp 2]:=OfT.mk Tryz.func123 (by kernel_rfl) (by kernel_rfl)
theorem of_124:OfT w Tryz.f124 124 35 [.cell 2 119]:=OfT.mk Tryz.func124 (by kernel_rfl) (by kernel_rfl)
theorem od_125:OdT w Tryz.f125 125 16 []:=OdT.mk Tryz.func125 (by kernel_rfl) (by kernel_rfl)
theorem of_126:OfT w Tryz.f126 126 2 [.tmp 0]:=OfT.mk Tryz.func126 (by kernel_rfl) (by kernel_rfl)
theorem of_127:OfT w Tryz.f127 127 19 [.tmp 4]:=OfT.mk Tryz.func127 (by kernel_rfl) (by kernel_rfl)
end
end Abs
namespace Abs
open Go
instance:LawfulBEq ByteArray where
 eq_of_beq h:=by rw [ba_beq] at h; exact of_decide_eq_true h
 rfl {a}:=by rw [ba_beq]; exact dct rfl
inductive Ex where
 | mk (k:Int) (nm:ByteArray) (i:Int) (zs:List Ex)
inductive St where
 | mk (k:Int) (nm:ByteArray) (v:Ex) (body els:List St)
structure Fc where
 nm:ByteArray
 ps:List ByteArray
 body:List St
def sA (s:ByteArray):AVal:=.sc (.string s)
mutual
def IsEx:Ex->AVal->Prop
 | .mk k nm i zs,v=>∃ S els,v=.agg [(.sc (.int .i64 (k))),.sc (.string nm),(.sc (.int .i64 (i))),S]/\IsD 4 S els/\IsExs zs els/\in64 k/\in64 i/\nm.size<=281474976710656/\els.length<=281474976710656
def IsExs:List Ex->List AVal->Prop
 | [],els=>els=[]
 | x::xs,els=>∃ e es,els=e::es/\IsEx x e/\IsExs xs es
end
def Ex.k:Ex->Int|.mk k _ _ _=>k
def Ex.nm:Ex->ByteArray|.mk _ n _ _=>n
def Ex.i:Ex->Int|.mk _ _ i _=>i
def Ex.args:Ex->List Ex|.mk _ _ _ zs=>zs
theorem IsExs.len:∀ {zs:List Ex} {els:List AVal},IsExs zs els->els.length=zs.length
  | [], els, h => by
      simp only [IsExs] at h; subst h; rfl
  | x :: xs, els, h => by
      simp only [IsExs] at h
      obtain ⟨e,es,rfl,_,h⟩:=h
      simp [IsExs.len h]
theorem IsExs.at:∀ {zs:List Ex} {els:List AVal},IsExs zs els->∀ {j:Nat} {x:Ex},zs[j]?=some x->∃ e,els[j]?=some e/\IsEx x e
  | [],els,h,j,x,hx=>by simp at hx
  | y :: xs, els, h, j, x, hx => by
      simp only [IsExs] at h
      obtain ⟨e,es,rfl,h1,h⟩:=h
      cases j with
      | zero=>simp at hx; subst hx; exact ⟨e,rfl,h1⟩
      | succ j=>simpa using IsExs.at h (by simpa using hx)
mutual
def IsSt:St->AVal->Prop
  | .mk k nm v body els, w => ∃ SA SB SE ea eb ee, w = .agg [(.sc (.int .i64 (k))), .sc (.string nm), (.sc (.int .i64 (v.k))), .sc (.string v.nm), (.sc (.int .i64 (v.i))), SA, SB, SE] ∧ IsD 4 SA ea ∧ IsExs v.args ea ∧ IsD 8 SB eb ∧ IsSts body eb ∧ IsD 8 SE ee ∧ IsSts els ee ∧
      in64 k/\in64 v.k/\in64 v.i/\nm.size<=281474976710656/\v.nm.size<=281474976710656/\ea.length<=281474976710656/\eb.length<=281474976710656/\ee.length<=281474976710656
def IsSts:List St->List AVal->Prop
  | [],els=>els=[]
  | x::xs,els=>∃ e es,els=e::es/\IsSt x e/\IsSts xs es
end
theorem IsSts.len:∀ {zs:List St} {els:List AVal},IsSts zs els->els.length=zs.length
  | [], els, h => by
      simp only [IsSts] at h; subst h; rfl
  | x :: xs, els, h => by
      simp only [IsSts] at h
      obtain ⟨e,es,rfl,_,h⟩:=h
      simp [IsSts.len h]
theorem IsSts.at:∀ {zs:List St} {els:List AVal},IsSts zs els->∀ {j:Nat} {x:St},zs[j]?=some x->∃ e,els[j]?=some e/\IsSt x e
  | [],els,h,j,x,hx=>by simp at hx
  | y :: xs, els, h, j, x, hx => by
      simp only [IsSts] at h
      obtain ⟨e,es,rfl,h1,h⟩:=h
      cases j with
      | zero=>simp at hx; subst hx; exact ⟨e,rfl,h1⟩
      | succ j=>simpa using IsSts.at h (by simpa using hx)
def IsFc (f:Fc) (w:AVal):Prop:=∃ SP SB eb,w=.agg [.sc (.string f.nm),SP,SB]/\IsD 1 SP (f.ps.map sA)/\IsD 8 SB eb/\IsSts f.body eb/\f.nm.size<=281474976710656/\(∀ p∈f.ps,p.size<=281474976710656)/\f.ps.length<=281474976710656/\eb.length<=281474976710656
mutual
theorem IsEx.wf:∀ {x:Ex} {v:AVal},IsEx x v->WF 0 v
  | .mk k nm i zs, v, h => by
      simp only [IsEx] at h
      obtain ⟨S,els,rfl,hS,hs,_⟩:=h
      exact .agg _ (.cons _ _ (.sc _) (.cons _ _ (.sc _) (.cons _ _ (.sc _) (.cons _ _ (hS.wf (IsExs.wf hs)) .nil))))
theorem IsExs.wf:∀ {zs:List Ex} {els:List AVal},IsExs zs els->WFs 0 els
  | [],els,h=>by simp only [IsExs] at h; subst h; exact .nil
  | x :: xs, els, h => by
      simp only [IsExs] at h
      obtain ⟨e,es,rfl,h1,h⟩:=h
      exact .cons _ _ (IsEx.wf h1) (IsExs.wf h)
end
mutual
theorem IsSt.wf:∀ {x:St} {v:AVal},IsSt x v->WF 0 v
  | .mk k nm w body els, v, h => by
      simp only [IsSt] at h
      obtain ⟨SA,SB,SE,ea,eb,ee,rfl,hA,ha,hB,hb,hE,he,_⟩:=h
      exact .agg _ (.cons _ _ (.sc _) (.cons _ _ (.sc _) (.cons _ _ (.sc _) (.cons _ _ (.sc _) (.cons _ _ (.sc _) (.cons _ _ (hA.wf (IsExs.wf ha)) (.cons _ _ (hB.wf (IsSts.wf hb)) (.cons _ _ (hE.wf (IsSts.wf he)) .nil))))))))
theorem IsSts.wf:∀ {zs:List St} {els:List AVal},IsSts zs els->WFs 0 els
  | [],els,h=>by simp only [IsSts] at h; subst h; exact .nil
  | x :: xs, els, h => by
      simp only [IsSts] at h
      obtain ⟨e,es,rfl,h1,h⟩:=h
      exact .cons _ _ (IsSt.wf h1) (IsSts.wf h)
end
theorem wf_sA (l:List ByteArray):WFs 0 (l.map sA):=WFs.map fun _=>.sc _
theorem IsFc.wf {f:Fc} {w:AVal} (h:IsFc f w):WF 0 w:=by
 obtain ⟨SP,SB,eb,rfl,hP,hB,hb,_⟩:=h
 exact .agg _ (.cons _ _ (.sc _) (.cons _ _ (hP.wf (wf_sA _)) (.cons _ _ (hB.wf (IsSts.wf hb)) .nil)))
end Abs
namespace Abs
open Go
/-- How many parts a kind may have. -/
def arityB (k:Int) (n:Nat):Bool:=
 if k=1\/k=2 then decide (n=0)
 else if k=3\/k=4 then decide (n=1)
 else if 5<=k/\k<=17 then decide (n=2)
 else if k=18 then decide (n=3)
 else decide (k=19)
variable (nameB:ByteArray->Bool)
mutual
def formedB:Ex->Bool
 | .mk k nm i zs=>(arityB k zs.length && (if k=2\/k=19 then nameB nm else decide (nm.size=0))) && ((decide (i=0) || decide (k=1)) && (decide (-2147483648<=i) && decide (i<=2147483648))) && formedBs zs
def formedBs:List Ex->Bool
 | []=>true
 | x::xs=>formedB x && formedBs xs
end
theorem formedBs_all:∀ l,formedBs nameB l=l.all (formedB nameB)
 | []=>rfl
 | x::xs=>by simp [formedBs,formedBs_all xs]
mutual
def formedS:St->Bool
  | .mk k nm v body els => (decide (1 ≤ k) && decide (k ≤ 5)) && (if k = 1 ∨ k = 2 then nameB nm else decide (nm.size = 0)) && formedB nameB v &&
      ((decide (body.length=0) || (decide (k=3) || decide (k=4))) && (decide (els.length=0) || decide (k=3))) && formedSs body && formedSs els
def formedSs:List St->Bool
  | []=>true
  | x::xs=>formedS x && formedSs xs
end
theorem formedSs_all:∀ l,formedSs nameB l=l.all (formedS nameB)
 | []=>rfl
 | x::xs=>by simp [formedSs,formedSs_all xs]
mutual
def nodesE:Ex->Nat
 | .mk _ _ _ zs=>1+nodesEs zs
def nodesEs:List Ex->Nat
 | []=>0
 | x::xs=>nodesE x+nodesEs xs
end
mutual
def depthE:Ex->Nat
 | .mk _ _ _ zs=>1+depthEs zs
def depthEs:List Ex->Nat
 | []=>0
 | x::xs=>max (depthE x) (depthEs xs)
end
mutual
def fewE:Ex->Bool
 | .mk _ _ _ zs=>decide (zs.length<=4) && fewEs zs
def fewEs:List Ex->Bool
 | []=>true
 | x::xs=>fewE x && fewEs xs
end
mutual
def nodesS:St->Nat
 | .mk _ _ v b e=>1+nodesE v+nodesSs b+nodesSs e
def nodesSs:List St->Nat
 | []=>0
 | x::xs=>nodesS x+nodesSs xs
end
mutual
def depthS:St->Nat
 | .mk _ _ v b e=>1+max (depthE v) (max (depthSs b) (depthSs e))
def depthSs:List St->Nat
 | []=>0
 | x::xs=>max (depthS x) (depthSs xs)
end
mutual
def fewS:St->Bool
 | .mk _ _ v b e=>fewE v && fewSs b && fewSs e
def fewSs:List St->Bool
 | []=>true
 | x::xs=>fewS x && fewSs xs
end
def smallE (x:Ex):Bool:=decide (nodesE x<=400) && decide (depthE x<=30) && fewE x
def nodesF (l:List Fc):Nat:=(l.map fun f=>nodesSs f.body).sum
def smallF (l:List Fc):Bool:=(l.all fun f=>decide (depthSs f.body<=30) && fewSs f.body && decide (f.ps.length<=4)) && decide (nodesF l<=400) && decide (l.length<=8)
/-- 0: well; 2: no well-formed one; 3: too large. -/
def checkE (x:Ex):Int:=if formedB nameB x then (if smallE x then 0 else 3) else 2
def formedF (f:Fc):Bool:=nameB f.nm && f.ps.all nameB && formedSs nameB f.body
def checkF (l:List Fc):Int:=if l.all (formedF nameB) then (if smallF l then 0 else 3) else 2
def fcOf (l:List Fc) (nm:ByteArray):Option Fc:=l.find? fun f=>decide (f.nm=nm)
mutual
def expE (g o:List ByteArray) (l:List Fc):Ex->Int
 | .mk k nm _ zs=>
  match expEs g o l zs with
  | 0=>
   if k=2 then (if nm∈g\/nm∈o then 0 else 90)
   else if k=19 then (match fcOf l nm with
    | none=>90
    | some f=>if f.ps.length=zs.length then 0 else 91)
   else 0
  | e=>e
def expEs (g o:List ByteArray) (l:List Fc):List Ex->Int
 | []=>0
 | x::xs=>match expE g o l x with
  | 0=>expEs g o l xs
  | e=>e
end
mutual
def stE (g o:List ByteArray) (l:List Fc):St->Int
 | .mk k nm v b e=>
  match expE g o l v with
  | 0=>
   if (k=1/\(nm∈g\/nm∈o))\/(k=2/\nm ∉ o) then 90
   else match stEs g (if k=1 then o++[nm] else o) l b with
    | 0=>stEs g (if k=1 then o++[nm] else o) l e
    | e=>e
  | e=>e
def stEs (g o:List ByteArray) (l:List Fc):List St->Int
 | []=>0
 | x::xs=>match stE g o l x with
  | 0=>stEs g (match x with|.mk k nm _ _ _=>if k=1 then o++[nm] else o) l xs
  | e=>e
end
mutual
def retS:St->Bool
 | .mk k _ _ b e=>decide (k=5) || (decide (k=3) && retSs b && retSs e)
def retSs:List St->Bool
 | []=>false
 | x::xs=>retS x || retSs xs
end
/-- The first static error of a function behind others. -/
def parsBad (g:List ByteArray):List ByteArray->List ByteArray->Bool
 | _,[]=>false
 | o,p::ps=>decide (p∈g\/p∈o) || parsBad g (o++[p]) ps
def fnE (g:List ByteArray) (l:List Fc) (f:Fc):Int:=
 if f.nm∈g\/(fcOf l f.nm).isSome then 90
 else if parsBad g [] f.ps then 90
 else match stEs g f.ps l f.body with
  | 0=>if retSs f.body then 0 else 92
  | e=>e
def goF (g:List ByteArray):List Fc->List Fc->Int×Int
 | _,[]=>(0,0)
 | l,f::r=>match fnE g l f with
  | 0=>goF g (l++[f]) r
  | e=>(l.length,e)
def funcsP (l:List Fc) (g:List ByteArray):Int×Int:=
 match checkF nameB l with
 | 0=>goF g [] l
 | e=>(0,e)
def expP (x:Ex) (g:List ByteArray) (l:List Fc):Int:=
 match checkE nameB x with
 | 0=>match (funcsP nameB l g).2 with
  | 0=>expE g [] l x
  | e=>e
 | e=>e
end Abs
namespace Abs
open Go
variable (nameB:ByteArray->Bool)
theorem goF_cons {g:List ByteArray} {f:Fc} {r d:List Fc}:goF g d (f::r)=if fnE g d f=0 then goF g (d++[f]) r else ((d.length:Int),fnE g d f):=by
 simp only [goF]
 by_cases h:fnE g d f=0
 ·simp only [h,if_true]
 ·rw [if_neg h]
  split
  ·rename_i h'; exact absurd h' h
  ·rfl
end Abs
end
