/-
  Functions of the program walked: each is shown to compute a plain function (TF).
-/
import Derived.Test.YtkhjmhdpaikokaaGreatDoorProg
import Derived.Test.YtkhjmhdpaikokaaGreatDoorAbsDf
import Derived.Test.YtkhjmhdpaikokaaGreatDoorAbsMm
import Derived.Test.YtkhjmhdpaikokaaGreatDoorAbsTyW
import Derived.KernelRfl
set_option linter.unusedSimpArgs false
set_option linter.unusedVariables false
set_option maxRecDepth 100000
set_option maxHeartbeats 16000000
noncomputable section
namespace Abs
open Go Go.Proofs
noncomputable def GG:Nat->AVal:=oneG 0 [.data 3 false [.agg [.sc (.bool false),.sc (.bool false),.func (.func 218) [] []],.agg [.sc (.bool false),.sc (.bool true),.func (.func 219) [] []],.agg [.sc (.bool true),.sc (.bool false),.func (.func 220) [] []],.agg [.sc (.bool true),.sc (.bool true),.func (.func 221) [] []]]]
noncomputable def EE (w:WD):Env:={Env.ofG Tryz.prog GG w.w with ds:=w.ds}
def OfT (w:WD) (f:Func) (k n:Nat) (rs:List ResultVar):Prop:=∀ {args:List AVal} {σ:AStore} {R:AEnd->AStore->Prop} (_:Nat.ble args.length n=true) (_:Nat.blt args.length 1000=true) {c:Code} (_:f.body=some c) (_:okC n c=true) (_:V (EE ⟨w.w,[]⟩) n c (vFin (EE ⟨w.w,[]⟩) rs R) (initE args 0) σ),ACalls (EE w) k args σ R
section
variable {w:WD} {lit:Bool} {ρ:ARho} {σ:AStore} {args:List AVal} {R:AEnd->AStore->Prop}
theorem OfT.mk {f:Func} {k n:Nat} {rs:List ResultVar} (hf:Tryz.prog.funcs[k]?=some f) (h1:f.results.toList=rs) (h2:f.ntmps=n):OfT w f k n rs:=fun hn hl _ hc hk h=>ACalls.of_V' (E:=EE w) (E':=EE ⟨w.w,[]⟩) (n:=n) rfl rfl f _ _ hf hc h1 h2 hk hn hl h
def OdT (w:WD) (f:Func) (k n:Nat) (rs:List ResultVar):Prop:=∀ {args:List AVal} {σ:AStore} {R:AEnd->AStore->Prop} (_:Nat.ble args.length n=true) (_:Nat.blt args.length 1000=true) {c:Code} (_:f.body=some c) (_:okC n c=true) (_:V (EE ⟨w.w,[]⟩) n c (vFin (EE ⟨w.w,[]⟩) rs R) (initE args 0) σ),ACallsD (EE w) k args σ R
theorem OdT.mk {f:Func} {k n:Nat} {rs:List ResultVar} (hf:Tryz.prog.funcs[k]?=some f) (h1:f.results.toList=rs) (h2:f.ntmps=n):OdT w f k n rs:=fun hn hl _ hc hk h=>ACallsD.of_V' (E:=EE w) (E':=EE ⟨w.w,[]⟩) (n:=n) rfl rfl f _ _ hf hc h1 h2 hk hn hl h
def OtT (w:WD) (f:Func) (k n:Nat):Prop:=∀ {args:List AVal} {σ:AStore} {R:AEnd->AStore->Prop} (_:Nat.ble args.length n=true) (_:Nat.blt args.length 1000=true) {c:Code} (_:f.body=some c) (_:okC n c=true) (_:Top (EE ⟨w.w,[]⟩) n c (aEndD (EE ⟨w.w,[]⟩) f R) (initE args 0) σ),ACalls (EE w) k args σ R
theorem OtT.mk {f:Func} {k n:Nat} (hf:Tryz.prog.funcs[k]?=some f) (h2:f.ntmps=n):OtT w f k n:=fun hn hl _ hc hk h=>ACalls.of_Top (E:=EE w) (E':=EE ⟨w.w,[]⟩) (n:=n) rfl rfl f _ hf hc h2 hk hn hl h
theorem gWF:∀ g,WF 0 ((EE w).G g):=oneG_wf (by kernel_rfl)
theorem ty_27:tyA (EE w) 27=some (true,5):=by kernel_rfl
theorem fn_6:(EE w).fns 6=true:=by kernel_rfl
theorem ty_34:tyA (EE w) 34=some (true,3):=by kernel_rfl
theorem fn_7:(EE w).fns 7=true:=by kernel_rfl
theorem fn_8:(EE w).fns 8=true:=by kernel_rfl
theorem zr_34:zeroD (EE w) 34=some (.agg [(.sc (.slice none 0 0)),(.sc (.slice none 0 0)),(.sc (.slice none 0 0))]):=by kernel_rfl
theorem fn_11:(EE w).fns 11=true:=by kernel_rfl
theorem fn_12:(EE w).fns 12=true:=by kernel_rfl
theorem fa_47_0 {x:Operand}:aOp (EE w) lit (.fieldAddr 47 x 0) ρ σ=opFA σ (some (0,true,3)) (ρ x):=op_fieldAddr (by kernel_rfl)
theorem fa_47_1 {x:Operand}:aOp (EE w) lit (.fieldAddr 47 x 1) ρ σ=opFA σ (some (3,true,2)) (ρ x):=op_fieldAddr (by kernel_rfl)
theorem ty_45:tyA (EE w) 45=some (true,2):=by kernel_rfl
theorem fn_14:(EE w).fns 14=true:=by kernel_rfl
theorem fn_16:(EE w).fns 16=true:=by kernel_rfl
theorem zr_45:zeroD (EE w) 45=some (.agg [(.sc (.int .i64 0)),(.sc (.int .i64 0))]):=by kernel_rfl
theorem kb_4:kindD (EE w) 4=some .bool:=by kernel_rfl
theorem fn_18:(EE w).fns 18=true:=by kernel_rfl
theorem fa_45_0 {x:Operand}:aOp (EE w) lit (.fieldAddr 45 x 0) ρ σ=opFA σ (some (0,false,1)) (ρ x):=op_fieldAddr (by kernel_rfl)
theorem ty_2:tyA (EE w) 2=some (false,1):=by kernel_rfl
theorem fn_19:(EE w).fns 19=true:=by kernel_rfl
theorem fa_27_0 {x:Operand}:aOp (EE w) lit (.fieldAddr 27 x 0) ρ σ=opFA σ (some (0,false,1)) (ρ x):=op_fieldAddr (by kernel_rfl)
theorem ty_3:tyA (EE w) 3=some (false,1):=by kernel_rfl
theorem fa_27_1 {x:Operand}:aOp (EE w) lit (.fieldAddr 27 x 1) ρ σ=opFA σ (some (1,false,1)) (ρ x):=op_fieldAddr (by kernel_rfl)
theorem ty_22:tyA (EE w) 22=some (false,1):=by kernel_rfl
theorem ln_22 {x:AVal}:opBi (EE w) .len [22] σ (some [x])=.ofV σ (aLen (.slice 0) x σ):=bi_len (by kernel_rfl)
theorem fa_27_3 {x:Operand}:aOp (EE w) lit (.fieldAddr 27 x 3) ρ σ=opFA σ (some (3,false,1)) (ρ x):=op_fieldAddr (by kernel_rfl)
theorem ty_24:tyA (EE w) 24=some (false,1):=by kernel_rfl
theorem ln_24 {x:AVal}:opBi (EE w) .len [24] σ (some [x])=.ofV σ (aLen (.slice 0) x σ):=bi_len (by kernel_rfl)
theorem fa_27_2 {x:Operand}:aOp (EE w) lit (.fieldAddr 27 x 2) ρ σ=opFA σ (some (2,false,1)) (ρ x):=op_fieldAddr (by kernel_rfl)
theorem ty_23:tyA (EE w) 23=some (false,1):=by kernel_rfl
theorem ln_23 {x:AVal}:opBi (EE w) .len [23] σ (some [x])=.ofV σ (aLen (.slice 0) x σ):=bi_len (by kernel_rfl)
theorem fa_27_4 {x:Operand}:aOp (EE w) lit (.fieldAddr 27 x 4) ρ σ=opFA σ (some (4,false,1)) (ρ x):=op_fieldAddr (by kernel_rfl)
theorem ty_25:tyA (EE w) 25=some (false,1):=by kernel_rfl
theorem ln_25 {x:AVal}:opBi (EE w) .len [25] σ (some [x])=.ofV σ (aLen (.slice 0) x σ):=bi_len (by kernel_rfl)
theorem ia_25 {x y:Operand}:aOp (EE w) lit (.indexAddr 25 x y) ρ σ=opIA σ ⟨3,56,(.agg [(.sc (.int .i64 0)),(.sc (.slice none 0 0)),(.sc (.slice none 0 0))])⟩ (ρ x) (ρ y):=op_indexAddr (by kernel_rfl)
theorem ty_60:tyA (EE w) 60=some (true,3):=by kernel_rfl
theorem zr_60:zeroD (EE w) 60=some (.agg [(.sc (.int .i64 0)),(.sc (.slice none 0 0)),(.sc (.slice none 0 0))]):=by kernel_rfl
theorem fa_60_2 {x:Operand}:aOp (EE w) lit (.fieldAddr 60 x 2) ρ σ=opFA σ (some (2,false,1)) (ρ x):=op_fieldAddr (by kernel_rfl)
theorem ty_58:tyA (EE w) 58=some (false,1):=by kernel_rfl
theorem ln_58 {x:AVal}:opBi (EE w) .len [58] σ (some [x])=.ofV σ (aLen (.slice 0) x σ):=bi_len (by kernel_rfl)
theorem fa_60_1 {x:Operand}:aOp (EE w) lit (.fieldAddr 60 x 1) ρ σ=opFA σ (some (1,false,1)) (ρ x):=op_fieldAddr (by kernel_rfl)
theorem ty_57:tyA (EE w) 57=some (false,1):=by kernel_rfl
theorem ln_57 {x:AVal}:opBi (EE w) .len [57] σ (some [x])=.ofV σ (aLen (.slice 0) x σ):=bi_len (by kernel_rfl)
theorem ia_57 {x y:Operand}:aOp (EE w) lit (.indexAddr 57 x y) ρ σ=opIA σ ⟨3,40,(.agg [(.sc (.int .i64 0)),(.sc (.slice none 0 0)),(.sc (.int .i64 0))])⟩ (ρ x) (ρ y):=op_indexAddr (by kernel_rfl)
theorem fa_63_1 {x:Operand}:aOp (EE w) lit (.fieldAddr 63 x 1) ρ σ=opFA σ (some (1,false,1)) (ρ x):=op_fieldAddr (by kernel_rfl)
theorem ty_61:tyA (EE w) 61=some (false,1):=by kernel_rfl
theorem ln_61 {x:AVal}:opBi (EE w) .len [61] σ (some [x])=.ofV σ (aLen (.slice 0) x σ):=bi_len (by kernel_rfl)
theorem ia_58 {x y:Operand}:aOp (EE w) lit (.indexAddr 58 x y) ρ σ=opIA σ ⟨13,176,(.agg [(.sc (.int .i64 0)),(.sc (.int .i64 0)),(.sc (.slice none 0 0)),(.sc (.int .i64 0)),(.sc (.string ⟨#[]⟩)),(.sc (.int .i64 0)),(.sc (.slice none 0 0)),(.sc (.int .i64 0)),(.sc (.bool false)),(.sc (.slice none 0 0)),(.sc (.slice none 0 0)),(.sc (.int .i64 0)),(.sc (.int .i64 0))])⟩ (ρ x) (ρ y):=op_indexAddr (by kernel_rfl)
theorem ty_70:tyA (EE w) 70=some (true,13):=by kernel_rfl
theorem zr_70:zeroD (EE w) 70=some (.agg [(.sc (.int .i64 0)),(.sc (.int .i64 0)),(.sc (.slice none 0 0)),(.sc (.int .i64 0)),(.sc (.string ⟨#[]⟩)),(.sc (.int .i64 0)),(.sc (.slice none 0 0)),(.sc (.int .i64 0)),(.sc (.bool false)),(.sc (.slice none 0 0)),(.sc (.slice none 0 0)),(.sc (.int .i64 0)),(.sc (.int .i64 0))]):=by kernel_rfl
theorem fa_70_2 {x:Operand}:aOp (EE w) lit (.fieldAddr 70 x 2) ρ σ=opFA σ (some (2,false,1)) (ρ x):=op_fieldAddr (by kernel_rfl)
theorem fa_70_6 {x:Operand}:aOp (EE w) lit (.fieldAddr 70 x 6) ρ σ=opFA σ (some (9,false,1)) (ρ x):=op_fieldAddr (by kernel_rfl)
theorem ty_67:tyA (EE w) 67=some (false,1):=by kernel_rfl
theorem ln_67 {x:AVal}:opBi (EE w) .len [67] σ (some [x])=.ofV σ (aLen (.slice 0) x σ):=bi_len (by kernel_rfl)
theorem fa_70_7 {x:Operand}:aOp (EE w) lit (.fieldAddr 70 x 7) ρ σ=opFA σ (some (10,false,1)) (ρ x):=op_fieldAddr (by kernel_rfl)
theorem ty_68:tyA (EE w) 68=some (false,1):=by kernel_rfl
theorem ln_68 {x:AVal}:opBi (EE w) .len [68] σ (some [x])=.ofV σ (aLen (.slice 0) x σ):=bi_len (by kernel_rfl)
theorem fa_70_3 {x:Operand}:aOp (EE w) lit (.fieldAddr 70 x 3) ρ σ=opFA σ (some (3,true,4)) (ρ x):=op_fieldAddr (by kernel_rfl)
theorem ty_66:tyA (EE w) 66=some (true,4):=by kernel_rfl
theorem fn_20:(EE w).fns 20=true:=by kernel_rfl
theorem ia_67 {x y:Operand}:aOp (EE w) lit (.indexAddr 67 x y) ρ σ=opIA σ ⟨5,64,(.agg [(.sc (.int .i64 0)),(.sc (.int .i64 0)),(.sc (.string ⟨#[]⟩)),(.sc (.int .i64 0)),(.sc (.slice none 0 0))])⟩ (ρ x) (ρ y):=op_indexAddr (by kernel_rfl)
theorem fa_73_1 {x:Operand}:aOp (EE w) lit (.fieldAddr 73 x 1) ρ σ=opFA σ (some (1,true,4)) (ρ x):=op_fieldAddr (by kernel_rfl)
theorem fa_34_0 {x:Operand}:aOp (EE w) lit (.fieldAddr 34 x 0) ρ σ=opFA σ (some (0,true,2)) (ρ x):=op_fieldAddr (by kernel_rfl)
theorem fa_31_0 {x:Operand}:aOp (EE w) lit (.fieldAddr 31 x 0) ρ σ=opFA σ (some (0,false,1)) (ρ x):=op_fieldAddr (by kernel_rfl)
theorem ty_28:tyA (EE w) 28=some (false,1):=by kernel_rfl
theorem ln_28 {x:AVal}:opBi (EE w) .len [28] σ (some [x])=.ofV σ (aLen (.slice 0) x σ):=bi_len (by kernel_rfl)
theorem fa_31_1 {x:Operand}:aOp (EE w) lit (.fieldAddr 31 x 1) ρ σ=opFA σ (some (1,false,1)) (ρ x):=op_fieldAddr (by kernel_rfl)
theorem ty_29:tyA (EE w) 29=some (false,1):=by kernel_rfl
theorem ln_29 {x:AVal}:opBi (EE w) .len [29] σ (some [x])=.ofV σ (aLen (.slice 0) x σ):=bi_len (by kernel_rfl)
theorem fa_34_1 {x:Operand}:aOp (EE w) lit (.fieldAddr 34 x 1) ρ σ=opFA σ (some (2,false,1)) (ρ x):=op_fieldAddr (by kernel_rfl)
theorem ty_32:tyA (EE w) 32=some (false,1):=by kernel_rfl
theorem ln_32 {x:AVal}:opBi (EE w) .len [32] σ (some [x])=.ofV σ (aLen (.slice 0) x σ):=bi_len (by kernel_rfl)
theorem bd_45 {ps:Array (Nat×Operand)}:aOp (EE w) lit (.build 45 ps) ρ σ=opBuild σ (some ([(0,1),(1,1)],[(.sc (.int .i64 0)),(.sc (.int .i64 0))])) (partsSome ρ ps.toList):=op_build (by kernel_rfl)
theorem ia_28 {x y:Operand}:aOp (EE w) lit (.indexAddr 28 x y) ρ σ=opIA σ ⟨1,8,(.sc (.int .i64 0))⟩ (ρ x) (ρ y):=op_indexAddr (by kernel_rfl)
theorem bs_32 {n:Nat} {ps:Array (Nat×Operand)}:aOp (EE w) lit (.buildSlice 32 n ps) ρ σ=opBuildSl σ lit ⟨2,16,(.agg [(.sc (.int .i64 0)),(.sc (.int .i64 0))])⟩ n (partsSome ρ ps.toList):=op_buildSlice (by kernel_rfl)
theorem fn_24:(EE w).fns 24=true:=by kernel_rfl
theorem fn_25:(EE w).fns 25=true:=by kernel_rfl
theorem bd_34 {ps:Array (Nat×Operand)}:aOp (EE w) lit (.build 34 ps) ρ σ=opBuild σ (some ([(0,2),(2,1)],[(.sc (.slice none 0 0)),(.sc (.slice none 0 0)),(.sc (.slice none 0 0))])) (partsSome ρ ps.toList):=op_build (by kernel_rfl)
theorem zr_31:zeroD (EE w) 31=some (.agg [(.sc (.slice none 0 0)),(.sc (.slice none 0 0))]):=by kernel_rfl
theorem ty_31:tyA (EE w) 31=some (true,2):=by kernel_rfl
theorem fn_27:(EE w).fns 27=true:=by kernel_rfl
theorem ap_32 {a x:AVal}:opBi (EE w) .append [32,32] σ (some [a,x])=opApp (EE w) 32 σ ⟨2,16,(.agg [(.sc (.int .i64 0)),(.sc (.int .i64 0))])⟩ a (aSrc 2 x σ):=bi_append (by kernel_rfl)
theorem fn_30:(EE w).fns 30=true:=by kernel_rfl
theorem ia_32 {x y:Operand}:aOp (EE w) lit (.indexAddr 32 x y) ρ σ=opIA σ ⟨2,16,(.agg [(.sc (.int .i64 0)),(.sc (.int .i64 0))])⟩ (ρ x) (ρ y):=op_indexAddr (by kernel_rfl)
theorem fn_31:(EE w).fns 31=true:=by kernel_rfl
theorem fn_32:(EE w).fns 32=true:=by kernel_rfl
theorem fn_33:(EE w).fns 33=true:=by kernel_rfl
theorem fn_34:(EE w).fns 34=true:=by kernel_rfl
theorem fn_37:(EE w).fns 37=true:=by kernel_rfl
theorem fn_38:(EE w).fns 38=true:=by kernel_rfl
theorem fn_39:(EE w).fns 39=true:=by kernel_rfl
theorem ia_61 {x y:Operand}:aOp (EE w) lit (.indexAddr 61 x y) ρ σ=opIA σ ⟨4,24,(.agg [(.sc (.int .i64 0)),(.sc (.bool false)),(.sc (.bool false)),(.sc (.int .i64 0))])⟩ (ρ x) (ρ y):=op_indexAddr (by kernel_rfl)
theorem ty_94:tyA (EE w) 94=some (true,4):=by kernel_rfl
theorem zr_94:zeroD (EE w) 94=some (.agg [(.sc (.int .i64 0)),(.sc (.bool false)),(.sc (.bool false)),(.sc (.int .i64 0))]):=by kernel_rfl
theorem fa_94_3 {x:Operand}:aOp (EE w) lit (.fieldAddr 94 x 3) ρ σ=opFA σ (some (3,false,1)) (ρ x):=op_fieldAddr (by kernel_rfl)
theorem fa_94_0 {x:Operand}:aOp (EE w) lit (.fieldAddr 94 x 0) ρ σ=opFA σ (some (0,false,1)) (ρ x):=op_fieldAddr (by kernel_rfl)
theorem fn_41:(EE w).fns 41=true:=by kernel_rfl
theorem fa_94_2 {x:Operand}:aOp (EE w) lit (.fieldAddr 94 x 2) ρ σ=opFA σ (some (2,false,1)) (ρ x):=op_fieldAddr (by kernel_rfl)
theorem ty_4:tyA (EE w) 4=some (false,1):=by kernel_rfl
theorem fa_45_1 {x:Operand}:aOp (EE w) lit (.fieldAddr 45 x 1) ρ σ=opFA σ (some (1,false,1)) (ρ x):=op_fieldAddr (by kernel_rfl)
theorem fn_43:(EE w).fns 43=true:=by kernel_rfl
theorem fa_66_3 {x:Operand}:aOp (EE w) lit (.fieldAddr 66 x 3) ρ σ=opFA σ (some (3,false,1)) (ρ x):=op_fieldAddr (by kernel_rfl)
theorem ty_64:tyA (EE w) 64=some (false,1):=by kernel_rfl
theorem ln_64 {x:AVal}:opBi (EE w) .len [64] σ (some [x])=.ofV σ (aLen (.slice 0) x σ):=bi_len (by kernel_rfl)
theorem ia_64 {x y:Operand}:aOp (EE w) lit (.indexAddr 64 x y) ρ σ=opIA σ ⟨4,56,(.agg [(.sc (.int .i64 0)),(.sc (.string ⟨#[]⟩)),(.sc (.int .i64 0)),(.sc (.slice none 0 0))])⟩ (ρ x) (ρ y):=op_indexAddr (by kernel_rfl)
theorem fn_45:(EE w).fns 45=true:=by kernel_rfl
theorem fn_46:(EE w).fns 46=true:=by kernel_rfl
theorem zr_103:zeroD (EE w) 103=some (.agg [(.sc (.int .i64 0))]):=by kernel_rfl
theorem fn_48:(EE w).fns 48=true:=by kernel_rfl
theorem fn_47:(EE w).fns 47=true:=by kernel_rfl
theorem ln_100 {x:AVal}:opBi (EE w) .len [100] σ (some [x])=.ofV σ (aLen (.slice 0) x σ):=bi_len (by kernel_rfl)
theorem ia_100 {x y:Operand}:aOp (EE w) lit (.indexAddr 100 x y) ρ σ=opIA σ ⟨1,16,(.sc (.string ⟨#[]⟩))⟩ (ρ x) (ρ y):=op_indexAddr (by kernel_rfl)
theorem ty_9:tyA (EE w) 9=some (false,1):=by kernel_rfl
theorem fn_49:(EE w).fns 49=true:=by kernel_rfl
theorem ia_22 {x y:Operand}:aOp (EE w) lit (.indexAddr 22 x y) ρ σ=opIA σ ⟨4,40,(.agg [(.sc (.string ⟨#[]⟩)),(.sc (.int .i64 0)),(.sc (.int .i64 0)),(.sc (.int .i64 0))])⟩ (ρ x) (ρ y):=op_indexAddr (by kernel_rfl)
theorem ty_108:tyA (EE w) 108=some (true,4):=by kernel_rfl
theorem zr_108:zeroD (EE w) 108=some (.agg [(.sc (.string ⟨#[]⟩)),(.sc (.int .i64 0)),(.sc (.int .i64 0)),(.sc (.int .i64 0))]):=by kernel_rfl
theorem fa_108_1 {x:Operand}:aOp (EE w) lit (.fieldAddr 108 x 1) ρ σ=opFA σ (some (1,false,1)) (ρ x):=op_fieldAddr (by kernel_rfl)
theorem fa_108_2 {x:Operand}:aOp (EE w) lit (.fieldAddr 108 x 2) ρ σ=opFA σ (some (2,false,1)) (ρ x):=op_fieldAddr (by kernel_rfl)
theorem fn_50:(EE w).fns 50=true:=by kernel_rfl
theorem zr_110:zeroD (EE w) 110=some (.agg [(.sc (.slice none 0 0)),(.sc (.slice none 0 0))]):=by kernel_rfl
theorem ty_110:tyA (EE w) 110=some (true,2):=by kernel_rfl
theorem fa_103_0 {x:Operand}:aOp (EE w) lit (.fieldAddr 103 x 0) ρ σ=opFA σ (some (0,false,1)) (ρ x):=op_fieldAddr (by kernel_rfl)
theorem ty_38:tyA (EE w) 38=some (false,1):=by kernel_rfl
theorem fn_51:(EE w).fns 51=true:=by kernel_rfl
theorem fa_60_0 {x:Operand}:aOp (EE w) lit (.fieldAddr 60 x 0) ρ σ=opFA σ (some (0,false,1)) (ρ x):=op_fieldAddr (by kernel_rfl)
theorem fn_52:(EE w).fns 52=true:=by kernel_rfl
theorem ty_63:tyA (EE w) 63=some (true,3):=by kernel_rfl
theorem zr_63:zeroD (EE w) 63=some (.agg [(.sc (.int .i64 0)),(.sc (.slice none 0 0)),(.sc (.int .i64 0))]):=by kernel_rfl
theorem fa_63_0 {x:Operand}:aOp (EE w) lit (.fieldAddr 63 x 0) ρ σ=opFA σ (some (0,false,1)) (ρ x):=op_fieldAddr (by kernel_rfl)
theorem fa_63_2 {x:Operand}:aOp (EE w) lit (.fieldAddr 63 x 2) ρ σ=opFA σ (some (2,false,1)) (ρ x):=op_fieldAddr (by kernel_rfl)
theorem fn_54:(EE w).fns 54=true:=by kernel_rfl
theorem fn_55:(EE w).fns 55=true:=by kernel_rfl
theorem fa_70_0 {x:Operand}:aOp (EE w) lit (.fieldAddr 70 x 0) ρ σ=opFA σ (some (0,false,1)) (ρ x):=op_fieldAddr (by kernel_rfl)
theorem fa_70_1 {x:Operand}:aOp (EE w) lit (.fieldAddr 70 x 1) ρ σ=opFA σ (some (1,false,1)) (ρ x):=op_fieldAddr (by kernel_rfl)
theorem fa_70_4 {x:Operand}:aOp (EE w) lit (.fieldAddr 70 x 4) ρ σ=opFA σ (some (7,false,1)) (ρ x):=op_fieldAddr (by kernel_rfl)
theorem fa_70_5 {x:Operand}:aOp (EE w) lit (.fieldAddr 70 x 5) ρ σ=opFA σ (some (8,false,1)) (ρ x):=op_fieldAddr (by kernel_rfl)
theorem fa_70_8 {x:Operand}:aOp (EE w) lit (.fieldAddr 70 x 8) ρ σ=opFA σ (some (11,false,1)) (ρ x):=op_fieldAddr (by kernel_rfl)
theorem fa_70_9 {x:Operand}:aOp (EE w) lit (.fieldAddr 70 x 9) ρ σ=opFA σ (some (12,false,1)) (ρ x):=op_fieldAddr (by kernel_rfl)
theorem ia_68 {x y:Operand}:aOp (EE w) lit (.indexAddr 68 x y) ρ σ=opIA σ ⟨2,16,(.agg [(.sc (.int .i64 0)),(.sc (.int .i64 0))])⟩ (ρ x) (ρ y):=op_indexAddr (by kernel_rfl)
theorem ty_97:tyA (EE w) 97=some (true,2):=by kernel_rfl
theorem zr_97:zeroD (EE w) 97=some (.agg [(.sc (.int .i64 0)),(.sc (.int .i64 0))]):=by kernel_rfl
theorem fa_97_0 {x:Operand}:aOp (EE w) lit (.fieldAddr 97 x 0) ρ σ=opFA σ (some (0,false,1)) (ρ x):=op_fieldAddr (by kernel_rfl)
theorem fa_97_1 {x:Operand}:aOp (EE w) lit (.fieldAddr 97 x 1) ρ σ=opFA σ (some (1,false,1)) (ρ x):=op_fieldAddr (by kernel_rfl)
theorem fn_53:(EE w).fns 53=true:=by kernel_rfl
theorem fn_56:(EE w).fns 56=true:=by kernel_rfl
theorem fn_58:(EE w).fns 58=true:=by kernel_rfl
theorem fn_57:(EE w).fns 57=true:=by kernel_rfl
theorem ty_73:tyA (EE w) 73=some (true,5):=by kernel_rfl
theorem zr_73:zeroD (EE w) 73=some (.agg [(.sc (.int .i64 0)),(.sc (.int .i64 0)),(.sc (.string ⟨#[]⟩)),(.sc (.int .i64 0)),(.sc (.slice none 0 0))]):=by kernel_rfl
theorem fa_73_0 {x:Operand}:aOp (EE w) lit (.fieldAddr 73 x 0) ρ σ=opFA σ (some (0,false,1)) (ρ x):=op_fieldAddr (by kernel_rfl)
theorem fn_59:(EE w).fns 59=true:=by kernel_rfl
theorem bd_31 {ps:Array (Nat×Operand)}:aOp (EE w) lit (.build 31 ps) ρ σ=opBuild σ (some ([(0,1),(1,1)],[(.sc (.slice none 0 0)),(.sc (.slice none 0 0))])) (partsSome ρ ps.toList):=op_build (by kernel_rfl)
theorem fn_60:(EE w).fns 60=true:=by kernel_rfl
theorem ap_100 {a x:AVal}:opBi (EE w) .append [100,100] σ (some [a,x])=opApp (EE w) 100 σ ⟨1,16,(.sc (.string ⟨#[]⟩))⟩ a (aSrc 1 x σ):=bi_append (by kernel_rfl)
theorem ia_29 {x y:Operand}:aOp (EE w) lit (.indexAddr 29 x y) ρ σ=opIA σ ⟨1,8,(.sc (.int .i64 0))⟩ (ρ x) (ρ y):=op_indexAddr (by kernel_rfl)
theorem fn_71:(EE w).fns 71=true:=by kernel_rfl
theorem fn_72:(EE w).fns 72=true:=by kernel_rfl
theorem fn_73:(EE w).fns 73=true:=by kernel_rfl
theorem ia_133 {x y:Operand}:aOp (EE w) lit (.indexAddr 133 x y) ρ σ=opIA σ ⟨3,16,(.agg [(.sc (.bool false)),(.sc (.bool false)),(.sc (.nilFunc))])⟩ (ρ x) (ρ y):=op_indexAddr (by kernel_rfl)
theorem ty_136:tyA (EE w) 136=some (true,3):=by kernel_rfl
theorem zr_136:zeroD (EE w) 136=some (.agg [(.sc (.bool false)),(.sc (.bool false)),(.sc (.nilFunc))]):=by kernel_rfl
theorem fa_136_0 {x:Operand}:aOp (EE w) lit (.fieldAddr 136 x 0) ρ σ=opFA σ (some (0,false,1)) (ρ x):=op_fieldAddr (by kernel_rfl)
theorem fa_94_1 {x:Operand}:aOp (EE w) lit (.fieldAddr 94 x 1) ρ σ=opFA σ (some (1,false,1)) (ρ x):=op_fieldAddr (by kernel_rfl)
theorem fa_136_1 {x:Operand}:aOp (EE w) lit (.fieldAddr 136 x 1) ρ σ=opFA σ (some (1,false,1)) (ρ x):=op_fieldAddr (by kernel_rfl)
theorem fa_136_2 {x:Operand}:aOp (EE w) lit (.fieldAddr 136 x 2) ρ σ=opFA σ (some (2,false,1)) (ρ x):=op_fieldAddr (by kernel_rfl)
theorem ty_134:tyA (EE w) 134=some (false,1):=by kernel_rfl
theorem fn_75:(EE w).fns 75=true:=by kernel_rfl
theorem fn_74:(EE w).fns 74=true:=by kernel_rfl
theorem is_137:(tyA (EE w) 137).isSome=true:=by kernel_rfl
theorem ap_61 {a x:AVal}:opBi (EE w) .append [61,61] σ (some [a,x])=opApp (EE w) 61 σ ⟨4,24,(.agg [(.sc (.int .i64 0)),(.sc (.bool false)),(.sc (.bool false)),(.sc (.int .i64 0))])⟩ a (aSrc 4 x σ):=bi_append (by kernel_rfl)
theorem bs_28 {n:Nat} {ps:Array (Nat×Operand)}:aOp (EE w) lit (.buildSlice 28 n ps) ρ σ=opBuildSl σ lit ⟨1,8,(.sc (.int .i64 0))⟩ n (partsSome ρ ps.toList):=op_buildSlice (by kernel_rfl)
theorem ap_28 {a x:AVal}:opBi (EE w) .append [28,28] σ (some [a,x])=opApp (EE w) 28 σ ⟨1,8,(.sc (.int .i64 0))⟩ a (aSrc 1 x σ):=bi_append (by kernel_rfl)
theorem bs_29 {n:Nat} {ps:Array (Nat×Operand)}:aOp (EE w) lit (.buildSlice 29 n ps) ρ σ=opBuildSl σ lit ⟨1,8,(.sc (.int .i64 0))⟩ n (partsSome ρ ps.toList):=op_buildSlice (by kernel_rfl)
theorem ap_29 {a x:AVal}:opBi (EE w) .append [29,29] σ (some [a,x])=opApp (EE w) 29 σ ⟨1,8,(.sc (.int .i64 0))⟩ a (aSrc 1 x σ):=bi_append (by kernel_rfl)
theorem fn_78:(EE w).fns 78=true:=by kernel_rfl
theorem fn_79:(EE w).fns 79=true:=by kernel_rfl
theorem cv_137_2 {x:Operand}:aOp (EE w) lit (.convert 137 2 x) ρ σ=opCvI σ Go.IntKind.i64 (ρ x):=op_convInt (by kernel_rfl) (by kernel_rfl)
theorem zr_38:zeroD (EE w) 38=some (.sc (.int .i64 0)):=by kernel_rfl
theorem ia_24 {x y:Operand}:aOp (EE w) lit (.indexAddr 24 x y) ρ σ=opIA σ ⟨3,64,(.agg [(.sc (.string ⟨#[]⟩)),(.sc (.slice none 0 0)),(.sc (.slice none 0 0))])⟩ (ρ x) (ρ y):=op_indexAddr (by kernel_rfl)
theorem ty_151:tyA (EE w) 151=some (true,3):=by kernel_rfl
theorem zr_151:zeroD (EE w) 151=some (.agg [(.sc (.string ⟨#[]⟩)),(.sc (.slice none 0 0)),(.sc (.slice none 0 0))]):=by kernel_rfl
theorem fa_151_0 {x:Operand}:aOp (EE w) lit (.fieldAddr 151 x 0) ρ σ=opFA σ (some (0,false,1)) (ρ x):=op_fieldAddr (by kernel_rfl)
theorem ty_100:tyA (EE w) 100=some (false,1):=by kernel_rfl
theorem fn_88:(EE w).fns 88=true:=by kernel_rfl
theorem bs_100 {n:Nat} {ps:Array (Nat×Operand)}:aOp (EE w) lit (.buildSlice 100 n ps) ρ σ=opBuildSl σ lit ⟨1,16,(.sc (.string ⟨#[]⟩))⟩ n (partsSome ρ ps.toList):=op_buildSlice (by kernel_rfl)
theorem fa_108_0 {x:Operand}:aOp (EE w) lit (.fieldAddr 108 x 0) ρ σ=opFA σ (some (0,false,1)) (ρ x):=op_fieldAddr (by kernel_rfl)
theorem ia_23 {x y:Operand}:aOp (EE w) lit (.indexAddr 23 x y) ρ σ=opIA σ ⟨3,24,(.agg [(.sc (.string ⟨#[]⟩)),(.sc (.bool false)),(.sc (.bool false))])⟩ (ρ x) (ρ y):=op_indexAddr (by kernel_rfl)
theorem ty_160:tyA (EE w) 160=some (true,3):=by kernel_rfl
theorem zr_160:zeroD (EE w) 160=some (.agg [(.sc (.string ⟨#[]⟩)),(.sc (.bool false)),(.sc (.bool false))]):=by kernel_rfl
theorem fa_160_0 {x:Operand}:aOp (EE w) lit (.fieldAddr 160 x 0) ρ σ=opFA σ (some (0,false,1)) (ρ x):=op_fieldAddr (by kernel_rfl)
theorem fn_89:(EE w).fns 89=true:=by kernel_rfl
theorem ln_9 {x:AVal}:opBi (EE w) .len [9] σ (some [x])=.ofV σ (aLen .string x σ):=bi_lenS (by kernel_rfl)
theorem ixs_9 {x y:Operand}:aOp (EE w) lit (.index 9 x y) ρ σ=opIS σ (ρ x) (ρ y):=op_index_str (by kernel_rfl)
theorem fn_91:(EE w).fns 91=true:=by kernel_rfl
theorem fn_93:(EE w).fns 93=true:=by kernel_rfl
theorem fn_92:(EE w).fns 92=true:=by kernel_rfl
theorem cvb_9_172:bytesD (EE w) 9 172=true:=by kernel_rfl
theorem cvg_9_172 {x:Operand}:aOp (EE w) lit (.convert 9 172 x) ρ σ=opCvG (EE w) 9 172 σ (ρ x):=op_convG
theorem ln_172 {x:AVal}:opBi (EE w) .len [172] σ (some [x])=.ofV σ (aLen (.slice 0) x σ):=bi_len (by kernel_rfl)
theorem ia_172 {x y:Operand}:aOp (EE w) lit (.indexAddr 172 x y) ρ σ=opIA σ ⟨1,1,(.sc (.int Go.IntKind.u8 (0)))⟩ (ρ x) (ρ y):=op_indexAddr (by kernel_rfl)
theorem ty_5:tyA (EE w) 5=some (false,1):=by kernel_rfl
theorem fn_94:(EE w).fns 94=true:=by kernel_rfl
theorem bd_110 {ps:Array (Nat×Operand)}:aOp (EE w) lit (.build 110 ps) ρ σ=opBuild σ (some ([(0,1),(1,1)],[(.sc (.slice none 0 0)),(.sc (.slice none 0 0))])) (partsSome ρ ps.toList):=op_build (by kernel_rfl)
theorem fa_108_3 {x:Operand}:aOp (EE w) lit (.fieldAddr 108 x 3) ρ σ=opFA σ (some (3,false,1)) (ρ x):=op_fieldAddr (by kernel_rfl)
theorem fa_110_0 {x:Operand}:aOp (EE w) lit (.fieldAddr 110 x 0) ρ σ=opFA σ (some (0,false,1)) (ρ x):=op_fieldAddr (by kernel_rfl)
theorem fn_95:(EE w).fns 95=true:=by kernel_rfl
theorem fa_66_0 {x:Operand}:aOp (EE w) lit (.fieldAddr 66 x 0) ρ σ=opFA σ (some (0,false,1)) (ρ x):=op_fieldAddr (by kernel_rfl)
theorem fa_66_1 {x:Operand}:aOp (EE w) lit (.fieldAddr 66 x 1) ρ σ=opFA σ (some (1,false,1)) (ρ x):=op_fieldAddr (by kernel_rfl)
theorem fa_66_2 {x:Operand}:aOp (EE w) lit (.fieldAddr 66 x 2) ρ σ=opFA σ (some (2,false,1)) (ρ x):=op_fieldAddr (by kernel_rfl)
theorem fa_110_1 {x:Operand}:aOp (EE w) lit (.fieldAddr 110 x 1) ρ σ=opFA σ (some (1,false,1)) (ρ x):=op_fieldAddr (by kernel_rfl)
theorem fn_96:(EE w).fns 96=true:=by kernel_rfl
theorem fa_160_2 {x:Operand}:aOp (EE w) lit (.fieldAddr 160 x 2) ρ σ=opFA σ (some (2,false,1)) (ρ x):=op_fieldAddr (by kernel_rfl)
theorem fa_160_1 {x:Operand}:aOp (EE w) lit (.fieldAddr 160 x 1) ρ σ=opFA σ (some (1,false,1)) (ρ x):=op_fieldAddr (by kernel_rfl)
theorem bd_176 {ps:Array (Nat×Operand)}:aOp (EE w) lit (.build 176 ps) ρ σ=opBuild σ (some ([(0,5),(5,1)],[(.sc (.int .i64 0)),(.sc (.slice none 0 0)),(.sc (.slice none 0 0)),(.sc (.slice none 0 0)),(.sc (.slice none 0 0)),(.sc (.slice none 0 0))])) (partsSome ρ ps.toList):=op_build (by kernel_rfl)
theorem fa_176_1 {x:Operand}:aOp (EE w) lit (.fieldAddr 176 x 1) ρ σ=opFA σ (some (5,false,1)) (ρ x):=op_fieldAddr (by kernel_rfl)
theorem fa_176_0 {x:Operand}:aOp (EE w) lit (.fieldAddr 176 x 0) ρ σ=opFA σ (some (0,true,5)) (ρ x):=op_fieldAddr (by kernel_rfl)
theorem fn_111:(EE w).fns 111=true:=by kernel_rfl
theorem cv_2_137 {x:Operand}:aOp (EE w) lit (.convert 2 137 x) ρ σ=opCvI σ Go.IntKind.u64 (ρ x):=op_convInt (by kernel_rfl) (by kernel_rfl)
theorem ec_2_137 {x:Operand}:isEff (EE w) (.convert 2 137 x)=false:=by kernel_rfl
theorem fn_113:(EE w).fns 113=true:=by kernel_rfl
theorem fn_114:(EE w).fns 114=true:=by kernel_rfl
theorem ia_184 {x y:Operand}:aOp (EE w) lit (.indexAddr 184 x y) ρ σ=opIA σ ⟨1,24,(.sc (.slice none 0 0))⟩ (ρ x) (ρ y):=op_indexAddr (by kernel_rfl)
theorem fn_115:(EE w).fns 115=true:=by kernel_rfl
theorem fn_116:(EE w).fns 116=true:=by kernel_rfl
theorem fn_117:(EE w).fns 117=true:=by kernel_rfl
theorem fn_126:(EE w).fns 126=true:=by kernel_rfl
theorem zr_198:zeroD (EE w) 198=some (.agg [(.sc (.int .i64 0)),(.sc (.int .i64 0)),(.sc (.bool false))]):=by kernel_rfl
theorem ty_198:tyA (EE w) 198=some (true,3):=by kernel_rfl
theorem fa_198_0 {x:Operand}:aOp (EE w) lit (.fieldAddr 198 x 0) ρ σ=opFA σ (some (0,false,1)) (ρ x):=op_fieldAddr (by kernel_rfl)
theorem fa_198_1 {x:Operand}:aOp (EE w) lit (.fieldAddr 198 x 1) ρ σ=opFA σ (some (1,false,1)) (ρ x):=op_fieldAddr (by kernel_rfl)
theorem fa_198_2 {x:Operand}:aOp (EE w) lit (.fieldAddr 198 x 2) ρ σ=opFA σ (some (2,false,1)) (ρ x):=op_fieldAddr (by kernel_rfl)
theorem fn_128:(EE w).fns 128=true:=by kernel_rfl
theorem mu_166 {m k x:Operand}:aOp (EE w) lit (.mapUpdate 166 m k x) ρ σ=opMs σ .string (ρ m) (ρ k) (ρ x):=op_mapUpdate (z:=.int Go.IntKind.i64 (0)) (by kernel_rfl)
theorem fn_129:(EE w).fns 129=true:=by kernel_rfl
theorem fn_130:(EE w).fns 130=true:=by kernel_rfl
theorem fn_131:(EE w).fns 131=true:=by kernel_rfl
theorem fn_132:(EE w).fns 132=true:=by kernel_rfl
theorem ms_184 {x y:Operand}:aOp (EE w) lit (.makeSlice 184 x y) ρ σ=opMk σ ⟨1,24,(.sc (.slice none 0 0))⟩ (ρ x) (ρ y):=op_makeSlice (by kernel_rfl)
theorem fn_139:(EE w).fns 139=true:=by kernel_rfl
theorem zr_138:zeroD (EE w) 138=some (.sc (.nilFunc)):=by kernel_rfl
theorem fn_140:(EE w).fns 140=true:=by kernel_rfl
theorem ty_138:tyA (EE w) 138=some (false,1):=by kernel_rfl
theorem zr_4:zeroD (EE w) 4=some (.sc (.bool false)):=by kernel_rfl
theorem zr_3:zeroD (EE w) 3=some (.sc (.int .i64 0)):=by kernel_rfl
theorem fn_147:(EE w).fns 147=true:=by kernel_rfl
theorem fn_148:(EE w).fns 148=true:=by kernel_rfl
theorem bd_198 {ps:Array (Nat×Operand)}:aOp (EE w) lit (.build 198 ps) ρ σ=opBuild σ (some ([(0,1),(1,1),(2,1)],[(.sc (.int .i64 0)),(.sc (.int .i64 0)),(.sc (.bool false))])) (partsSome ρ ps.toList):=op_build (by kernel_rfl)
theorem fn_151:(EE w).fns 151=true:=by kernel_rfl
theorem fn_150:(EE w).fns 150=true:=by kernel_rfl
theorem fn_152:(EE w).fns 152=true:=by kernel_rfl
theorem fa_229_1 {x:Operand}:aOp (EE w) lit (.fieldAddr 229 x 1) ρ σ=opFA σ (some (1,false,1)) (ρ x):=op_fieldAddr (by kernel_rfl)
theorem ty_166:tyA (EE w) 166=some (false,1):=by kernel_rfl
theorem zr_66:zeroD (EE w) 66=some (.agg [(.sc (.int .i64 0)),(.sc (.string ⟨#[]⟩)),(.sc (.int .i64 0)),(.sc (.slice none 0 0))]):=by kernel_rfl
theorem fa_229_0 {x:Operand}:aOp (EE w) lit (.fieldAddr 229 x 0) ρ σ=opFA σ (some (0,false,1)) (ρ x):=op_fieldAddr (by kernel_rfl)
theorem ty_227:tyA (EE w) 227=some (false,1):=by kernel_rfl
theorem lk_227 {x k:Operand} {ok:Bool}:aOp (EE w) lit (.lookup 227 x k ok) ρ σ=opLk σ .string (.bool false) ok (ρ x) (ρ k):=op_lookup (by kernel_rfl)
theorem lk_166 {x k:Operand} {ok:Bool}:aOp (EE w) lit (.lookup 166 x k ok) ρ σ=opLk σ .string (.int .i64 0) ok (ρ x) (ρ k):=op_lookup (by kernel_rfl)
theorem fn_160:(EE w).fns 160=true:=by kernel_rfl
theorem fn_167:(EE w).fns 167=true:=by kernel_rfl
theorem ixa_251 {x y:Operand}:aOp (EE w) lit (.index 251 x y) ρ σ=opIxA σ (6,false,1) (ρ x) (ρ y):=op_index_arr (by kernel_rfl)
theorem rg_166 {x:Operand}:aOp (EE w) lit (.range 166 x) ρ σ=opRgM σ (ρ x):=op_rangeM (by kernel_rfl)
theorem fn_168:(EE w).fns 168=true:=by kernel_rfl
theorem bd_229 {ps:Array (Nat×Operand)}:aOp (EE w) lit (.build 229 ps) ρ σ=opBuild σ (some ([(0,1),(1,1)],[(.sc (.map none)),(.sc (.map none))])) (partsSome ρ ps.toList):=op_build (by kernel_rfl)
theorem mu_227 {m k x:Operand}:aOp (EE w) lit (.mapUpdate 227 m k x) ρ σ=opMs σ .string (ρ m) (ρ k) (ρ x):=op_mapUpdate (z:=.bool false) (by kernel_rfl)
theorem zr_2:zeroD (EE w) 2=some (.sc (.int .i64 0)):=by kernel_rfl
theorem fn_172:(EE w).fns 172=true:=by kernel_rfl
theorem bd_261 {ps:Array (Nat×Operand)}:aOp (EE w) lit (.build 261 ps) ρ σ=opBuild σ (some ([(0,1),(1,1),(2,1),(3,1)],[(.sc (.map none)),(.sc (.map none)),(.sc (.map none)),(.sc (.int .i64 0))])) (partsSome ρ ps.toList):=op_build (by kernel_rfl)
theorem zr_255:zeroD (EE w) 255=some (.sc (.pointer none)):=by kernel_rfl
theorem ty_255:tyA (EE w) 255=some (false,1):=by kernel_rfl
theorem fa_261_0 {x:Operand}:aOp (EE w) lit (.fieldAddr 261 x 0) ρ σ=opFA σ (some (0,false,1)) (ρ x):=op_fieldAddr (by kernel_rfl)
theorem ty_256:tyA (EE w) 256=some (false,1):=by kernel_rfl
theorem lk_256 {x k:Operand} {ok:Bool}:aOp (EE w) lit (.lookup 256 x k ok) ρ σ=opLk σ .string (.int .i64 0) ok (ρ x) (ρ k):=op_lookup (by kernel_rfl)
theorem mu_256 {m k x:Operand}:aOp (EE w) lit (.mapUpdate 256 m k x) ρ σ=opMs σ .string (ρ m) (ρ k) (ρ x):=op_mapUpdate (z:=.int Go.IntKind.i64 (0)) (by kernel_rfl)
theorem fn_174:(EE w).fns 174=true:=by kernel_rfl
theorem fa_261_3 {x:Operand}:aOp (EE w) lit (.fieldAddr 261 x 3) ρ σ=opFA σ (some (3,false,1)) (ρ x):=op_fieldAddr (by kernel_rfl)
theorem zr_251:zeroD (EE w) 251=some (.agg [(.sc (.map none)),(.sc (.map none)),(.sc (.map none)),(.sc (.map none)),(.sc (.map none)),(.sc (.map none))]):=by kernel_rfl
theorem mi_166 {m k x:Operand}:aOp (EE w) lit (.insert 166 m k x) ρ σ=opMs σ .string (ρ m) (ρ k) (ρ x):=op_insert (z:=.int Go.IntKind.i64 (0)) (by kernel_rfl)
theorem ba_251 {ps:Array (Nat×Operand)}:aOp (EE w) lit (.build 251 ps) ρ σ=opBuildA σ (1,.agg #[.map none,.map none,.map none,.map none,.map none,.map none]) (partsSome ρ ps.toList):=op_buildA (by kernel_rfl)
theorem ty_251:tyA (EE w) 251=some (true,6):=by kernel_rfl
theorem mi_258 {m k x:Operand}:aOp (EE w) lit (.insert 258 m k x) ρ σ=opMs σ (.int Go.IntKind.i64) (ρ m) (ρ k) (ρ x):=op_insert (z:=.nilFunc) (by kernel_rfl)
theorem ifc_20:ifcD (EE w) 20=some true:=by kernel_rfl
theorem as_264 {x:Operand}:aOp (EE w) lit (.typeAssert x 20 264 true) ρ σ=opAs σ (.agg #[.int Go.IntKind.i64 (0)]) 264 (ρ x):=op_assert (by kernel_rfl)
theorem zr_264:zeroD (EE w) 264=some (.agg [(.sc (.int .i64 0))]):=by kernel_rfl
theorem ty_264:tyA (EE w) 264=some (true,1):=by kernel_rfl
theorem fa_264_0 {x:Operand}:aOp (EE w) lit (.fieldAddr 264 x 0) ρ σ=opFA σ (some (0,false,1)) (ρ x):=op_fieldAddr (by kernel_rfl)
theorem fn_198:(EE w).fns 198=true:=by kernel_rfl
theorem lk_274 {x k:Operand} {ok:Bool}:aOp (EE w) lit (.lookup 274 x k ok) ρ σ=opLk σ .string (.int .i64 0) ok (ρ x) (ρ k):=op_lookup (by kernel_rfl)
theorem fn_186:(EE w).fns 186=true:=by kernel_rfl
theorem zr_275:zeroD (EE w) 275=some (.agg [(.sc (.int .i64 0)),(.sc (.int .i64 0)),(.sc (.int .i64 0)),(.sc (.int .i64 0))]):=by kernel_rfl
theorem ia_275 {x y:Operand}:aOp (EE w) lit (.indexAddr 275 x y) ρ σ=opIAA σ (4,1) (ρ x) (ρ y):=op_indexAddrA (by kernel_rfl)
theorem fa_261_2 {x:Operand}:aOp (EE w) lit (.fieldAddr 261 x 2) ρ σ=opFA σ (some (2,false,1)) (ρ x):=op_fieldAddr (by kernel_rfl)
theorem ty_258:tyA (EE w) 258=some (false,1):=by kernel_rfl
theorem lk_258 {x k:Operand} {ok:Bool}:aOp (EE w) lit (.lookup 258 x k ok) ρ σ=opLk σ (.int Go.IntKind.i64) (.nilFunc) ok (ρ x) (ρ k):=op_lookup (by kernel_rfl)
theorem bd_264 {ps:Array (Nat×Operand)}:aOp (EE w) lit (.build 264 ps) ρ σ=opBuild σ (some ([(0,1)],[(.sc (.int .i64 0))])) (partsSome ρ ps.toList):=op_build (by kernel_rfl)
theorem mkI_264 {x:Operand}:aOp (EE w) lit (.makeInterface 264 x) ρ σ=opMkI 264 σ (ρ x):=op_mkI (by kernel_rfl)
theorem ty_272:tyA (EE w) 272=some (false,1):=by kernel_rfl
attribute [go_sem] ty_27 fn_6 ty_34 fn_7 fn_8 zr_34 fn_11 fn_12 fa_47_0 fa_47_1 ty_45 fn_14 fn_16 zr_45 kb_4 fn_18 fa_45_0 ty_2 fn_19 fa_27_0 ty_3 fa_27_1 ty_22 ln_22 fa_27_3 ty_24 ln_24 fa_27_2 ty_23 ln_23 fa_27_4 ty_25 ln_25 ia_25 ty_60 zr_60 fa_60_2 ty_58 ln_58 fa_60_1 ty_57 ln_57 ia_57 fa_63_1 ty_61 ln_61 ia_58 ty_70 zr_70 fa_70_2 fa_70_6 ty_67 ln_67 fa_70_7 ty_68 ln_68 fa_70_3 ty_66 fn_20 ia_67 fa_73_1 fa_34_0 fa_31_0 ty_28 ln_28 fa_31_1 ty_29 ln_29 fa_34_1 ty_32 ln_32 bd_45 ia_28 bs_32 fn_24 fn_25 bd_34 zr_31 ty_31 fn_27 ap_32 fn_30 ia_32 fn_31 fn_32 fn_33 fn_34 fn_37 fn_38 fn_39 ia_61 ty_94 zr_94 fa_94_3 fa_94_0 fn_41 fa_94_2 ty_4 fa_45_1 fn_43 fa_66_3 ty_64 ln_64 ia_64 fn_45 fn_46 zr_103 fn_48 fn_47 ln_100 ia_100 ty_9 fn_49 ia_22 ty_108 zr_108 fa_108_1 fa_108_2 fn_50 zr_110 ty_110 fa_103_0 ty_38 fn_51 fa_60_0 fn_52 ty_63 zr_63 fa_63_0 fa_63_2 fn_54 fn_55 fa_70_0 fa_70_1 fa_70_4 fa_70_5 fa_70_8 fa_70_9 ia_68 ty_97 zr_97 fa_97_0 fa_97_1 fn_53 fn_56 fn_58 fn_57 ty_73 zr_73 fa_73_0 fn_59 bd_31 fn_60 ap_100 ia_29 fn_71 fn_72 fn_73 ia_133 ty_136 zr_136 fa_136_0 fa_94_1 fa_136_1 fa_136_2 ty_134 fn_75 fn_74 is_137 ap_61 bs_28 ap_28 bs_29 ap_29 fn_78 fn_79 cv_137_2 zr_38 ia_24 ty_151 zr_151 fa_151_0 ty_100 fn_88 bs_100 fa_108_0 ia_23 ty_160 zr_160 fa_160_0 fn_89 ln_9 ixs_9 fn_91 fn_93 fn_92 cvb_9_172 cvg_9_172 ln_172 ia_172 ty_5 fn_94 bd_110 fa_108_3 fa_110_0 fn_95 fa_66_0 fa_66_1 fa_66_2 fa_110_1 fn_96 fa_160_2 fa_160_1 bd_176 fa_176_1 fa_176_0 fn_111 cv_2_137 ec_2_137 fn_113 fn_114 ia_184 fn_115 fn_116 fn_117 fn_126 zr_198 ty_198 fa_198_0 fa_198_1 fa_198_2 fn_128 mu_166 fn_129 fn_130 fn_131 fn_132 ms_184 fn_139 zr_138 fn_140 ty_138 zr_4 zr_3 fn_147 fn_148 bd_198 fn_151 fn_150 fn_152 fa_229_1 ty_166 zr_66 fa_229_0 ty_227 lk_227 lk_166 fn_160 fn_167 ixa_251 rg_166 fn_168 bd_229 mu_227 zr_2 fn_172 bd_261 zr_255 ty_255 fa_261_0 ty_256 lk_256 mu_256 fn_174 fa_261_3 zr_251 mi_166 ba_251 ty_251 mi_258 ifc_20 as_264 zr_264 ty_264 fa_264_0 fn_198 lk_274 fn_186 zr_275 ia_275 fa_261_2 ty_258 lk_258 bd_264 mkI_264 ty_272
theorem of_5:OfT w Tryz.f5 5 172 [.tmp 6]:=OfT.mk Tryz.func5 (by kernel_rfl) (by kernel_rfl)
theorem of_6:OfT w Tryz.f6 6 130 [.tmp 2]:=OfT.mk Tryz.func6 (by kernel_rfl) (by kernel_rfl)
theorem of_7:OfT w Tryz.f7 7 21 [.tmp 2]:=OfT.mk Tryz.func7 (by kernel_rfl) (by kernel_rfl)
theorem of_11:OfT w Tryz.f11 11 17 [.tmp 4]:=OfT.mk Tryz.func11 (by kernel_rfl) (by kernel_rfl)
theorem of_12:OfT w Tryz.f12 12 58 [.tmp 4]:=OfT.mk Tryz.func12 (by kernel_rfl) (by kernel_rfl)
theorem of_14:OfT w Tryz.f14 14 95 [.cell 6 34,.tmp 7]:=OfT.mk Tryz.func14 (by kernel_rfl) (by kernel_rfl)
theorem of_16:OfT w Tryz.f16 16 97 [.cell 4 45,.tmp 5,.tmp 6,.tmp 7]:=OfT.mk Tryz.func16 (by kernel_rfl) (by kernel_rfl)
theorem of_18:OfT w Tryz.f18 18 34 [.cell 4 45,.tmp 5]:=OfT.mk Tryz.func18 (by kernel_rfl) (by kernel_rfl)
theorem of_19:OfT w Tryz.f19 19 32 [.tmp 4,.tmp 5]:=OfT.mk Tryz.func19 (by kernel_rfl) (by kernel_rfl)
theorem of_20:OfT w Tryz.f20 20 31 [.tmp 4]:=OfT.mk Tryz.func20 (by kernel_rfl) (by kernel_rfl)
theorem of_24:OfT w Tryz.f24 24 26 [.tmp 4]:=OfT.mk Tryz.func24 (by kernel_rfl) (by kernel_rfl)
theorem of_25:OfT w Tryz.f25 25 287 [.tmp 2]:=OfT.mk Tryz.func25 (by kernel_rfl) (by kernel_rfl)
theorem of_27:OfT w Tryz.f27 27 5 [.cell 2 45]:=OfT.mk Tryz.func27 (by kernel_rfl) (by kernel_rfl)
theorem of_30:OfT w Tryz.f30 30 59 [.tmp 4]:=OfT.mk Tryz.func30 (by kernel_rfl) (by kernel_rfl)
theorem of_31:OfT w Tryz.f31 31 28 [.tmp 4,.tmp 5]:=OfT.mk Tryz.func31 (by kernel_rfl) (by kernel_rfl)
theorem of_32:OfT w Tryz.f32 32 20 [.tmp 4,.tmp 5]:=OfT.mk Tryz.func32 (by kernel_rfl) (by kernel_rfl)
theorem of_33:OfT w Tryz.f33 33 59 [.tmp 4]:=OfT.mk Tryz.func33 (by kernel_rfl) (by kernel_rfl)
theorem of_34:OfT w Tryz.f34 34 31 [.tmp 2]:=OfT.mk Tryz.func34 (by kernel_rfl) (by kernel_rfl)
theorem of_37:OfT w Tryz.f37 37 12 [.cell 2 31]:=OfT.mk Tryz.func37 (by kernel_rfl) (by kernel_rfl)
theorem of_38:OfT w Tryz.f38 38 14 [.tmp 4,.tmp 5]:=OfT.mk Tryz.func38 (by kernel_rfl) (by kernel_rfl)
theorem of_39:OfT w Tryz.f39 39 30 [.cell 4 45,.tmp 5]:=OfT.mk Tryz.func39 (by kernel_rfl) (by kernel_rfl)
theorem of_41:OfT w Tryz.f41 41 30 [.cell 4 45,.tmp 5]:=OfT.mk Tryz.func41 (by kernel_rfl) (by kernel_rfl)
theorem of_43:OfT w Tryz.f43 43 48 [.cell 4 45,.tmp 5]:=OfT.mk Tryz.func43 (by kernel_rfl) (by kernel_rfl)
theorem of_45:OfT w Tryz.f45 45 29 [.tmp 2]:=OfT.mk Tryz.func45 (by kernel_rfl) (by kernel_rfl)
theorem of_46:OfT w Tryz.f46 46 72 [.tmp 10]:=OfT.mk Tryz.func46 (by kernel_rfl) (by kernel_rfl)
theorem of_47:OfT w Tryz.f47 47 19 []:=OfT.mk Tryz.func47 (by kernel_rfl) (by kernel_rfl)
theorem of_48:OfT w Tryz.f48 48 9 [.tmp 2]:=OfT.mk Tryz.func48 (by kernel_rfl) (by kernel_rfl)
theorem of_49:OfT w Tryz.f49 49 43 [.tmp 2]:=OfT.mk Tryz.func49 (by kernel_rfl) (by kernel_rfl)
theorem of_50:OfT w Tryz.f50 50 59 [.cell 8 110]:=OfT.mk Tryz.func50 (by kernel_rfl) (by kernel_rfl)
theorem of_51:OfT w Tryz.f51 51 29 []:=OfT.mk Tryz.func51 (by kernel_rfl) (by kernel_rfl)
theorem of_52:OfT w Tryz.f52 52 12 [.tmp 4]:=OfT.mk Tryz.func52 (by kernel_rfl) (by kernel_rfl)
theorem of_53:OfT w Tryz.f53 53 9 [.tmp 2]:=OfT.mk Tryz.func53 (by kernel_rfl) (by kernel_rfl)
theorem of_54:OfT w Tryz.f54 54 9 [.tmp 2]:=OfT.mk Tryz.func54 (by kernel_rfl) (by kernel_rfl)
theorem of_55:OfT w Tryz.f55 55 29 []:=OfT.mk Tryz.func55 (by kernel_rfl) (by kernel_rfl)
theorem of_56:OfT w Tryz.f56 56 22 [.tmp 2]:=OfT.mk Tryz.func56 (by kernel_rfl) (by kernel_rfl)
theorem of_57:OfT w Tryz.f57 57 9 []:=OfT.mk Tryz.func57 (by kernel_rfl) (by kernel_rfl)
theorem of_58:OfT w Tryz.f58 58 11 [.tmp 4]:=OfT.mk Tryz.func58 (by kernel_rfl) (by kernel_rfl)
theorem of_59:OfT w Tryz.f59 59 42 []:=OfT.mk Tryz.func59 (by kernel_rfl) (by kernel_rfl)
theorem of_60:OfT w Tryz.f60 60 29 [.tmp 2]:=OfT.mk Tryz.func60 (by kernel_rfl) (by kernel_rfl)
theorem of_71:OfT w Tryz.f71 71 11 [.tmp 4]:=OfT.mk Tryz.func71 (by kernel_rfl) (by kernel_rfl)
theorem of_72:OfT w Tryz.f72 72 79 [.tmp 4]:=OfT.mk Tryz.func72 (by kernel_rfl) (by kernel_rfl)
theorem of_73:OfT w Tryz.f73 73 40 [.tmp 4,.tmp 5]:=OfT.mk Tryz.func73 (by kernel_rfl) (by kernel_rfl)
theorem of_74:OfT w Tryz.f74 74 12 [.tmp 4]:=OfT.mk Tryz.func74 (by kernel_rfl) (by kernel_rfl)
theorem of_75:OfT w Tryz.f75 75 12 [.tmp 2]:=OfT.mk Tryz.func75 (by kernel_rfl) (by kernel_rfl)
theorem of_78:OfT w Tryz.f78 78 108 [.tmp 4]:=OfT.mk Tryz.func78 (by kernel_rfl) (by kernel_rfl)
theorem of_79:OfT w Tryz.f79 79 48 [.cell 4 45,.tmp 5]:=OfT.mk Tryz.func79 (by kernel_rfl) (by kernel_rfl)
theorem of_88:OfT w Tryz.f88 88 56 [.tmp 2]:=OfT.mk Tryz.func88 (by kernel_rfl) (by kernel_rfl)
theorem of_89:OfT w Tryz.f89 89 27 [.tmp 6]:=OfT.mk Tryz.func89 (by kernel_rfl) (by kernel_rfl)
theorem of_90:OfT w Tryz.f90 90 4 [.tmp 2]:=OfT.mk Tryz.func90 (by kernel_rfl) (by kernel_rfl)
theorem of_91:OfT w Tryz.f91 91 11 [.tmp 2]:=OfT.mk Tryz.func91 (by kernel_rfl) (by kernel_rfl)
theorem of_92:OfT w Tryz.f92 92 9 [.tmp 4]:=OfT.mk Tryz.func92 (by kernel_rfl) (by kernel_rfl)
theorem of_93:OfT w Tryz.f93 93 2 [.tmp 0]:=OfT.mk Tryz.func93 (by kernel_rfl) (by kernel_rfl)
theorem of_94:OfT w Tryz.f94 94 9 [.tmp 2]:=OfT.mk Tryz.func94 (by kernel_rfl) (by kernel_rfl)
theorem of_95:OfT w Tryz.f95 95 18 [.tmp 4,.tmp 5]:=OfT.mk Tryz.func95 (by kernel_rfl) (by kernel_rfl)
theorem of_96:OfT w Tryz.f96 96 29 [.tmp 6]:=OfT.mk Tryz.func96 (by kernel_rfl) (by kernel_rfl)
theorem of_111:OfT w Tryz.f111 111 27 [.tmp 2]:=OfT.mk Tryz.func111 (by kernel_rfl) (by kernel_rfl)
theorem of_113:OfT w Tryz.f113 113 24 [.tmp 6]:=OfT.mk Tryz.func113 (by kernel_rfl) (by kernel_rfl)
theorem of_114:OfT w Tryz.f114 114 86 [.tmp 4]:=OfT.mk Tryz.func114 (by kernel_rfl) (by kernel_rfl)
theorem of_115:OfT w Tryz.f115 115 48 [.tmp 8]:=OfT.mk Tryz.func115 (by kernel_rfl) (by kernel_rfl)
theorem of_116:OfT w Tryz.f116 116 10 [.tmp 2]:=OfT.mk Tryz.func116 (by kernel_rfl) (by kernel_rfl)
theorem of_117:OfT w Tryz.f117 117 11 [.tmp 4]:=OfT.mk Tryz.func117 (by kernel_rfl) (by kernel_rfl)
theorem of_126:OfT w Tryz.f126 126 78 [.tmp 2]:=OfT.mk Tryz.func126 (by kernel_rfl) (by kernel_rfl)
theorem of_128:OfT w Tryz.f128 128 16 [.tmp 2]:=OfT.mk Tryz.func128 (by kernel_rfl) (by kernel_rfl)
theorem of_129:OfT w Tryz.f129 129 19 [.tmp 4]:=OfT.mk Tryz.func129 (by kernel_rfl) (by kernel_rfl)
theorem of_130:OfT w Tryz.f130 130 44 [.tmp 4,.tmp 5,.tmp 6]:=OfT.mk Tryz.func130 (by kernel_rfl) (by kernel_rfl)
theorem of_131:OfT w Tryz.f131 131 10 [.tmp 2]:=OfT.mk Tryz.func131 (by kernel_rfl) (by kernel_rfl)
theorem of_132:OfT w Tryz.f132 132 61 [.tmp 4]:=OfT.mk Tryz.func132 (by kernel_rfl) (by kernel_rfl)
theorem of_139:OfT w Tryz.f139 139 26 [.tmp 8,.tmp 9]:=OfT.mk Tryz.func139 (by kernel_rfl) (by kernel_rfl)
theorem of_140:OfT w Tryz.f140 140 15 [.tmp 5]:=OfT.mk Tryz.func140 (by kernel_rfl) (by kernel_rfl)
theorem of_147:OfT w Tryz.f147 147 26 [.tmp 2,.tmp 3]:=OfT.mk Tryz.func147 (by kernel_rfl) (by kernel_rfl)
theorem of_148:OfT w Tryz.f148 148 9 [.tmp 4]:=OfT.mk Tryz.func148 (by kernel_rfl) (by kernel_rfl)
theorem of_149:OfT w Tryz.f149 149 6 [.tmp 2]:=OfT.mk Tryz.func149 (by kernel_rfl) (by kernel_rfl)
theorem of_150:OfT w Tryz.f150 150 36 []:=OfT.mk Tryz.func150 (by kernel_rfl) (by kernel_rfl)
theorem of_151:OfT w Tryz.f151 151 23 [.cell 2 198]:=OfT.mk Tryz.func151 (by kernel_rfl) (by kernel_rfl)
theorem of_152:OfT w Tryz.f152 152 23 [.tmp 2]:=OfT.mk Tryz.func152 (by kernel_rfl) (by kernel_rfl)
theorem ot_160:OtT w Tryz.f160 160 101:=OtT.mk Tryz.func160 (by kernel_rfl)
theorem of_167:OfT w Tryz.f167 167 12 [.cell 0 251]:=OfT.mk Tryz.func167 (by kernel_rfl) (by kernel_rfl)
theorem of_168:OfT w Tryz.f168 168 19 [.tmp 4]:=OfT.mk Tryz.func168 (by kernel_rfl) (by kernel_rfl)
theorem of_172:OfT w Tryz.f172 172 8 [.tmp 0]:=OfT.mk Tryz.func172 (by kernel_rfl) (by kernel_rfl)
theorem of_174:OfT w Tryz.f174 174 181 [.tmp 6]:=OfT.mk Tryz.func174 (by kernel_rfl) (by kernel_rfl)
theorem of_182:OfT w Tryz.f182 182 4 [.tmp 2]:=OfT.mk Tryz.func182 (by kernel_rfl) (by kernel_rfl)
theorem of_183:OfT w Tryz.f183 183 14 [.tmp 5]:=OfT.mk Tryz.func183 (by kernel_rfl) (by kernel_rfl)
theorem of_184:OfT w Tryz.f184 184 7 [.tmp 4]:=OfT.mk Tryz.func184 (by kernel_rfl) (by kernel_rfl)
theorem of_185:OfT w Tryz.f185 185 8 [.tmp 4]:=OfT.mk Tryz.func185 (by kernel_rfl) (by kernel_rfl)
theorem of_186:OfT w Tryz.f186 186 4 [.tmp 2]:=OfT.mk Tryz.func186 (by kernel_rfl) (by kernel_rfl)
theorem of_187:OfT w Tryz.f187 187 8 [.tmp 4]:=OfT.mk Tryz.func187 (by kernel_rfl) (by kernel_rfl)
theorem of_188:OfT w Tryz.f188 188 8 [.tmp 4]:=OfT.mk Tryz.func188 (by kernel_rfl) (by kernel_rfl)
theorem of_189:OfT w Tryz.f189 189 8 [.tmp 4]:=OfT.mk Tryz.func189 (by kernel_rfl) (by kernel_rfl)
theorem of_190:OfT w Tryz.f190 190 8 [.tmp 4]:=OfT.mk Tryz.func190 (by kernel_rfl) (by kernel_rfl)
theorem of_191:OfT w Tryz.f191 191 8 [.tmp 4]:=OfT.mk Tryz.func191 (by kernel_rfl) (by kernel_rfl)
theorem of_192:OfT w Tryz.f192 192 9 [.tmp 4]:=OfT.mk Tryz.func192 (by kernel_rfl) (by kernel_rfl)
theorem of_193:OfT w Tryz.f193 193 9 [.tmp 4]:=OfT.mk Tryz.func193 (by kernel_rfl) (by kernel_rfl)
theorem of_194:OfT w Tryz.f194 194 9 [.tmp 4]:=OfT.mk Tryz.func194 (by kernel_rfl) (by kernel_rfl)
theorem of_195:OfT w Tryz.f195 195 9 [.tmp 4]:=OfT.mk Tryz.func195 (by kernel_rfl) (by kernel_rfl)
theorem of_196:OfT w Tryz.f196 196 9 [.tmp 4]:=OfT.mk Tryz.func196 (by kernel_rfl) (by kernel_rfl)
theorem of_197:OfT w Tryz.f197 197 9 [.tmp 4]:=OfT.mk Tryz.func197 (by kernel_rfl) (by kernel_rfl)
theorem of_198:OfT w Tryz.f198 198 16 []:=OfT.mk Tryz.func198 (by kernel_rfl) (by kernel_rfl)
theorem of_218:OfT w Tryz.f218 218 5 [.tmp 2]:=OfT.mk Tryz.func218 (by kernel_rfl) (by kernel_rfl)
theorem of_219:OfT w Tryz.f219 219 5 [.tmp 2]:=OfT.mk Tryz.func219 (by kernel_rfl) (by kernel_rfl)
theorem of_220:OfT w Tryz.f220 220 5 [.tmp 2]:=OfT.mk Tryz.func220 (by kernel_rfl) (by kernel_rfl)
theorem of_221:OfT w Tryz.f221 221 5 [.tmp 2]:=OfT.mk Tryz.func221 (by kernel_rfl) (by kernel_rfl)
end
instance:LawfulBEq ByteArray where
 eq_of_beq h:=by rw [ba_beq] at h; exact of_decide_eq_true h
 rfl {a}:=by rw [ba_beq]; exact dct rfl
inductive Ex where
 | mk (k:Int) (nm:ByteArray) (i:Int) (zs:List Ex)
inductive St where
 | mk (k:Int) (nm:ByteArray) (v:Ex) (body els:List St)
structure Fc where
 nm:ByteArray
 ps:List ByteArray
 body:List St
def sA (s:ByteArray):AVal:=.sc (.string s)
mutual
def IsEx:Ex->AVal->Prop
 | .mk k nm i zs,v=>∃ S els,v=.agg [(.sc (.int .i64 (k))),.sc (.string nm),(.sc (.int .i64 (i))),S]/\IsD 4 S els/\IsExs zs els/\in64 k/\in64 i/\nm.size<=281474976710656/\els.length<=281474976710656
def IsExs:List Ex->List AVal->Prop
 | [],els=>els=[]
 | x::xs,els=>∃ e es,els=e::es/\IsEx x e/\IsExs xs es
end
def Ex.k:Ex->Int|.mk k _ _ _=>k
def Ex.nm:Ex->ByteArray|.mk _ n _ _=>n
def Ex.i:Ex->Int|.mk _ _ i _=>i
def Ex.args:Ex->List Ex|.mk _ _ _ zs=>zs
theorem IsExs.len:∀ {zs:List Ex} {els:List AVal},IsExs zs els->els.length=zs.length
  | [], els, h => by
      simp only [IsExs] at h; subst h; rfl
  | x :: xs, els, h => by
      simp only [IsExs] at h
      obtain ⟨e,es,rfl,_,h⟩:=h
      simp [IsExs.len h]
theorem IsExs.at:∀ {zs:List Ex} {els:List AVal},IsExs zs els->∀ {j:Nat} {x:Ex},zs[j]?=some x->∃ e,els[j]?=some e/\IsEx x e
  | [],els,h,j,x,hx=>by simp at hx
  | y :: xs, els, h, j, x, hx => by
      simp only [IsExs] at h
      obtain ⟨e,es,rfl,h1,h⟩:=h
      cases j with
      | zero=>simp at hx; subst hx; exact ⟨e,rfl,h1⟩
      | succ j=>simpa using IsExs.at h (by simpa using hx)
mutual
def IsSt:St->AVal->Prop
  | .mk k nm v body els, w => ∃ SA SB SE ea eb ee, w = .agg [(.sc (.int .i64 (k))), .sc (.string nm), (.sc (.int .i64 (v.k))), .sc (.string v.nm), (.sc (.int .i64 (v.i))), SA, SB, SE] ∧ IsD 4 SA ea ∧ IsExs v.args ea ∧ IsD 8 SB eb ∧ IsSts body eb ∧ IsD 8 SE ee ∧ IsSts els ee ∧
      in64 k/\in64 v.k/\in64 v.i/\nm.size<=281474976710656/\v.nm.size<=281474976710656/\ea.length<=281474976710656/\eb.length<=281474976710656/\ee.length<=281474976710656
def IsSts:List St->List AVal->Prop
  | [],els=>els=[]
  | x::xs,els=>∃ e es,els=e::es/\IsSt x e/\IsSts xs es
end
def IsFc (f:Fc) (w:AVal):Prop:=∃ SP SB eb,w=.agg [.sc (.string f.nm),SP,SB]/\IsD 1 SP (f.ps.map sA)/\IsD 8 SB eb/\IsSts f.body eb/\f.nm.size<=281474976710656/\(∀ p∈f.ps,p.size<=281474976710656)/\f.ps.length<=281474976710656/\eb.length<=281474976710656
mutual
theorem IsEx.wf:∀ {x:Ex} {v:AVal},IsEx x v->WF 0 v
  | .mk k nm i zs, v, h => by
      simp only [IsEx] at h
      obtain ⟨S,els,rfl,hS,hs,_⟩:=h
      exact .agg _ (.cons _ _ (.sc _) (.cons _ _ (.sc _) (.cons _ _ (.sc _) (.cons _ _ (hS.wf (IsExs.wf hs)) .nil))))
theorem IsExs.wf:∀ {zs:List Ex} {els:List AVal},IsExs zs els->WFs 0 els
  | [],els,h=>by simp only [IsExs] at h; subst h; exact .nil
  | x :: xs, els, h => by
      simp only [IsExs] at h
      obtain ⟨e,es,rfl,h1,h⟩:=h
      exact .cons _ _ (IsEx.wf h1) (IsExs.wf h)
end
mutual
theorem IsSt.wf:∀ {x:St} {v:AVal},IsSt x v->WF 0 v
  | .mk k nm w body els, v, h => by
      simp only [IsSt] at h
      obtain ⟨SA,SB,SE,ea,eb,ee,rfl,hA,ha,hB,hb,hE,he,_⟩:=h
      exact .agg _ (.cons _ _ (.sc _) (.cons _ _ (.sc _) (.cons _ _ (.sc _) (.cons _ _ (.sc _) (.cons _ _ (.sc _) (.cons _ _ (hA.wf (IsExs.wf ha)) (.cons _ _ (hB.wf (IsSts.wf hb)) (.cons _ _ (hE.wf (IsSts.wf he)) .nil))))))))
theorem IsSts.wf:∀ {zs:List St} {els:List AVal},IsSts zs els->WFs 0 els
  | [],els,h=>by simp only [IsSts] at h; subst h; exact .nil
  | x :: xs, els, h => by
      simp only [IsSts] at h
      obtain ⟨e,es,rfl,h1,h⟩:=h
      exact .cons _ _ (IsSt.wf h1) (IsSts.wf h)
end
theorem wf_sA (l:List ByteArray):WFs 0 (l.map sA):=WFs.map fun _=>.sc _
theorem IsFc.wf {f:Fc} {w:AVal} (h:IsFc f w):WF 0 w:=by
 obtain ⟨SP,SB,eb,rfl,hP,hB,hb,_⟩:=h
 exact .agg _ (.cons _ _ (.sc _) (.cons _ _ (hP.wf (wf_sA _)) (.cons _ _ (hB.wf (IsSts.wf hb)) .nil)))
/-- How many parts a kind may have. -/
def arityB (k:Int) (n:Nat):Bool:=
 if k=1\/k=2 then decide (n=0)
 else if k=3\/k=4 then decide (n=1)
 else if 5<=k/\k<=17 then decide (n=2)
 else if k=18 then decide (n=3)
 else decide (k=19)
variable (nameB:ByteArray->Bool)
mutual
def formedB:Ex->Bool
 | .mk k nm i zs=>(arityB k zs.length && (if k=2\/k=19 then nameB nm else decide (nm.size=0))) && ((decide (i=0) || decide (k=1)) && (decide (-2147483648<=i) && decide (i<=2147483648))) && formedBs zs
def formedBs:List Ex->Bool
 | []=>true
 | x::xs=>formedB x && formedBs xs
end
theorem formedBs_all:∀ l,formedBs nameB l=l.all (formedB nameB)
 | []=>rfl
 | x::xs=>by simp [formedBs,formedBs_all xs]
mutual
def formedS:St->Bool
  | .mk k nm v body els => (decide (1 ≤ k) && decide (k ≤ 5)) && (if k = 1 ∨ k = 2 then nameB nm else decide (nm.size = 0)) && formedB nameB v &&
      ((decide (body.length=0) || (decide (k=3) || decide (k=4))) && (decide (els.length=0) || decide (k=3))) && formedSs body && formedSs els
def formedSs:List St->Bool
  | []=>true
  | x::xs=>formedS x && formedSs xs
end
mutual
def nodesE:Ex->Nat
 | .mk _ _ _ zs=>1+nodesEs zs
def nodesEs:List Ex->Nat
 | []=>0
 | x::xs=>nodesE x+nodesEs xs
end
mutual
def depthE:Ex->Nat
 | .mk _ _ _ zs=>1+depthEs zs
def depthEs:List Ex->Nat
 | []=>0
 | x::xs=>max (depthE x) (depthEs xs)
end
mutual
def fewE:Ex->Bool
 | .mk _ _ _ zs=>decide (zs.length<=4) && fewEs zs
def fewEs:List Ex->Bool
 | []=>true
 | x::xs=>fewE x && fewEs xs
end
mutual
def nodesS:St->Nat
 | .mk _ _ v b e=>1+nodesE v+nodesSs b+nodesSs e
def nodesSs:List St->Nat
 | []=>0
 | x::xs=>nodesS x+nodesSs xs
end
mutual
def depthS:St->Nat
 | .mk _ _ v b e=>1+max (depthE v) (max (depthSs b) (depthSs e))
def depthSs:List St->Nat
 | []=>0
 | x::xs=>max (depthS x) (depthSs xs)
end
mutual
def fewS:St->Bool
 | .mk _ _ v b e=>fewE v && fewSs b && fewSs e
def fewSs:List St->Bool
 | []=>true
 | x::xs=>fewS x && fewSs xs
end
def smallE (x:Ex):Bool:=decide (nodesE x<=400) && decide (depthE x<=30) && fewE x
def nodesF (l:List Fc):Nat:=(l.map fun f=>nodesSs f.body).sum
def smallF (l:List Fc):Bool:=(l.all fun f=>decide (depthSs f.body<=30) && fewSs f.body && decide (f.ps.length<=4)) && decide (nodesF l<=400) && decide (l.length<=8)
/-- 0: well; 2: no well-formed one; 3: too large. -/
def checkE (x:Ex):Int:=if formedB nameB x then (if smallE x then 0 else 3) else 2
def formedF (f:Fc):Bool:=nameB f.nm && f.ps.all nameB && formedSs nameB f.body
def checkF (l:List Fc):Int:=if l.all (formedF nameB) then (if smallF l then 0 else 3) else 2
def fcOf (l:List Fc) (nm:ByteArray):Option Fc:=l.find? fun f=>decide (f.nm=nm)
mutual
def expE (g o:List ByteArray) (l:List Fc):Ex->Int
 | .mk k nm _ zs=>
  match expEs g o l zs with
  | 0=>
   if k=2 then (if nm∈g\/nm∈o then 0 else 90)
   else if k=19 then (match fcOf l nm with
    | none=>90
    | some f=>if f.ps.length=zs.length then 0 else 91)
   else 0
  | e=>e
def expEs (g o:List ByteArray) (l:List Fc):List Ex->Int
 | []=>0
 | x::xs=>match expE g o l x with
  | 0=>expEs g o l xs
  | e=>e
end
mutual
def stE (g o:List ByteArray) (l:List Fc):St->Int
 | .mk k nm v b e=>
  match expE g o l v with
  | 0=>
   if (k=1/\(nm∈g\/nm∈o))\/(k=2/\nm ∉ o) then 90
   else match stEs g (if k=1 then o++[nm] else o) l b with
    | 0=>stEs g (if k=1 then o++[nm] else o) l e
    | e=>e
  | e=>e
def stEs (g o:List ByteArray) (l:List Fc):List St->Int
 | []=>0
 | x::xs=>match stE g o l x with
  | 0=>stEs g (match x with|.mk k nm _ _ _=>if k=1 then o++[nm] else o) l xs
  | e=>e
end
mutual
def retS:St->Bool
 | .mk k _ _ b e=>decide (k=5) || (decide (k=3) && retSs b && retSs e)
def retSs:List St->Bool
 | []=>false
 | x::xs=>retS x || retSs xs
end
/-- The first static error of a function behind others. -/
def parsBad (g:List ByteArray):List ByteArray->List ByteArray->Bool
 | _,[]=>false
 | o,p::ps=>decide (p∈g\/p∈o) || parsBad g (o++[p]) ps
def fnE (g:List ByteArray) (l:List Fc) (f:Fc):Int:=
 if f.nm∈g\/(fcOf l f.nm).isSome then 90
 else if parsBad g [] f.ps then 90
 else match stEs g f.ps l f.body with
  | 0=>if retSs f.body then 0 else 92
  | e=>e
def goF (g:List ByteArray):List Fc->List Fc->Int×Int
 | _,[]=>(0,0)
 | l,f::r=>match fnE g l f with
  | 0=>goF g (l++[f]) r
  | e=>(l.length,e)
def funcsP (l:List Fc) (g:List ByteArray):Int×Int:=
 match checkF nameB l with
 | 0=>goF g [] l
 | e=>(0,e)
def expP (x:Ex) (g:List ByteArray) (l:List Fc):Int:=
 match checkE nameB x with
 | 0=>match (funcsP nameB l g).2 with
  | 0=>expE g [] l x
  | e=>e
 | e=>e
end Abs
namespace Abs
open Go Go.Proofs
variable (nameB:ByteArray->Bool)
end Abs
end
