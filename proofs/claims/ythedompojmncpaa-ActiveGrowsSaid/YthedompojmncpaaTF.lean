/-
  Functions of the program walked: each is shown to compute a plain function (TF).
-/
import Derived.Test.YthedompojmncpaaProg
import Derived.Test.YthedompojmncpaaAbsMp
import Derived.Test.YthedompojmncpaaAbsSc
import Derived.KernelRfl
noncomputable section
namespace Abs
set_option linter.unusedSimpArgs false
set_option linter.unusedVariables false
set_option maxRecDepth 100000
set_option maxHeartbeats 16000000
open Go Go.Proofs
noncomputable def EE (w:WD):Env:={Env.of Try.prog w.w with ds:=w.ds}
section
variable {w:WD} {lit:Bool} {ρ:ARho} {σ:AStore} {args:List AVal} {R:AEnd->AStore->Prop}
theorem ty_27:tyA (EE w) 27=some (true,5):=by kernel_rfl
theorem ty_31:tyA (EE w) 31=some (true,2):=by kernel_rfl
theorem fn_4:(EE w).fns 4=true:=by kernel_rfl
theorem ln_32 {x:AVal}:opBi (EE w) .len [32] σ (some [x])=.ofV σ (aLen (.slice 0) x σ):=bi_len (by kernel_rfl)
theorem fn_5:(EE w).fns 5=true:=by kernel_rfl
theorem sl_32 {x:Operand} {lo hi:Option Operand}:aOp (EE w) lit (.slice 32 x lo hi none) ρ σ=opSl σ ⟨4,24,(.agg [(.sc (.int Go.IntKind.i64 (0))),(.sc (.bool false)),(.sc (.bool false)),(.sc (.int Go.IntKind.i64 (0)))])⟩ (ρ x) (optSome ρ lo) (optSome ρ hi):=op_slice (by kernel_rfl)
theorem fn_6:(EE w).fns 6=true:=by kernel_rfl
theorem ln_29 {x:AVal}:opBi (EE w) .len [29] σ (some [x])=.ofV σ (aLen (.slice 0) x σ):=bi_len (by kernel_rfl)
theorem fa_27_0 {x:Operand}:aOp (EE w) lit (.fieldAddr 27 x 0) ρ σ=opFA σ (some (0,false,1)) (ρ x):=op_fieldAddr (by kernel_rfl)
theorem ty_3:tyA (EE w) 3=some (false,1):=by kernel_rfl
theorem ia_29 {x y:Operand}:aOp (EE w) lit (.indexAddr 29 x y) ρ σ=opIA σ ⟨1,8,(.sc (.int Go.IntKind.i64 (0)))⟩ (ρ x) (ρ y):=op_indexAddr (by kernel_rfl)
theorem ty_2:tyA (EE w) 2=some (false,1):=by kernel_rfl
theorem fn_7:(EE w).fns 7=true:=by kernel_rfl
theorem fa_31_0 {x:Operand}:aOp (EE w) lit (.fieldAddr 31 x 0) ρ σ=opFA σ (some (0,false,1)) (ρ x):=op_fieldAddr (by kernel_rfl)
theorem ty_28:tyA (EE w) 28=some (false,1):=by kernel_rfl
theorem ln_28 {x:AVal}:opBi (EE w) .len [28] σ (some [x])=.ofV σ (aLen (.slice 0) x σ):=bi_len (by kernel_rfl)
theorem fa_31_1 {x:Operand}:aOp (EE w) lit (.fieldAddr 31 x 1) ρ σ=opFA σ (some (1,false,1)) (ρ x):=op_fieldAddr (by kernel_rfl)
theorem ty_29:tyA (EE w) 29=some (false,1):=by kernel_rfl
theorem fn_11:(EE w).fns 11=true:=by kernel_rfl
theorem ms_29 {x y:Operand}:aOp (EE w) lit (.makeSlice 29 x y) ρ σ=opMk σ ⟨1,8,(.sc (.int Go.IntKind.i64 (0)))⟩ (ρ x) (ρ y):=op_makeSlice (by kernel_rfl)
theorem fa_27_4 {x:Operand}:aOp (EE w) lit (.fieldAddr 27 x 4) ρ σ=opFA σ (some (4,false,1)) (ρ x):=op_fieldAddr (by kernel_rfl)
theorem ty_25:tyA (EE w) 25=some (false,1):=by kernel_rfl
theorem ln_25 {x:AVal}:opBi (EE w) .len [25] σ (some [x])=.ofV σ (aLen (.slice 0) x σ):=bi_len (by kernel_rfl)
theorem ia_25 {x y:Operand}:aOp (EE w) lit (.indexAddr 25 x y) ρ σ=opIA σ ⟨3,56,(.agg [(.sc (.int Go.IntKind.i64 (0))),(.sc (.slice none 0 0)),(.sc (.slice none 0 0))])⟩ (ρ x) (ρ y):=op_indexAddr (by kernel_rfl)
theorem ty_49:tyA (EE w) 49=some (true,3):=by kernel_rfl
theorem zr_49:zeroD (EE w) 49=some (.agg [(.sc (.int Go.IntKind.i64 (0))),(.sc (.slice none 0 0)),(.sc (.slice none 0 0))]):=by kernel_rfl
theorem fn_12:(EE w).fns 12=true:=by kernel_rfl
theorem ia_28 {x y:Operand}:aOp (EE w) lit (.indexAddr 28 x y) ρ σ=opIA σ ⟨1,8,(.sc (.int Go.IntKind.i64 (0)))⟩ (ρ x) (ρ y):=op_indexAddr (by kernel_rfl)
theorem ia_51 {x y:Operand}:aOp (EE w) lit (.indexAddr 51 x y) ρ σ=opIA σ ⟨1,24,(.sc (.slice none 0 0))⟩ (ρ x) (ρ y):=op_indexAddr (by kernel_rfl)
theorem bs_29 {n:Nat} {ps:Array (Nat×Operand)}:aOp (EE w) lit (.buildSlice 29 n ps) ρ σ=opBuildSl σ lit ⟨1,8,(.sc (.int Go.IntKind.i64 (0)))⟩ n (partsSome ρ ps.toList):=op_buildSlice (by kernel_rfl)
theorem fn_13:(EE w).fns 13=true:=by kernel_rfl
theorem ia_32 {x y:Operand}:aOp (EE w) lit (.indexAddr 32 x y) ρ σ=opIA σ ⟨4,24,(.agg [(.sc (.int Go.IntKind.i64 (0))),(.sc (.bool false)),(.sc (.bool false)),(.sc (.int Go.IntKind.i64 (0)))])⟩ (ρ x) (ρ y):=op_indexAddr (by kernel_rfl)
theorem ty_43:tyA (EE w) 43=some (true,4):=by kernel_rfl
theorem zr_43:zeroD (EE w) 43=some (.agg [(.sc (.int Go.IntKind.i64 (0))),(.sc (.bool false)),(.sc (.bool false)),(.sc (.int Go.IntKind.i64 (0)))]):=by kernel_rfl
theorem fa_43_0 {x:Operand}:aOp (EE w) lit (.fieldAddr 43 x 0) ρ σ=opFA σ (some (0,false,1)) (ρ x):=op_fieldAddr (by kernel_rfl)
theorem fa_43_3 {x:Operand}:aOp (EE w) lit (.fieldAddr 43 x 3) ρ σ=opFA σ (some (3,false,1)) (ρ x):=op_fieldAddr (by kernel_rfl)
theorem fa_27_1 {x:Operand}:aOp (EE w) lit (.fieldAddr 27 x 1) ρ σ=opFA σ (some (1,false,1)) (ρ x):=op_fieldAddr (by kernel_rfl)
theorem ty_22:tyA (EE w) 22=some (false,1):=by kernel_rfl
theorem ln_22 {x:AVal}:opBi (EE w) .len [22] σ (some [x])=.ofV σ (aLen (.slice 0) x σ):=bi_len (by kernel_rfl)
theorem fa_27_3 {x:Operand}:aOp (EE w) lit (.fieldAddr 27 x 3) ρ σ=opFA σ (some (3,false,1)) (ρ x):=op_fieldAddr (by kernel_rfl)
theorem ty_24:tyA (EE w) 24=some (false,1):=by kernel_rfl
theorem ln_24 {x:AVal}:opBi (EE w) .len [24] σ (some [x])=.ofV σ (aLen (.slice 0) x σ):=bi_len (by kernel_rfl)
theorem fa_27_2 {x:Operand}:aOp (EE w) lit (.fieldAddr 27 x 2) ρ σ=opFA σ (some (2,false,1)) (ρ x):=op_fieldAddr (by kernel_rfl)
theorem ty_23:tyA (EE w) 23=some (false,1):=by kernel_rfl
theorem ln_23 {x:AVal}:opBi (EE w) .len [23] σ (some [x])=.ofV σ (aLen (.slice 0) x σ):=bi_len (by kernel_rfl)
theorem fa_49_2 {x:Operand}:aOp (EE w) lit (.fieldAddr 49 x 2) ρ σ=opFA σ (some (2,false,1)) (ρ x):=op_fieldAddr (by kernel_rfl)
theorem ty_47:tyA (EE w) 47=some (false,1):=by kernel_rfl
theorem ln_47 {x:AVal}:opBi (EE w) .len [47] σ (some [x])=.ofV σ (aLen (.slice 0) x σ):=bi_len (by kernel_rfl)
theorem fa_49_1 {x:Operand}:aOp (EE w) lit (.fieldAddr 49 x 1) ρ σ=opFA σ (some (1,false,1)) (ρ x):=op_fieldAddr (by kernel_rfl)
theorem ty_46:tyA (EE w) 46=some (false,1):=by kernel_rfl
theorem ln_46 {x:AVal}:opBi (EE w) .len [46] σ (some [x])=.ofV σ (aLen (.slice 0) x σ):=bi_len (by kernel_rfl)
theorem ia_46 {x y:Operand}:aOp (EE w) lit (.indexAddr 46 x y) ρ σ=opIA σ ⟨3,40,(.agg [(.sc (.int Go.IntKind.i64 (0))),(.sc (.slice none 0 0)),(.sc (.int Go.IntKind.i64 (0)))])⟩ (ρ x) (ρ y):=op_indexAddr (by kernel_rfl)
theorem fa_57_1 {x:Operand}:aOp (EE w) lit (.fieldAddr 57 x 1) ρ σ=opFA σ (some (1,false,1)) (ρ x):=op_fieldAddr (by kernel_rfl)
theorem ty_32:tyA (EE w) 32=some (false,1):=by kernel_rfl
theorem ia_47 {x y:Operand}:aOp (EE w) lit (.indexAddr 47 x y) ρ σ=opIA σ ⟨13,176,(.agg [(.sc (.int Go.IntKind.i64 (0))),(.sc (.int Go.IntKind.i64 (0))),(.sc (.slice none 0 0)),(.sc (.int Go.IntKind.i64 (0))),(.sc (.string ⟨#[]⟩)),(.sc (.int Go.IntKind.i64 (0))),(.sc (.slice none 0 0)),(.sc (.int Go.IntKind.i64 (0))),(.sc (.bool false)),(.sc (.slice none 0 0)),(.sc (.slice none 0 0)),(.sc (.int Go.IntKind.i64 (0))),(.sc (.int Go.IntKind.i64 (0)))])⟩ (ρ x) (ρ y):=op_indexAddr (by kernel_rfl)
theorem ty_64:tyA (EE w) 64=some (true,13):=by kernel_rfl
theorem zr_64:zeroD (EE w) 64=some (.agg [(.sc (.int Go.IntKind.i64 (0))),(.sc (.int Go.IntKind.i64 (0))),(.sc (.slice none 0 0)),(.sc (.int Go.IntKind.i64 (0))),(.sc (.string ⟨#[]⟩)),(.sc (.int Go.IntKind.i64 (0))),(.sc (.slice none 0 0)),(.sc (.int Go.IntKind.i64 (0))),(.sc (.bool false)),(.sc (.slice none 0 0)),(.sc (.slice none 0 0)),(.sc (.int Go.IntKind.i64 (0))),(.sc (.int Go.IntKind.i64 (0)))]):=by kernel_rfl
theorem fa_64_2 {x:Operand}:aOp (EE w) lit (.fieldAddr 64 x 2) ρ σ=opFA σ (some (2,false,1)) (ρ x):=op_fieldAddr (by kernel_rfl)
theorem fa_64_6 {x:Operand}:aOp (EE w) lit (.fieldAddr 64 x 6) ρ σ=opFA σ (some (9,false,1)) (ρ x):=op_fieldAddr (by kernel_rfl)
theorem ty_61:tyA (EE w) 61=some (false,1):=by kernel_rfl
theorem ln_61 {x:AVal}:opBi (EE w) .len [61] σ (some [x])=.ofV σ (aLen (.slice 0) x σ):=bi_len (by kernel_rfl)
theorem fa_64_7 {x:Operand}:aOp (EE w) lit (.fieldAddr 64 x 7) ρ σ=opFA σ (some (10,false,1)) (ρ x):=op_fieldAddr (by kernel_rfl)
theorem ty_62:tyA (EE w) 62=some (false,1):=by kernel_rfl
theorem ln_62 {x:AVal}:opBi (EE w) .len [62] σ (some [x])=.ofV σ (aLen (.slice 0) x σ):=bi_len (by kernel_rfl)
theorem fa_64_3 {x:Operand}:aOp (EE w) lit (.fieldAddr 64 x 3) ρ σ=opFA σ (some (3,true,4)) (ρ x):=op_fieldAddr (by kernel_rfl)
theorem ty_60:tyA (EE w) 60=some (true,4):=by kernel_rfl
theorem fn_14:(EE w).fns 14=true:=by kernel_rfl
theorem ia_61 {x y:Operand}:aOp (EE w) lit (.indexAddr 61 x y) ρ σ=opIA σ ⟨5,64,(.agg [(.sc (.int Go.IntKind.i64 (0))),(.sc (.int Go.IntKind.i64 (0))),(.sc (.string ⟨#[]⟩)),(.sc (.int Go.IntKind.i64 (0))),(.sc (.slice none 0 0))])⟩ (ρ x) (ρ y):=op_indexAddr (by kernel_rfl)
theorem fa_67_1 {x:Operand}:aOp (EE w) lit (.fieldAddr 67 x 1) ρ σ=opFA σ (some (1,true,4)) (ρ x):=op_fieldAddr (by kernel_rfl)
theorem fn_15:(EE w).fns 15=true:=by kernel_rfl
theorem fn_16:(EE w).fns 16=true:=by kernel_rfl
theorem fn_17:(EE w).fns 17=true:=by kernel_rfl
theorem ty_57:tyA (EE w) 57=some (true,3):=by kernel_rfl
theorem zr_57:zeroD (EE w) 57=some (.agg [(.sc (.int Go.IntKind.i64 (0))),(.sc (.slice none 0 0)),(.sc (.int Go.IntKind.i64 (0)))]):=by kernel_rfl
theorem fa_43_1 {x:Operand}:aOp (EE w) lit (.fieldAddr 43 x 1) ρ σ=opFA σ (some (1,false,1)) (ρ x):=op_fieldAddr (by kernel_rfl)
theorem ty_4:tyA (EE w) 4=some (false,1):=by kernel_rfl
theorem fa_64_0 {x:Operand}:aOp (EE w) lit (.fieldAddr 64 x 0) ρ σ=opFA σ (some (0,false,1)) (ρ x):=op_fieldAddr (by kernel_rfl)
theorem fn_18:(EE w).fns 18=true:=by kernel_rfl
theorem fa_64_1 {x:Operand}:aOp (EE w) lit (.fieldAddr 64 x 1) ρ σ=opFA σ (some (1,false,1)) (ρ x):=op_fieldAddr (by kernel_rfl)
theorem fa_60_3 {x:Operand}:aOp (EE w) lit (.fieldAddr 60 x 3) ρ σ=opFA σ (some (3,false,1)) (ρ x):=op_fieldAddr (by kernel_rfl)
theorem ty_58:tyA (EE w) 58=some (false,1):=by kernel_rfl
theorem ln_58 {x:AVal}:opBi (EE w) .len [58] σ (some [x])=.ofV σ (aLen (.slice 0) x σ):=bi_len (by kernel_rfl)
theorem ia_58 {x y:Operand}:aOp (EE w) lit (.indexAddr 58 x y) ρ σ=opIA σ ⟨4,56,(.agg [(.sc (.int Go.IntKind.i64 (0))),(.sc (.string ⟨#[]⟩)),(.sc (.int Go.IntKind.i64 (0))),(.sc (.slice none 0 0))])⟩ (ρ x) (ρ y):=op_indexAddr (by kernel_rfl)
theorem fn_19:(EE w).fns 19=true:=by kernel_rfl
theorem fn_20:(EE w).fns 20=true:=by kernel_rfl
theorem zr_79:zeroD (EE w) 79=some (.agg [(.sc (.int Go.IntKind.i64 (0)))]):=by kernel_rfl
theorem fn_22:(EE w).fns 22=true:=by kernel_rfl
theorem fn_21:(EE w).fns 21=true:=by kernel_rfl
theorem ln_76 {x:AVal}:opBi (EE w) .len [76] σ (some [x])=.ofV σ (aLen (.slice 0) x σ):=bi_len (by kernel_rfl)
theorem ia_76 {x y:Operand}:aOp (EE w) lit (.indexAddr 76 x y) ρ σ=opIA σ ⟨1,16,(.sc (.string ⟨#[]⟩))⟩ (ρ x) (ρ y):=op_indexAddr (by kernel_rfl)
theorem ty_9:tyA (EE w) 9=some (false,1):=by kernel_rfl
theorem fn_23:(EE w).fns 23=true:=by kernel_rfl
theorem ia_22 {x y:Operand}:aOp (EE w) lit (.indexAddr 22 x y) ρ σ=opIA σ ⟨4,40,(.agg [(.sc (.string ⟨#[]⟩)),(.sc (.int Go.IntKind.i64 (0))),(.sc (.int Go.IntKind.i64 (0))),(.sc (.int Go.IntKind.i64 (0)))])⟩ (ρ x) (ρ y):=op_indexAddr (by kernel_rfl)
theorem ty_84:tyA (EE w) 84=some (true,4):=by kernel_rfl
theorem zr_84:zeroD (EE w) 84=some (.agg [(.sc (.string ⟨#[]⟩)),(.sc (.int Go.IntKind.i64 (0))),(.sc (.int Go.IntKind.i64 (0))),(.sc (.int Go.IntKind.i64 (0)))]):=by kernel_rfl
theorem fa_84_1 {x:Operand}:aOp (EE w) lit (.fieldAddr 84 x 1) ρ σ=opFA σ (some (1,false,1)) (ρ x):=op_fieldAddr (by kernel_rfl)
theorem fa_84_2 {x:Operand}:aOp (EE w) lit (.fieldAddr 84 x 2) ρ σ=opFA σ (some (2,false,1)) (ρ x):=op_fieldAddr (by kernel_rfl)
theorem fn_24:(EE w).fns 24=true:=by kernel_rfl
theorem zr_86:zeroD (EE w) 86=some (.agg [(.sc (.slice none 0 0)),(.sc (.slice none 0 0))]):=by kernel_rfl
theorem ty_86:tyA (EE w) 86=some (true,2):=by kernel_rfl
theorem fa_79_0 {x:Operand}:aOp (EE w) lit (.fieldAddr 79 x 0) ρ σ=opFA σ (some (0,false,1)) (ρ x):=op_fieldAddr (by kernel_rfl)
theorem ty_35:tyA (EE w) 35=some (false,1):=by kernel_rfl
theorem fn_25:(EE w).fns 25=true:=by kernel_rfl
theorem fa_49_0 {x:Operand}:aOp (EE w) lit (.fieldAddr 49 x 0) ρ σ=opFA σ (some (0,false,1)) (ρ x):=op_fieldAddr (by kernel_rfl)
theorem fn_26:(EE w).fns 26=true:=by kernel_rfl
theorem fa_57_0 {x:Operand}:aOp (EE w) lit (.fieldAddr 57 x 0) ρ σ=opFA σ (some (0,false,1)) (ρ x):=op_fieldAddr (by kernel_rfl)
theorem fa_57_2 {x:Operand}:aOp (EE w) lit (.fieldAddr 57 x 2) ρ σ=opFA σ (some (2,false,1)) (ρ x):=op_fieldAddr (by kernel_rfl)
theorem fn_28:(EE w).fns 28=true:=by kernel_rfl
theorem fn_29:(EE w).fns 29=true:=by kernel_rfl
theorem fa_64_4 {x:Operand}:aOp (EE w) lit (.fieldAddr 64 x 4) ρ σ=opFA σ (some (7,false,1)) (ρ x):=op_fieldAddr (by kernel_rfl)
theorem fa_64_5 {x:Operand}:aOp (EE w) lit (.fieldAddr 64 x 5) ρ σ=opFA σ (some (8,false,1)) (ρ x):=op_fieldAddr (by kernel_rfl)
theorem fa_64_8 {x:Operand}:aOp (EE w) lit (.fieldAddr 64 x 8) ρ σ=opFA σ (some (11,false,1)) (ρ x):=op_fieldAddr (by kernel_rfl)
theorem fa_64_9 {x:Operand}:aOp (EE w) lit (.fieldAddr 64 x 9) ρ σ=opFA σ (some (12,false,1)) (ρ x):=op_fieldAddr (by kernel_rfl)
theorem ia_62 {x y:Operand}:aOp (EE w) lit (.indexAddr 62 x y) ρ σ=opIA σ ⟨2,16,(.agg [(.sc (.int Go.IntKind.i64 (0))),(.sc (.int Go.IntKind.i64 (0)))])⟩ (ρ x) (ρ y):=op_indexAddr (by kernel_rfl)
theorem ty_69:tyA (EE w) 69=some (true,2):=by kernel_rfl
theorem zr_69:zeroD (EE w) 69=some (.agg [(.sc (.int Go.IntKind.i64 (0))),(.sc (.int Go.IntKind.i64 (0)))]):=by kernel_rfl
theorem fa_69_0 {x:Operand}:aOp (EE w) lit (.fieldAddr 69 x 0) ρ σ=opFA σ (some (0,false,1)) (ρ x):=op_fieldAddr (by kernel_rfl)
theorem fa_69_1 {x:Operand}:aOp (EE w) lit (.fieldAddr 69 x 1) ρ σ=opFA σ (some (1,false,1)) (ρ x):=op_fieldAddr (by kernel_rfl)
theorem fn_27:(EE w).fns 27=true:=by kernel_rfl
theorem fn_30:(EE w).fns 30=true:=by kernel_rfl
theorem fn_32:(EE w).fns 32=true:=by kernel_rfl
theorem fn_31:(EE w).fns 31=true:=by kernel_rfl
theorem ty_67:tyA (EE w) 67=some (true,5):=by kernel_rfl
theorem zr_67:zeroD (EE w) 67=some (.agg [(.sc (.int Go.IntKind.i64 (0))),(.sc (.int Go.IntKind.i64 (0))),(.sc (.string ⟨#[]⟩)),(.sc (.int Go.IntKind.i64 (0))),(.sc (.slice none 0 0))]):=by kernel_rfl
theorem fa_67_0 {x:Operand}:aOp (EE w) lit (.fieldAddr 67 x 0) ρ σ=opFA σ (some (0,false,1)) (ρ x):=op_fieldAddr (by kernel_rfl)
theorem fn_33:(EE w).fns 33=true:=by kernel_rfl
theorem fn_34:(EE w).fns 34=true:=by kernel_rfl
theorem fn_35:(EE w).fns 35=true:=by kernel_rfl
theorem fn_36:(EE w).fns 36=true:=by kernel_rfl
theorem ms_51 {x y:Operand}:aOp (EE w) lit (.makeSlice 51 x y) ρ σ=opMk σ ⟨1,24,(.sc (.slice none 0 0))⟩ (ρ x) (ρ y):=op_makeSlice (by kernel_rfl)
theorem ln_51 {x:AVal}:opBi (EE w) .len [51] σ (some [x])=.ofV σ (aLen (.slice 0) x σ):=bi_len (by kernel_rfl)
theorem ia_24 {x y:Operand}:aOp (EE w) lit (.indexAddr 24 x y) ρ σ=opIA σ ⟨3,64,(.agg [(.sc (.string ⟨#[]⟩)),(.sc (.slice none 0 0)),(.sc (.slice none 0 0))])⟩ (ρ x) (ρ y):=op_indexAddr (by kernel_rfl)
theorem ty_103:tyA (EE w) 103=some (true,3):=by kernel_rfl
theorem zr_103:zeroD (EE w) 103=some (.agg [(.sc (.string ⟨#[]⟩)),(.sc (.slice none 0 0)),(.sc (.slice none 0 0))]):=by kernel_rfl
theorem fa_103_0 {x:Operand}:aOp (EE w) lit (.fieldAddr 103 x 0) ρ σ=opFA σ (some (0,false,1)) (ρ x):=op_fieldAddr (by kernel_rfl)
theorem fa_103_1 {x:Operand}:aOp (EE w) lit (.fieldAddr 103 x 1) ρ σ=opFA σ (some (1,false,1)) (ρ x):=op_fieldAddr (by kernel_rfl)
theorem ty_76:tyA (EE w) 76=some (false,1):=by kernel_rfl
theorem fn_37:(EE w).fns 37=true:=by kernel_rfl
theorem fa_103_2 {x:Operand}:aOp (EE w) lit (.fieldAddr 103 x 2) ρ σ=opFA σ (some (2,false,1)) (ρ x):=op_fieldAddr (by kernel_rfl)
theorem ty_101:tyA (EE w) 101=some (false,1):=by kernel_rfl
theorem fn_39:(EE w).fns 39=true:=by kernel_rfl
theorem fn_42:(EE w).fns 42=true:=by kernel_rfl
theorem bs_76 {n:Nat} {ps:Array (Nat×Operand)}:aOp (EE w) lit (.buildSlice 76 n ps) ρ σ=opBuildSl σ lit ⟨1,16,(.sc (.string ⟨#[]⟩))⟩ n (partsSome ρ ps.toList):=op_buildSlice (by kernel_rfl)
theorem ap_76 {a x:AVal}:opBi (EE w) .append [76,76] σ (some [a,x])=opApp (EE w) 76 σ ⟨1,16,(.sc (.string ⟨#[]⟩))⟩ a (aSrc 1 x σ):=bi_append (by kernel_rfl)
theorem fa_84_0 {x:Operand}:aOp (EE w) lit (.fieldAddr 84 x 0) ρ σ=opFA σ (some (0,false,1)) (ρ x):=op_fieldAddr (by kernel_rfl)
theorem ia_23 {x y:Operand}:aOp (EE w) lit (.indexAddr 23 x y) ρ σ=opIA σ ⟨3,24,(.agg [(.sc (.string ⟨#[]⟩)),(.sc (.bool false)),(.sc (.bool false))])⟩ (ρ x) (ρ y):=op_indexAddr (by kernel_rfl)
theorem ty_112:tyA (EE w) 112=some (true,3):=by kernel_rfl
theorem zr_112:zeroD (EE w) 112=some (.agg [(.sc (.string ⟨#[]⟩)),(.sc (.bool false)),(.sc (.bool false))]):=by kernel_rfl
theorem fa_112_0 {x:Operand}:aOp (EE w) lit (.fieldAddr 112 x 0) ρ σ=opFA σ (some (0,false,1)) (ρ x):=op_fieldAddr (by kernel_rfl)
theorem fn_43:(EE w).fns 43=true:=by kernel_rfl
theorem ln_9 {x:AVal}:opBi (EE w) .len [9] σ (some [x])=.ofV σ (aLen .string x σ):=bi_lenS (by kernel_rfl)
theorem ixs_9 {x y:Operand}:aOp (EE w) lit (.index 9 x y) ρ σ=opIS σ (ρ x) (ρ y):=op_index_str (by kernel_rfl)
theorem fn_45:(EE w).fns 45=true:=by kernel_rfl
theorem fn_47:(EE w).fns 47=true:=by kernel_rfl
theorem fn_46:(EE w).fns 46=true:=by kernel_rfl
theorem cvb_9_124:bytesD (EE w) 9 124=true:=by kernel_rfl
theorem cvg_9_124 {x:Operand}:aOp (EE w) lit (.convert 9 124 x) ρ σ=opCvG (EE w) 9 124 σ (ρ x):=op_convG
theorem ln_124 {x:AVal}:opBi (EE w) .len [124] σ (some [x])=.ofV σ (aLen (.slice 0) x σ):=bi_len (by kernel_rfl)
theorem ia_124 {x y:Operand}:aOp (EE w) lit (.indexAddr 124 x y) ρ σ=opIA σ ⟨1,1,(.sc (.int Go.IntKind.u8 (0)))⟩ (ρ x) (ρ y):=op_indexAddr (by kernel_rfl)
theorem ty_5:tyA (EE w) 5=some (false,1):=by kernel_rfl
theorem fn_48:(EE w).fns 48=true:=by kernel_rfl
theorem bd_86 {ps:Array (Nat×Operand)}:aOp (EE w) lit (.build 86 ps) ρ σ=opBuild σ (some ([(0,1),(1,1)],[(.sc (.slice none 0 0)),(.sc (.slice none 0 0))])) (partsSome ρ ps.toList):=op_build (by kernel_rfl)
theorem fa_84_3 {x:Operand}:aOp (EE w) lit (.fieldAddr 84 x 3) ρ σ=opFA σ (some (3,false,1)) (ρ x):=op_fieldAddr (by kernel_rfl)
theorem fa_86_0 {x:Operand}:aOp (EE w) lit (.fieldAddr 86 x 0) ρ σ=opFA σ (some (0,false,1)) (ρ x):=op_fieldAddr (by kernel_rfl)
theorem fn_49:(EE w).fns 49=true:=by kernel_rfl
theorem fa_43_2 {x:Operand}:aOp (EE w) lit (.fieldAddr 43 x 2) ρ σ=opFA σ (some (2,false,1)) (ρ x):=op_fieldAddr (by kernel_rfl)
theorem fa_60_0 {x:Operand}:aOp (EE w) lit (.fieldAddr 60 x 0) ρ σ=opFA σ (some (0,false,1)) (ρ x):=op_fieldAddr (by kernel_rfl)
theorem fa_60_1 {x:Operand}:aOp (EE w) lit (.fieldAddr 60 x 1) ρ σ=opFA σ (some (1,false,1)) (ρ x):=op_fieldAddr (by kernel_rfl)
theorem fa_60_2 {x:Operand}:aOp (EE w) lit (.fieldAddr 60 x 2) ρ σ=opFA σ (some (2,false,1)) (ρ x):=op_fieldAddr (by kernel_rfl)
theorem fa_86_1 {x:Operand}:aOp (EE w) lit (.fieldAddr 86 x 1) ρ σ=opFA σ (some (1,false,1)) (ρ x):=op_fieldAddr (by kernel_rfl)
theorem fn_50:(EE w).fns 50=true:=by kernel_rfl
theorem fa_112_2 {x:Operand}:aOp (EE w) lit (.fieldAddr 112 x 2) ρ σ=opFA σ (some (2,false,1)) (ρ x):=op_fieldAddr (by kernel_rfl)
theorem fa_112_1 {x:Operand}:aOp (EE w) lit (.fieldAddr 112 x 1) ρ σ=opFA σ (some (1,false,1)) (ρ x):=op_fieldAddr (by kernel_rfl)
theorem bd_129 {ps:Array (Nat×Operand)}:aOp (EE w) lit (.build 129 ps) ρ σ=opBuild σ (some ([(0,5),(5,1)],[(.sc (.int Go.IntKind.i64 (0))),(.sc (.slice none 0 0)),(.sc (.slice none 0 0)),(.sc (.slice none 0 0)),(.sc (.slice none 0 0)),(.sc (.slice none 0 0))])) (partsSome ρ ps.toList):=op_build (by kernel_rfl)
theorem fa_129_1 {x:Operand}:aOp (EE w) lit (.fieldAddr 129 x 1) ρ σ=opFA σ (some (5,false,1)) (ρ x):=op_fieldAddr (by kernel_rfl)
theorem fa_129_0 {x:Operand}:aOp (EE w) lit (.fieldAddr 129 x 0) ρ σ=opFA σ (some (0,true,5)) (ρ x):=op_fieldAddr (by kernel_rfl)
theorem ap_32 {a x:AVal}:opBi (EE w) .append [32,32] σ (some [a,x])=opApp (EE w) 32 σ ⟨4,24,(.agg [(.sc (.int Go.IntKind.i64 (0))),(.sc (.bool false)),(.sc (.bool false)),(.sc (.int Go.IntKind.i64 (0)))])⟩ a (aSrc 4 x σ):=bi_append (by kernel_rfl)
theorem fn_51:(EE w).fns 51=true:=by kernel_rfl
theorem fn_52:(EE w).fns 52=true:=by kernel_rfl
theorem ty_107:tyA (EE w) 107=some (true,8):=by kernel_rfl
theorem fn_41:(EE w).fns 41=true:=by kernel_rfl
theorem fa_107_1 {x:Operand}:aOp (EE w) lit (.fieldAddr 107 x 1) ρ σ=opFA σ (some (1,false,1)) (ρ x):=op_fieldAddr (by kernel_rfl)
theorem fa_107_0 {x:Operand}:aOp (EE w) lit (.fieldAddr 107 x 0) ρ σ=opFA σ (some (0,false,1)) (ρ x):=op_fieldAddr (by kernel_rfl)
theorem fa_107_2 {x:Operand}:aOp (EE w) lit (.fieldAddr 107 x 2) ρ σ=opFA σ (some (2,true,4)) (ρ x):=op_fieldAddr (by kernel_rfl)
theorem fn_54:(EE w).fns 54=true:=by kernel_rfl
theorem fa_107_3 {x:Operand}:aOp (EE w) lit (.fieldAddr 107 x 3) ρ σ=opFA σ (some (6,false,1)) (ρ x):=op_fieldAddr (by kernel_rfl)
theorem ln_101 {x:AVal}:opBi (EE w) .len [101] σ (some [x])=.ofV σ (aLen (.slice 0) x σ):=bi_len (by kernel_rfl)
theorem fa_107_4 {x:Operand}:aOp (EE w) lit (.fieldAddr 107 x 4) ρ σ=opFA σ (some (7,false,1)) (ρ x):=op_fieldAddr (by kernel_rfl)
theorem zr_133:zeroD (EE w) 133=some (.agg [(.sc (.int Go.IntKind.i64 (0))),(.sc (.int Go.IntKind.i64 (0))),(.sc (.bool false))]):=by kernel_rfl
theorem ia_101 {x y:Operand}:aOp (EE w) lit (.indexAddr 101 x y) ρ σ=opIA σ ⟨8,128,(.agg [(.sc (.int Go.IntKind.i64 (0))),(.sc (.string ⟨#[]⟩)),(.sc (.int Go.IntKind.i64 (0))),(.sc (.string ⟨#[]⟩)),(.sc (.int Go.IntKind.i64 (0))),(.sc (.slice none 0 0)),(.sc (.slice none 0 0)),(.sc (.slice none 0 0))])⟩ (ρ x) (ρ y):=op_indexAddr (by kernel_rfl)
theorem zr_107:zeroD (EE w) 107=some (.agg [(.sc (.int Go.IntKind.i64 (0))),(.sc (.string ⟨#[]⟩)),(.sc (.int Go.IntKind.i64 (0))),(.sc (.string ⟨#[]⟩)),(.sc (.int Go.IntKind.i64 (0))),(.sc (.slice none 0 0)),(.sc (.slice none 0 0)),(.sc (.slice none 0 0))]):=by kernel_rfl
theorem fn_55:(EE w).fns 55=true:=by kernel_rfl
theorem ty_133:tyA (EE w) 133=some (true,3):=by kernel_rfl
theorem fa_133_0 {x:Operand}:aOp (EE w) lit (.fieldAddr 133 x 0) ρ σ=opFA σ (some (0,false,1)) (ρ x):=op_fieldAddr (by kernel_rfl)
theorem fa_133_1 {x:Operand}:aOp (EE w) lit (.fieldAddr 133 x 1) ρ σ=opFA σ (some (1,false,1)) (ρ x):=op_fieldAddr (by kernel_rfl)
theorem fa_133_2 {x:Operand}:aOp (EE w) lit (.fieldAddr 133 x 2) ρ σ=opFA σ (some (2,false,1)) (ρ x):=op_fieldAddr (by kernel_rfl)
theorem fn_56:(EE w).fns 56=true:=by kernel_rfl
theorem mu_118 {m k x:Operand}:aOp (EE w) lit (.mapUpdate 118 m k x) ρ σ=opMs σ .string (ρ m) (ρ k) (ρ x):=op_mapUpdate (z:=.int Go.IntKind.i64 (0)) (by kernel_rfl)
theorem fn_57:(EE w).fns 57=true:=by kernel_rfl
theorem fn_58:(EE w).fns 58=true:=by kernel_rfl
theorem fn_59:(EE w).fns 59=true:=by kernel_rfl
theorem fn_60:(EE w).fns 60=true:=by kernel_rfl
theorem fn_61:(EE w).fns 61=true:=by kernel_rfl
theorem fn_62:(EE w).fns 62=true:=by kernel_rfl
theorem bd_133 {ps:Array (Nat×Operand)}:aOp (EE w) lit (.build 133 ps) ρ σ=opBuild σ (some ([(0,1),(1,1),(2,1)],[(.sc (.int Go.IntKind.i64 (0))),(.sc (.int Go.IntKind.i64 (0))),(.sc (.bool false))])) (partsSome ρ ps.toList):=op_build (by kernel_rfl)
theorem fn_65:(EE w).fns 65=true:=by kernel_rfl
theorem fn_64:(EE w).fns 64=true:=by kernel_rfl
theorem bs_144 {n:Nat} {ps:Array (Nat×Operand)}:aOp (EE w) lit (.buildSlice 144 n ps) ρ σ=opBuildSl σ lit ⟨1,24,(.sc (.slice none 0 0))⟩ n (partsSome ρ ps.toList):=op_buildSlice (by kernel_rfl)
theorem ln_144 {x:AVal}:opBi (EE w) .len [144] σ (some [x])=.ofV σ (aLen (.slice 0) x σ):=bi_len (by kernel_rfl)
theorem ia_144 {x y:Operand}:aOp (EE w) lit (.indexAddr 144 x y) ρ σ=opIA σ ⟨1,24,(.sc (.slice none 0 0))⟩ (ρ x) (ρ y):=op_indexAddr (by kernel_rfl)
theorem fn_66:(EE w).fns 66=true:=by kernel_rfl
theorem fn_67:(EE w).fns 67=true:=by kernel_rfl
theorem fa_149_1 {x:Operand}:aOp (EE w) lit (.fieldAddr 149 x 1) ρ σ=opFA σ (some (1,false,1)) (ρ x):=op_fieldAddr (by kernel_rfl)
theorem ty_118:tyA (EE w) 118=some (false,1):=by kernel_rfl
theorem zr_60:zeroD (EE w) 60=some (.agg [(.sc (.int Go.IntKind.i64 (0))),(.sc (.string ⟨#[]⟩)),(.sc (.int Go.IntKind.i64 (0))),(.sc (.slice none 0 0))]):=by kernel_rfl
theorem fa_149_0 {x:Operand}:aOp (EE w) lit (.fieldAddr 149 x 0) ρ σ=opFA σ (some (0,false,1)) (ρ x):=op_fieldAddr (by kernel_rfl)
theorem ty_147:tyA (EE w) 147=some (false,1):=by kernel_rfl
theorem lk_147 {x k:Operand} {ok:Bool}:aOp (EE w) lit (.lookup 147 x k ok) ρ σ=opLk σ .string (.bool false) ok (ρ x) (ρ k):=op_lookup (by kernel_rfl)
theorem lk_118 {x k:Operand} {ok:Bool}:aOp (EE w) lit (.lookup 118 x k ok) ρ σ=opLk σ .string (.int Go.IntKind.i64 (0)) ok (ρ x) (ρ k):=op_lookup (by kernel_rfl)
theorem fn_68:(EE w).fns 68=true:=by kernel_rfl
theorem ixa_152 {x y:Operand}:aOp (EE w) lit (.index 152 x y) ρ σ=opIxA σ (6,false,1) (ρ x) (ρ y):=op_index_arr (by kernel_rfl)
theorem rg_118 {x:Operand}:aOp (EE w) lit (.range 118 x) ρ σ=opRgM σ (ρ x):=op_rangeM (by kernel_rfl)
theorem fn_69:(EE w).fns 69=true:=by kernel_rfl
theorem bd_149 {ps:Array (Nat×Operand)}:aOp (EE w) lit (.build 149 ps) ρ σ=opBuild σ (some ([(0,1),(1,1)],[(.sc (.map none)),(.sc (.map none))])) (partsSome ρ ps.toList):=op_build (by kernel_rfl)
theorem mu_147 {m k x:Operand}:aOp (EE w) lit (.mapUpdate 147 m k x) ρ σ=opMs σ .string (ρ m) (ρ k) (ρ x):=op_mapUpdate (z:=.bool false) (by kernel_rfl)
theorem ty_136:tyA (EE w) 136=some (false,1):=by kernel_rfl
theorem fn_71:(EE w).fns 71=true:=by kernel_rfl
theorem fn_72:(EE w).fns 72=true:=by kernel_rfl
theorem zr_152:zeroD (EE w) 152=some (.agg [(.sc (.map none)),(.sc (.map none)),(.sc (.map none)),(.sc (.map none)),(.sc (.map none)),(.sc (.map none))]):=by kernel_rfl
theorem mi_118 {m k x:Operand}:aOp (EE w) lit (.insert 118 m k x) ρ σ=opMs σ .string (ρ m) (ρ k) (ρ x):=op_insert (z:=.int Go.IntKind.i64 (0)) (by kernel_rfl)
theorem ba_152 {ps:Array (Nat×Operand)}:aOp (EE w) lit (.build 152 ps) ρ σ=opBuildA σ (1,.agg #[.map none,.map none,.map none,.map none,.map none,.map none]) (partsSome ρ ps.toList):=op_buildA (by kernel_rfl)
theorem ty_152:tyA (EE w) 152=some (true,6):=by kernel_rfl
theorem rg_147 {x:Operand}:aOp (EE w) lit (.range 147 x) ρ σ=opRgM σ (ρ x):=op_rangeM (by kernel_rfl)
theorem de_147_9 {m k:AVal}:opBi (EE w) .delete [147,9] σ (some [m,k])=ofD (aMapDel .string m k σ):=bi_delete (z:=.bool false) (by kernel_rfl)
theorem zr_76:zeroD (EE w) 76=some (.sc (.slice none 0 0)):=by kernel_rfl
attribute [go_sem] ty_27 ty_31 fn_4 ln_32 fn_5 sl_32 fn_6 ln_29 fa_27_0 ty_3 ia_29 ty_2 fn_7 fa_31_0 ty_28 ln_28 fa_31_1 ty_29 fn_11 ms_29 fa_27_4 ty_25 ln_25 ia_25 ty_49 zr_49 fn_12 ia_28 ia_51 bs_29 fn_13 ia_32 ty_43 zr_43 fa_43_0 fa_43_3 fa_27_1 ty_22 ln_22 fa_27_3 ty_24 ln_24 fa_27_2 ty_23 ln_23 fa_49_2 ty_47 ln_47 fa_49_1 ty_46 ln_46 ia_46 fa_57_1 ty_32 ia_47 ty_64 zr_64 fa_64_2 fa_64_6 ty_61 ln_61 fa_64_7 ty_62 ln_62 fa_64_3 ty_60 fn_14 ia_61 fa_67_1 fn_15 fn_16 fn_17 ty_57 zr_57 fa_43_1 ty_4 fa_64_0 fn_18 fa_64_1 fa_60_3 ty_58 ln_58 ia_58 fn_19 fn_20 zr_79 fn_22 fn_21 ln_76 ia_76 ty_9 fn_23 ia_22 ty_84 zr_84 fa_84_1 fa_84_2 fn_24 zr_86 ty_86 fa_79_0 ty_35 fn_25 fa_49_0 fn_26 fa_57_0 fa_57_2 fn_28 fn_29 fa_64_4 fa_64_5 fa_64_8 fa_64_9 ia_62 ty_69 zr_69 fa_69_0 fa_69_1 fn_27 fn_30 fn_32 fn_31 ty_67 zr_67 fa_67_0 fn_33 fn_34 fn_35 fn_36 ms_51 ln_51 ia_24 ty_103 zr_103 fa_103_0 fa_103_1 ty_76 fn_37 fa_103_2 ty_101 fn_39 fn_42 bs_76 ap_76 fa_84_0 ia_23 ty_112 zr_112 fa_112_0 fn_43 ln_9 ixs_9 fn_45 fn_47 fn_46 cvb_9_124 cvg_9_124 ln_124 ia_124 ty_5 fn_48 bd_86 fa_84_3 fa_86_0 fn_49 fa_43_2 fa_60_0 fa_60_1 fa_60_2 fa_86_1 fn_50 fa_112_2 fa_112_1 bd_129 fa_129_1 fa_129_0 ap_32 fn_51 fn_52 ty_107 fn_41 fa_107_1 fa_107_0 fa_107_2 fn_54 fa_107_3 ln_101 fa_107_4 zr_133 ia_101 zr_107 fn_55 ty_133 fa_133_0 fa_133_1 fa_133_2 fn_56 mu_118 fn_57 fn_58 fn_59 fn_60 fn_61 fn_62 bd_133 fn_65 fn_64 bs_144 ln_144 ia_144 fn_66 fn_67 fa_149_1 ty_118 zr_60 fa_149_0 ty_147 lk_147 lk_118 fn_68 ixa_152 rg_118 fn_69 bd_149 mu_147 ty_136 fn_71 fn_72 zr_152 mi_118 ba_152 ty_152 rg_147 de_147_9 zr_76
theorem of_3 (hn:Nat.ble args.length 118=true) (hl:Nat.blt args.length 1000=true) {c:Code} (hc:Try.f3.body=some c) (hk:okC 118 c=true) (h:V (EE ⟨w.w,[]⟩) 118 c (vFin (EE ⟨w.w,[]⟩) [.tmp 6] R) (initE args 0) σ):ACalls (EE w) 3 args σ R:=
 ACalls.of_V' (E:=EE w) (E':=EE ⟨w.w,[]⟩) (n:=118) rfl rfl Try.f3 c _ Try.func3 hc (by kernel_rfl) (by kernel_rfl) hk hn hl h
theorem of_4 (hn:Nat.ble args.length 26=true) (hl:Nat.blt args.length 1000=true) {c:Code} (hc:Try.f4.body=some c) (hk:okC 26 c=true) (h:V (EE ⟨w.w,[]⟩) 26 c (vFin (EE ⟨w.w,[]⟩) [.tmp 6] R) (initE args 0) σ):ACalls (EE w) 4 args σ R:=
 ACalls.of_V' (E:=EE w) (E':=EE ⟨w.w,[]⟩) (n:=26) rfl rfl Try.f4 c _ Try.func4 hc (by kernel_rfl) (by kernel_rfl) hk hn hl h
theorem of_6 (hn:Nat.ble args.length 124=true) (hl:Nat.blt args.length 1000=true) {c:Code} (hc:Try.f6.body=some c) (hk:okC 124 c=true) (h:V (EE ⟨w.w,[]⟩) 124 c (vFin (EE ⟨w.w,[]⟩) [.tmp 6,.tmp 7,.tmp 8] R) (initE args 0) σ):ACalls (EE w) 6 args σ R:=
 ACalls.of_V' (E:=EE w) (E':=EE ⟨w.w,[]⟩) (n:=124) rfl rfl Try.f6 c _ Try.func6 hc (by kernel_rfl) (by kernel_rfl) hk hn hl h
theorem of_7 (hn:Nat.ble args.length 130=true) (hl:Nat.blt args.length 1000=true) {c:Code} (hc:Try.f7.body=some c) (hk:okC 130 c=true) (h:V (EE ⟨w.w,[]⟩) 130 c (vFin (EE ⟨w.w,[]⟩) [.tmp 2] R) (initE args 0) σ):ACalls (EE w) 7 args σ R:=
 ACalls.of_V' (E:=EE w) (E':=EE ⟨w.w,[]⟩) (n:=130) rfl rfl Try.f7 c _ Try.func7 hc (by kernel_rfl) (by kernel_rfl) hk hn hl h
theorem of_11 (hn:Nat.ble args.length 52=true) (hl:Nat.blt args.length 1000=true) {c:Code} (hc:Try.f11.body=some c) (hk:okC 52 c=true) (h:V (EE ⟨w.w,[]⟩) 52 c (vFin (EE ⟨w.w,[]⟩) [.tmp 6] R) (initE args 0) σ):ACalls (EE w) 11 args σ R:=
 ACalls.of_V' (E:=EE w) (E':=EE ⟨w.w,[]⟩) (n:=52) rfl rfl Try.f11 c _ Try.func11 hc (by kernel_rfl) (by kernel_rfl) hk hn hl h
theorem of_12 (hn:Nat.ble args.length 155=true) (hl:Nat.blt args.length 1000=true) {c:Code} (hc:Try.f12.body=some c) (hk:okC 155 c=true) (h:V (EE ⟨w.w,[]⟩) 155 c (vFin (EE ⟨w.w,[]⟩) [.tmp 4,.tmp 5] R) (initE args 0) σ):ACalls (EE w) 12 args σ R:=
 ACalls.of_V' (E:=EE w) (E':=EE ⟨w.w,[]⟩) (n:=155) rfl rfl Try.f12 c _ Try.func12 hc (by kernel_rfl) (by kernel_rfl) hk hn hl h
theorem of_13 (hn:Nat.ble args.length 24=true) (hl:Nat.blt args.length 1000=true) {c:Code} (hc:Try.f13.body=some c) (hk:okC 24 c=true) (h:V (EE ⟨w.w,[]⟩) 24 c (vFin (EE ⟨w.w,[]⟩) [.tmp 4] R) (initE args 0) σ):ACalls (EE w) 13 args σ R:=
 ACalls.of_V' (E:=EE w) (E':=EE ⟨w.w,[]⟩) (n:=24) rfl rfl Try.f13 c _ Try.func13 hc (by kernel_rfl) (by kernel_rfl) hk hn hl h
theorem of_14 (hn:Nat.ble args.length 31=true) (hl:Nat.blt args.length 1000=true) {c:Code} (hc:Try.f14.body=some c) (hk:okC 31 c=true) (h:V (EE ⟨w.w,[]⟩) 31 c (vFin (EE ⟨w.w,[]⟩) [.tmp 4] R) (initE args 0) σ):ACalls (EE w) 14 args σ R:=
 ACalls.of_V' (E:=EE w) (E':=EE ⟨w.w,[]⟩) (n:=31) rfl rfl Try.f14 c _ Try.func14 hc (by kernel_rfl) (by kernel_rfl) hk hn hl h
theorem of_15 (hn:Nat.ble args.length 287=true) (hl:Nat.blt args.length 1000=true) {c:Code} (hc:Try.f15.body=some c) (hk:okC 287 c=true) (h:V (EE ⟨w.w,[]⟩) 287 c (vFin (EE ⟨w.w,[]⟩) [.tmp 2] R) (initE args 0) σ):ACalls (EE w) 15 args σ R:=
 ACalls.of_V' (E:=EE w) (E':=EE ⟨w.w,[]⟩) (n:=287) rfl rfl Try.f15 c _ Try.func15 hc (by kernel_rfl) (by kernel_rfl) hk hn hl h
theorem of_16 (hn:Nat.ble args.length 20=true) (hl:Nat.blt args.length 1000=true) {c:Code} (hc:Try.f16.body=some c) (hk:okC 20 c=true) (h:V (EE ⟨w.w,[]⟩) 20 c (vFin (EE ⟨w.w,[]⟩) [.tmp 4,.tmp 5] R) (initE args 0) σ):ACalls (EE w) 16 args σ R:=
 ACalls.of_V' (E:=EE w) (E':=EE ⟨w.w,[]⟩) (n:=20) rfl rfl Try.f16 c _ Try.func16 hc (by kernel_rfl) (by kernel_rfl) hk hn hl h
theorem of_17 (hn:Nat.ble args.length 39=true) (hl:Nat.blt args.length 1000=true) {c:Code} (hc:Try.f17.body=some c) (hk:okC 39 c=true) (h:V (EE ⟨w.w,[]⟩) 39 c (vFin (EE ⟨w.w,[]⟩) [.tmp 4] R) (initE args 0) σ):ACalls (EE w) 17 args σ R:=
 ACalls.of_V' (E:=EE w) (E':=EE ⟨w.w,[]⟩) (n:=39) rfl rfl Try.f17 c _ Try.func17 hc (by kernel_rfl) (by kernel_rfl) hk hn hl h
theorem of_18 (hn:Nat.ble args.length 19=true) (hl:Nat.blt args.length 1000=true) {c:Code} (hc:Try.f18.body=some c) (hk:okC 19 c=true) (h:V (EE ⟨w.w,[]⟩) 19 c (vFin (EE ⟨w.w,[]⟩) [.tmp 4] R) (initE args 0) σ):ACalls (EE w) 18 args σ R:=
 ACalls.of_V' (E:=EE w) (E':=EE ⟨w.w,[]⟩) (n:=19) rfl rfl Try.f18 c _ Try.func18 hc (by kernel_rfl) (by kernel_rfl) hk hn hl h
theorem of_19 (hn:Nat.ble args.length 29=true) (hl:Nat.blt args.length 1000=true) {c:Code} (hc:Try.f19.body=some c) (hk:okC 29 c=true) (h:V (EE ⟨w.w,[]⟩) 29 c (vFin (EE ⟨w.w,[]⟩) [.tmp 2] R) (initE args 0) σ):ACalls (EE w) 19 args σ R:=
 ACalls.of_V' (E:=EE w) (E':=EE ⟨w.w,[]⟩) (n:=29) rfl rfl Try.f19 c _ Try.func19 hc (by kernel_rfl) (by kernel_rfl) hk hn hl h
theorem of_20 (hn:Nat.ble args.length 72=true) (hl:Nat.blt args.length 1000=true) {c:Code} (hc:Try.f20.body=some c) (hk:okC 72 c=true) (h:V (EE ⟨w.w,[]⟩) 72 c (vFin (EE ⟨w.w,[]⟩) [.tmp 10] R) (initE args 0) σ):ACalls (EE w) 20 args σ R:=
 ACalls.of_V' (E:=EE w) (E':=EE ⟨w.w,[]⟩) (n:=72) rfl rfl Try.f20 c _ Try.func20 hc (by kernel_rfl) (by kernel_rfl) hk hn hl h
theorem of_21 (hn:Nat.ble args.length 19=true) (hl:Nat.blt args.length 1000=true) {c:Code} (hc:Try.f21.body=some c) (hk:okC 19 c=true) (h:V (EE ⟨w.w,[]⟩) 19 c (vFin (EE ⟨w.w,[]⟩) [] R) (initE args 0) σ):ACalls (EE w) 21 args σ R:=
 ACalls.of_V' (E:=EE w) (E':=EE ⟨w.w,[]⟩) (n:=19) rfl rfl Try.f21 c _ Try.func21 hc (by kernel_rfl) (by kernel_rfl) hk hn hl h
theorem of_22 (hn:Nat.ble args.length 9=true) (hl:Nat.blt args.length 1000=true) {c:Code} (hc:Try.f22.body=some c) (hk:okC 9 c=true) (h:V (EE ⟨w.w,[]⟩) 9 c (vFin (EE ⟨w.w,[]⟩) [.tmp 2] R) (initE args 0) σ):ACalls (EE w) 22 args σ R:=
 ACalls.of_V' (E:=EE w) (E':=EE ⟨w.w,[]⟩) (n:=9) rfl rfl Try.f22 c _ Try.func22 hc (by kernel_rfl) (by kernel_rfl) hk hn hl h
theorem of_23 (hn:Nat.ble args.length 43=true) (hl:Nat.blt args.length 1000=true) {c:Code} (hc:Try.f23.body=some c) (hk:okC 43 c=true) (h:V (EE ⟨w.w,[]⟩) 43 c (vFin (EE ⟨w.w,[]⟩) [.tmp 2] R) (initE args 0) σ):ACalls (EE w) 23 args σ R:=
 ACalls.of_V' (E:=EE w) (E':=EE ⟨w.w,[]⟩) (n:=43) rfl rfl Try.f23 c _ Try.func23 hc (by kernel_rfl) (by kernel_rfl) hk hn hl h
theorem of_24 (hn:Nat.ble args.length 59=true) (hl:Nat.blt args.length 1000=true) {c:Code} (hc:Try.f24.body=some c) (hk:okC 59 c=true) (h:V (EE ⟨w.w,[]⟩) 59 c (vFin (EE ⟨w.w,[]⟩) [.cell 8 86] R) (initE args 0) σ):ACalls (EE w) 24 args σ R:=
 ACalls.of_V' (E:=EE w) (E':=EE ⟨w.w,[]⟩) (n:=59) rfl rfl Try.f24 c _ Try.func24 hc (by kernel_rfl) (by kernel_rfl) hk hn hl h
theorem of_25 (hn:Nat.ble args.length 29=true) (hl:Nat.blt args.length 1000=true) {c:Code} (hc:Try.f25.body=some c) (hk:okC 29 c=true) (h:V (EE ⟨w.w,[]⟩) 29 c (vFin (EE ⟨w.w,[]⟩) [] R) (initE args 0) σ):ACalls (EE w) 25 args σ R:=
 ACalls.of_V' (E:=EE w) (E':=EE ⟨w.w,[]⟩) (n:=29) rfl rfl Try.f25 c _ Try.func25 hc (by kernel_rfl) (by kernel_rfl) hk hn hl h
theorem of_26 (hn:Nat.ble args.length 12=true) (hl:Nat.blt args.length 1000=true) {c:Code} (hc:Try.f26.body=some c) (hk:okC 12 c=true) (h:V (EE ⟨w.w,[]⟩) 12 c (vFin (EE ⟨w.w,[]⟩) [.tmp 4] R) (initE args 0) σ):ACalls (EE w) 26 args σ R:=
 ACalls.of_V' (E:=EE w) (E':=EE ⟨w.w,[]⟩) (n:=12) rfl rfl Try.f26 c _ Try.func26 hc (by kernel_rfl) (by kernel_rfl) hk hn hl h
theorem of_27 (hn:Nat.ble args.length 9=true) (hl:Nat.blt args.length 1000=true) {c:Code} (hc:Try.f27.body=some c) (hk:okC 9 c=true) (h:V (EE ⟨w.w,[]⟩) 9 c (vFin (EE ⟨w.w,[]⟩) [.tmp 2] R) (initE args 0) σ):ACalls (EE w) 27 args σ R:=
 ACalls.of_V' (E:=EE w) (E':=EE ⟨w.w,[]⟩) (n:=9) rfl rfl Try.f27 c _ Try.func27 hc (by kernel_rfl) (by kernel_rfl) hk hn hl h
theorem of_28 (hn:Nat.ble args.length 9=true) (hl:Nat.blt args.length 1000=true) {c:Code} (hc:Try.f28.body=some c) (hk:okC 9 c=true) (h:V (EE ⟨w.w,[]⟩) 9 c (vFin (EE ⟨w.w,[]⟩) [.tmp 2] R) (initE args 0) σ):ACalls (EE w) 28 args σ R:=
 ACalls.of_V' (E:=EE w) (E':=EE ⟨w.w,[]⟩) (n:=9) rfl rfl Try.f28 c _ Try.func28 hc (by kernel_rfl) (by kernel_rfl) hk hn hl h
theorem of_29 (hn:Nat.ble args.length 29=true) (hl:Nat.blt args.length 1000=true) {c:Code} (hc:Try.f29.body=some c) (hk:okC 29 c=true) (h:V (EE ⟨w.w,[]⟩) 29 c (vFin (EE ⟨w.w,[]⟩) [] R) (initE args 0) σ):ACalls (EE w) 29 args σ R:=
 ACalls.of_V' (E:=EE w) (E':=EE ⟨w.w,[]⟩) (n:=29) rfl rfl Try.f29 c _ Try.func29 hc (by kernel_rfl) (by kernel_rfl) hk hn hl h
theorem of_30 (hn:Nat.ble args.length 22=true) (hl:Nat.blt args.length 1000=true) {c:Code} (hc:Try.f30.body=some c) (hk:okC 22 c=true) (h:V (EE ⟨w.w,[]⟩) 22 c (vFin (EE ⟨w.w,[]⟩) [.tmp 2] R) (initE args 0) σ):ACalls (EE w) 30 args σ R:=
 ACalls.of_V' (E:=EE w) (E':=EE ⟨w.w,[]⟩) (n:=22) rfl rfl Try.f30 c _ Try.func30 hc (by kernel_rfl) (by kernel_rfl) hk hn hl h
theorem of_31 (hn:Nat.ble args.length 9=true) (hl:Nat.blt args.length 1000=true) {c:Code} (hc:Try.f31.body=some c) (hk:okC 9 c=true) (h:V (EE ⟨w.w,[]⟩) 9 c (vFin (EE ⟨w.w,[]⟩) [] R) (initE args 0) σ):ACalls (EE w) 31 args σ R:=
 ACalls.of_V' (E:=EE w) (E':=EE ⟨w.w,[]⟩) (n:=9) rfl rfl Try.f31 c _ Try.func31 hc (by kernel_rfl) (by kernel_rfl) hk hn hl h
theorem of_32 (hn:Nat.ble args.length 11=true) (hl:Nat.blt args.length 1000=true) {c:Code} (hc:Try.f32.body=some c) (hk:okC 11 c=true) (h:V (EE ⟨w.w,[]⟩) 11 c (vFin (EE ⟨w.w,[]⟩) [.tmp 4] R) (initE args 0) σ):ACalls (EE w) 32 args σ R:=
 ACalls.of_V' (E:=EE w) (E':=EE ⟨w.w,[]⟩) (n:=11) rfl rfl Try.f32 c _ Try.func32 hc (by kernel_rfl) (by kernel_rfl) hk hn hl h
theorem of_33 (hn:Nat.ble args.length 42=true) (hl:Nat.blt args.length 1000=true) {c:Code} (hc:Try.f33.body=some c) (hk:okC 42 c=true) (h:V (EE ⟨w.w,[]⟩) 42 c (vFin (EE ⟨w.w,[]⟩) [] R) (initE args 0) σ):ACalls (EE w) 33 args σ R:=
 ACalls.of_V' (E:=EE w) (E':=EE ⟨w.w,[]⟩) (n:=42) rfl rfl Try.f33 c _ Try.func33 hc (by kernel_rfl) (by kernel_rfl) hk hn hl h
theorem of_34 (hn:Nat.ble args.length 79=true) (hl:Nat.blt args.length 1000=true) {c:Code} (hc:Try.f34.body=some c) (hk:okC 79 c=true) (h:V (EE ⟨w.w,[]⟩) 79 c (vFin (EE ⟨w.w,[]⟩) [.tmp 4] R) (initE args 0) σ):ACalls (EE w) 34 args σ R:=
 ACalls.of_V' (E:=EE w) (E':=EE ⟨w.w,[]⟩) (n:=79) rfl rfl Try.f34 c _ Try.func34 hc (by kernel_rfl) (by kernel_rfl) hk hn hl h
theorem of_35 (hn:Nat.ble args.length 29=true) (hl:Nat.blt args.length 1000=true) {c:Code} (hc:Try.f35.body=some c) (hk:okC 29 c=true) (h:V (EE ⟨w.w,[]⟩) 29 c (vFin (EE ⟨w.w,[]⟩) [.tmp 2] R) (initE args 0) σ):ACalls (EE w) 35 args σ R:=
 ACalls.of_V' (E:=EE w) (E':=EE ⟨w.w,[]⟩) (n:=29) rfl rfl Try.f35 c _ Try.func35 hc (by kernel_rfl) (by kernel_rfl) hk hn hl h
theorem of_36 (hn:Nat.ble args.length 40=true) (hl:Nat.blt args.length 1000=true) {c:Code} (hc:Try.f36.body=some c) (hk:okC 40 c=true) (h:V (EE ⟨w.w,[]⟩) 40 c (vFin (EE ⟨w.w,[]⟩) [.tmp 4,.tmp 5] R) (initE args 0) σ):ACalls (EE w) 36 args σ R:=
 ACalls.of_V' (E:=EE w) (E':=EE ⟨w.w,[]⟩) (n:=40) rfl rfl Try.f36 c _ Try.func36 hc (by kernel_rfl) (by kernel_rfl) hk hn hl h
theorem of_37 (hn:Nat.ble args.length 9=true) (hl:Nat.blt args.length 1000=true) {c:Code} (hc:Try.f37.body=some c) (hk:okC 9 c=true) (h:V (EE ⟨w.w,[]⟩) 9 c (vFin (EE ⟨w.w,[]⟩) [.tmp 4] R) (initE args 0) σ):ACalls (EE w) 37 args σ R:=
 ACalls.of_V' (E:=EE w) (E':=EE ⟨w.w,[]⟩) (n:=9) rfl rfl Try.f37 c _ Try.func37 hc (by kernel_rfl) (by kernel_rfl) hk hn hl h
theorem of_38 (hn:Nat.ble args.length 6=true) (hl:Nat.blt args.length 1000=true) {c:Code} (hc:Try.f38.body=some c) (hk:okC 6 c=true) (h:V (EE ⟨w.w,[]⟩) 6 c (vFin (EE ⟨w.w,[]⟩) [.tmp 2] R) (initE args 0) σ):ACalls (EE w) 38 args σ R:=
 ACalls.of_V' (E:=EE w) (E':=EE ⟨w.w,[]⟩) (n:=6) rfl rfl Try.f38 c _ Try.func38 hc (by kernel_rfl) (by kernel_rfl) hk hn hl h
theorem of_39 (hn:Nat.ble args.length 9=true) (hl:Nat.blt args.length 1000=true) {c:Code} (hc:Try.f39.body=some c) (hk:okC 9 c=true) (h:V (EE ⟨w.w,[]⟩) 9 c (vFin (EE ⟨w.w,[]⟩) [.tmp 4] R) (initE args 0) σ):ACalls (EE w) 39 args σ R:=
 ACalls.of_V' (E:=EE w) (E':=EE ⟨w.w,[]⟩) (n:=9) rfl rfl Try.f39 c _ Try.func39 hc (by kernel_rfl) (by kernel_rfl) hk hn hl h
theorem of_40 (hn:Nat.ble args.length 6=true) (hl:Nat.blt args.length 1000=true) {c:Code} (hc:Try.f40.body=some c) (hk:okC 6 c=true) (h:V (EE ⟨w.w,[]⟩) 6 c (vFin (EE ⟨w.w,[]⟩) [.tmp 2] R) (initE args 0) σ):ACalls (EE w) 40 args σ R:=
 ACalls.of_V' (E:=EE w) (E':=EE ⟨w.w,[]⟩) (n:=6) rfl rfl Try.f40 c _ Try.func40 hc (by kernel_rfl) (by kernel_rfl) hk hn hl h
theorem of_41 (hn:Nat.ble args.length 76=true) (hl:Nat.blt args.length 1000=true) {c:Code} (hc:Try.f41.body=some c) (hk:okC 76 c=true) (h:V (EE ⟨w.w,[]⟩) 76 c (vFin (EE ⟨w.w,[]⟩) [.tmp 2] R) (initE args 0) σ):ACalls (EE w) 41 args σ R:=
 ACalls.of_V' (E:=EE w) (E':=EE ⟨w.w,[]⟩) (n:=76) rfl rfl Try.f41 c _ Try.func41 hc (by kernel_rfl) (by kernel_rfl) hk hn hl h
theorem of_42 (hn:Nat.ble args.length 56=true) (hl:Nat.blt args.length 1000=true) {c:Code} (hc:Try.f42.body=some c) (hk:okC 56 c=true) (h:V (EE ⟨w.w,[]⟩) 56 c (vFin (EE ⟨w.w,[]⟩) [.tmp 2] R) (initE args 0) σ):ACalls (EE w) 42 args σ R:=
 ACalls.of_V' (E:=EE w) (E':=EE ⟨w.w,[]⟩) (n:=56) rfl rfl Try.f42 c _ Try.func42 hc (by kernel_rfl) (by kernel_rfl) hk hn hl h
theorem of_43 (hn:Nat.ble args.length 27=true) (hl:Nat.blt args.length 1000=true) {c:Code} (hc:Try.f43.body=some c) (hk:okC 27 c=true) (h:V (EE ⟨w.w,[]⟩) 27 c (vFin (EE ⟨w.w,[]⟩) [.tmp 6] R) (initE args 0) σ):ACalls (EE w) 43 args σ R:=
 ACalls.of_V' (E:=EE w) (E':=EE ⟨w.w,[]⟩) (n:=27) rfl rfl Try.f43 c _ Try.func43 hc (by kernel_rfl) (by kernel_rfl) hk hn hl h
theorem of_44 (hn:Nat.ble args.length 4=true) (hl:Nat.blt args.length 1000=true) {c:Code} (hc:Try.f44.body=some c) (hk:okC 4 c=true) (h:V (EE ⟨w.w,[]⟩) 4 c (vFin (EE ⟨w.w,[]⟩) [.tmp 2] R) (initE args 0) σ):ACalls (EE w) 44 args σ R:=
 ACalls.of_V' (E:=EE w) (E':=EE ⟨w.w,[]⟩) (n:=4) rfl rfl Try.f44 c _ Try.func44 hc (by kernel_rfl) (by kernel_rfl) hk hn hl h
theorem of_45 (hn:Nat.ble args.length 11=true) (hl:Nat.blt args.length 1000=true) {c:Code} (hc:Try.f45.body=some c) (hk:okC 11 c=true) (h:V (EE ⟨w.w,[]⟩) 11 c (vFin (EE ⟨w.w,[]⟩) [.tmp 2] R) (initE args 0) σ):ACalls (EE w) 45 args σ R:=
 ACalls.of_V' (E:=EE w) (E':=EE ⟨w.w,[]⟩) (n:=11) rfl rfl Try.f45 c _ Try.func45 hc (by kernel_rfl) (by kernel_rfl) hk hn hl h
theorem of_46 (hn:Nat.ble args.length 9=true) (hl:Nat.blt args.length 1000=true) {c:Code} (hc:Try.f46.body=some c) (hk:okC 9 c=true) (h:V (EE ⟨w.w,[]⟩) 9 c (vFin (EE ⟨w.w,[]⟩) [.tmp 4] R) (initE args 0) σ):ACalls (EE w) 46 args σ R:=
 ACalls.of_V' (E:=EE w) (E':=EE ⟨w.w,[]⟩) (n:=9) rfl rfl Try.f46 c _ Try.func46 hc (by kernel_rfl) (by kernel_rfl) hk hn hl h
theorem of_47 (hn:Nat.ble args.length 2=true) (hl:Nat.blt args.length 1000=true) {c:Code} (hc:Try.f47.body=some c) (hk:okC 2 c=true) (h:V (EE ⟨w.w,[]⟩) 2 c (vFin (EE ⟨w.w,[]⟩) [.tmp 0] R) (initE args 0) σ):ACalls (EE w) 47 args σ R:=
 ACalls.of_V' (E:=EE w) (E':=EE ⟨w.w,[]⟩) (n:=2) rfl rfl Try.f47 c _ Try.func47 hc (by kernel_rfl) (by kernel_rfl) hk hn hl h
theorem of_48 (hn:Nat.ble args.length 9=true) (hl:Nat.blt args.length 1000=true) {c:Code} (hc:Try.f48.body=some c) (hk:okC 9 c=true) (h:V (EE ⟨w.w,[]⟩) 9 c (vFin (EE ⟨w.w,[]⟩) [.tmp 2] R) (initE args 0) σ):ACalls (EE w) 48 args σ R:=
 ACalls.of_V' (E:=EE w) (E':=EE ⟨w.w,[]⟩) (n:=9) rfl rfl Try.f48 c _ Try.func48 hc (by kernel_rfl) (by kernel_rfl) hk hn hl h
theorem of_49 (hn:Nat.ble args.length 18=true) (hl:Nat.blt args.length 1000=true) {c:Code} (hc:Try.f49.body=some c) (hk:okC 18 c=true) (h:V (EE ⟨w.w,[]⟩) 18 c (vFin (EE ⟨w.w,[]⟩) [.tmp 4,.tmp 5] R) (initE args 0) σ):ACalls (EE w) 49 args σ R:=
 ACalls.of_V' (E:=EE w) (E':=EE ⟨w.w,[]⟩) (n:=18) rfl rfl Try.f49 c _ Try.func49 hc (by kernel_rfl) (by kernel_rfl) hk hn hl h
theorem of_50 (hn:Nat.ble args.length 29=true) (hl:Nat.blt args.length 1000=true) {c:Code} (hc:Try.f50.body=some c) (hk:okC 29 c=true) (h:V (EE ⟨w.w,[]⟩) 29 c (vFin (EE ⟨w.w,[]⟩) [.tmp 6] R) (initE args 0) σ):ACalls (EE w) 50 args σ R:=
 ACalls.of_V' (E:=EE w) (E':=EE ⟨w.w,[]⟩) (n:=29) rfl rfl Try.f50 c _ Try.func50 hc (by kernel_rfl) (by kernel_rfl) hk hn hl h
theorem of_51 (hn:Nat.ble args.length 19=true) (hl:Nat.blt args.length 1000=true) {c:Code} (hc:Try.f51.body=some c) (hk:okC 19 c=true) (h:V (EE ⟨w.w,[]⟩) 19 c (vFin (EE ⟨w.w,[]⟩) [.tmp 4] R) (initE args 0) σ):ACalls (EE w) 51 args σ R:=
 ACalls.of_V' (E:=EE w) (E':=EE ⟨w.w,[]⟩) (n:=19) rfl rfl Try.f51 c _ Try.func51 hc (by kernel_rfl) (by kernel_rfl) hk hn hl h
theorem of_52 (hn:Nat.ble args.length 19=true) (hl:Nat.blt args.length 1000=true) {c:Code} (hc:Try.f52.body=some c) (hk:okC 19 c=true) (h:V (EE ⟨w.w,[]⟩) 19 c (vFin (EE ⟨w.w,[]⟩) [.tmp 4] R) (initE args 0) σ):ACalls (EE w) 52 args σ R:=
 ACalls.of_V' (E:=EE w) (E':=EE ⟨w.w,[]⟩) (n:=19) rfl rfl Try.f52 c _ Try.func52 hc (by kernel_rfl) (by kernel_rfl) hk hn hl h
theorem of_53 (hn:Nat.ble args.length 6=true) (hl:Nat.blt args.length 1000=true) {c:Code} (hc:Try.f53.body=some c) (hk:okC 6 c=true) (h:V (EE ⟨w.w,[]⟩) 6 c (vFin (EE ⟨w.w,[]⟩) [.tmp 2] R) (initE args 0) σ):ACalls (EE w) 53 args σ R:=
 ACalls.of_V' (E:=EE w) (E':=EE ⟨w.w,[]⟩) (n:=6) rfl rfl Try.f53 c _ Try.func53 hc (by kernel_rfl) (by kernel_rfl) hk hn hl h
theorem of_54 (hn:Nat.ble args.length 78=true) (hl:Nat.blt args.length 1000=true) {c:Code} (hc:Try.f54.body=some c) (hk:okC 78 c=true) (h:V (EE ⟨w.w,[]⟩) 78 c (vFin (EE ⟨w.w,[]⟩) [.tmp 2] R) (initE args 0) σ):ACalls (EE w) 54 args σ R:=
 ACalls.of_V' (E:=EE w) (E':=EE ⟨w.w,[]⟩) (n:=78) rfl rfl Try.f54 c _ Try.func54 hc (by kernel_rfl) (by kernel_rfl) hk hn hl h
theorem of_55 (hn:Nat.ble args.length 35=true) (hl:Nat.blt args.length 1000=true) {c:Code} (hc:Try.f55.body=some c) (hk:okC 35 c=true) (h:V (EE ⟨w.w,[]⟩) 35 c (vFin (EE ⟨w.w,[]⟩) [.cell 2 133] R) (initE args 0) σ):ACalls (EE w) 55 args σ R:=
 ACalls.of_V' (E:=EE w) (E':=EE ⟨w.w,[]⟩) (n:=35) rfl rfl Try.f55 c _ Try.func55 hc (by kernel_rfl) (by kernel_rfl) hk hn hl h
theorem of_56 (hn:Nat.ble args.length 16=true) (hl:Nat.blt args.length 1000=true) {c:Code} (hc:Try.f56.body=some c) (hk:okC 16 c=true) (h:V (EE ⟨w.w,[]⟩) 16 c (vFin (EE ⟨w.w,[]⟩) [.tmp 2] R) (initE args 0) σ):ACalls (EE w) 56 args σ R:=
 ACalls.of_V' (E:=EE w) (E':=EE ⟨w.w,[]⟩) (n:=16) rfl rfl Try.f56 c _ Try.func56 hc (by kernel_rfl) (by kernel_rfl) hk hn hl h
theorem of_57 (hn:Nat.ble args.length 19=true) (hl:Nat.blt args.length 1000=true) {c:Code} (hc:Try.f57.body=some c) (hk:okC 19 c=true) (h:V (EE ⟨w.w,[]⟩) 19 c (vFin (EE ⟨w.w,[]⟩) [.tmp 4] R) (initE args 0) σ):ACalls (EE w) 57 args σ R:=
 ACalls.of_V' (E:=EE w) (E':=EE ⟨w.w,[]⟩) (n:=19) rfl rfl Try.f57 c _ Try.func57 hc (by kernel_rfl) (by kernel_rfl) hk hn hl h
theorem of_58 (hn:Nat.ble args.length 44=true) (hl:Nat.blt args.length 1000=true) {c:Code} (hc:Try.f58.body=some c) (hk:okC 44 c=true) (h:V (EE ⟨w.w,[]⟩) 44 c (vFin (EE ⟨w.w,[]⟩) [.tmp 4,.tmp 5,.tmp 6] R) (initE args 0) σ):ACalls (EE w) 58 args σ R:=
 ACalls.of_V' (E:=EE w) (E':=EE ⟨w.w,[]⟩) (n:=44) rfl rfl Try.f58 c _ Try.func58 hc (by kernel_rfl) (by kernel_rfl) hk hn hl h
theorem of_59 (hn:Nat.ble args.length 10=true) (hl:Nat.blt args.length 1000=true) {c:Code} (hc:Try.f59.body=some c) (hk:okC 10 c=true) (h:V (EE ⟨w.w,[]⟩) 10 c (vFin (EE ⟨w.w,[]⟩) [.tmp 2] R) (initE args 0) σ):ACalls (EE w) 59 args σ R:=
 ACalls.of_V' (E:=EE w) (E':=EE ⟨w.w,[]⟩) (n:=10) rfl rfl Try.f59 c _ Try.func59 hc (by kernel_rfl) (by kernel_rfl) hk hn hl h
theorem of_60 (hn:Nat.ble args.length 61=true) (hl:Nat.blt args.length 1000=true) {c:Code} (hc:Try.f60.body=some c) (hk:okC 61 c=true) (h:V (EE ⟨w.w,[]⟩) 61 c (vFin (EE ⟨w.w,[]⟩) [.tmp 4] R) (initE args 0) σ):ACalls (EE w) 60 args σ R:=
 ACalls.of_V' (E:=EE w) (E':=EE ⟨w.w,[]⟩) (n:=61) rfl rfl Try.f60 c _ Try.func60 hc (by kernel_rfl) (by kernel_rfl) hk hn hl h
theorem of_61 (hn:Nat.ble args.length 26=true) (hl:Nat.blt args.length 1000=true) {c:Code} (hc:Try.f61.body=some c) (hk:okC 26 c=true) (h:V (EE ⟨w.w,[]⟩) 26 c (vFin (EE ⟨w.w,[]⟩) [.tmp 2,.tmp 3] R) (initE args 0) σ):ACalls (EE w) 61 args σ R:=
 ACalls.of_V' (E:=EE w) (E':=EE ⟨w.w,[]⟩) (n:=26) rfl rfl Try.f61 c _ Try.func61 hc (by kernel_rfl) (by kernel_rfl) hk hn hl h
theorem of_62 (hn:Nat.ble args.length 9=true) (hl:Nat.blt args.length 1000=true) {c:Code} (hc:Try.f62.body=some c) (hk:okC 9 c=true) (h:V (EE ⟨w.w,[]⟩) 9 c (vFin (EE ⟨w.w,[]⟩) [.tmp 4] R) (initE args 0) σ):ACalls (EE w) 62 args σ R:=
 ACalls.of_V' (E:=EE w) (E':=EE ⟨w.w,[]⟩) (n:=9) rfl rfl Try.f62 c _ Try.func62 hc (by kernel_rfl) (by kernel_rfl) hk hn hl h
theorem of_63 (hn:Nat.ble args.length 6=true) (hl:Nat.blt args.length 1000=true) {c:Code} (hc:Try.f63.body=some c) (hk:okC 6 c=true) (h:V (EE ⟨w.w,[]⟩) 6 c (vFin (EE ⟨w.w,[]⟩) [.tmp 2] R) (initE args 0) σ):ACalls (EE w) 63 args σ R:=
 ACalls.of_V' (E:=EE w) (E':=EE ⟨w.w,[]⟩) (n:=6) rfl rfl Try.f63 c _ Try.func63 hc (by kernel_rfl) (by kernel_rfl) hk hn hl h
theorem of_64 (hn:Nat.ble args.length 36=true) (hl:Nat.blt args.length 1000=true) {c:Code} (hc:Try.f64.body=some c) (hk:okC 36 c=true) (h:V (EE ⟨w.w,[]⟩) 36 c (vFin (EE ⟨w.w,[]⟩) [] R) (initE args 0) σ):ACalls (EE w) 64 args σ R:=
 ACalls.of_V' (E:=EE w) (E':=EE ⟨w.w,[]⟩) (n:=36) rfl rfl Try.f64 c _ Try.func64 hc (by kernel_rfl) (by kernel_rfl) hk hn hl h
theorem of_65 (hn:Nat.ble args.length 23=true) (hl:Nat.blt args.length 1000=true) {c:Code} (hc:Try.f65.body=some c) (hk:okC 23 c=true) (h:V (EE ⟨w.w,[]⟩) 23 c (vFin (EE ⟨w.w,[]⟩) [.cell 2 133] R) (initE args 0) σ):ACalls (EE w) 65 args σ R:=
 ACalls.of_V' (E:=EE w) (E':=EE ⟨w.w,[]⟩) (n:=23) rfl rfl Try.f65 c _ Try.func65 hc (by kernel_rfl) (by kernel_rfl) hk hn hl h
theorem of_66 (hn:Nat.ble args.length 23=true) (hl:Nat.blt args.length 1000=true) {c:Code} (hc:Try.f66.body=some c) (hk:okC 23 c=true) (h:V (EE ⟨w.w,[]⟩) 23 c (vFin (EE ⟨w.w,[]⟩) [.tmp 2] R) (initE args 0) σ):ACalls (EE w) 66 args σ R:=
 ACalls.of_V' (E:=EE w) (E':=EE ⟨w.w,[]⟩) (n:=23) rfl rfl Try.f66 c _ Try.func66 hc (by kernel_rfl) (by kernel_rfl) hk hn hl h
theorem ot_67 (hn:Nat.ble args.length 71=true) (hl:Nat.blt args.length 1000=true) {c:Code} (hc:Try.f67.body=some c) (hk:okC 71 c=true) (h:Top (EE ⟨w.w,[]⟩) 71 c (aEndD (EE ⟨w.w,[]⟩) Try.f67 R) (initE args 0) σ):ACalls (EE w) 67 args σ R:=
 ACalls.of_Top (E:=EE w) (E':=EE ⟨w.w,[]⟩) (n:=71) rfl rfl Try.f67 c Try.func67 hc (by kernel_rfl) hk hn hl h
theorem of_68 (hn:Nat.ble args.length 12=true) (hl:Nat.blt args.length 1000=true) {c:Code} (hc:Try.f68.body=some c) (hk:okC 12 c=true) (h:V (EE ⟨w.w,[]⟩) 12 c (vFin (EE ⟨w.w,[]⟩) [.cell 0 152] R) (initE args 0) σ):ACalls (EE w) 68 args σ R:=
 ACalls.of_V' (E:=EE w) (E':=EE ⟨w.w,[]⟩) (n:=12) rfl rfl Try.f68 c _ Try.func68 hc (by kernel_rfl) (by kernel_rfl) hk hn hl h
theorem of_69 (hn:Nat.ble args.length 19=true) (hl:Nat.blt args.length 1000=true) {c:Code} (hc:Try.f69.body=some c) (hk:okC 19 c=true) (h:V (EE ⟨w.w,[]⟩) 19 c (vFin (EE ⟨w.w,[]⟩) [.tmp 4] R) (initE args 0) σ):ACalls (EE w) 69 args σ R:=
 ACalls.of_V' (E:=EE w) (E':=EE ⟨w.w,[]⟩) (n:=19) rfl rfl Try.f69 c _ Try.func69 hc (by kernel_rfl) (by kernel_rfl) hk hn hl h
theorem od_70 (hn:Nat.ble args.length 19=true) (hl:Nat.blt args.length 1000=true) {c:Code} (hc:Try.f70.body=some c) (hk:okC 19 c=true) (h:V (EE ⟨w.w,[]⟩) 19 c (vFin (EE ⟨w.w,[]⟩) [] R) (initE args 0) σ):ACallsD (EE w) 70 args σ R:=
 ACallsD.of_V' (E:=EE w) (E':=EE ⟨w.w,[]⟩) (n:=19) rfl rfl Try.f70 c _ Try.func70 hc (by kernel_rfl) (by kernel_rfl) hk hn hl h
theorem ot_71 (hn:Nat.ble args.length 85=true) (hl:Nat.blt args.length 1000=true) {c:Code} (hc:Try.f71.body=some c) (hk:okC 85 c=true) (h:Top (EE ⟨w.w,[]⟩) 85 c (aEndD (EE ⟨w.w,[]⟩) Try.f71 R) (initE args 0) σ):ACalls (EE w) 71 args σ R:=
 ACalls.of_Top (E:=EE w) (E':=EE ⟨w.w,[]⟩) (n:=85) rfl rfl Try.f71 c Try.func71 hc (by kernel_rfl) hk hn hl h
theorem of_72 (hn:Nat.ble args.length 30=true) (hl:Nat.blt args.length 1000=true) {c:Code} (hc:Try.f72.body=some c) (hk:okC 30 c=true) (h:V (EE ⟨w.w,[]⟩) 30 c (vFin (EE ⟨w.w,[]⟩) [.tmp 2] R) (initE args 0) σ):ACalls (EE w) 72 args σ R:=
 ACalls.of_V' (E:=EE w) (E':=EE ⟨w.w,[]⟩) (n:=30) rfl rfl Try.f72 c _ Try.func72 hc (by kernel_rfl) (by kernel_rfl) hk hn hl h
theorem od_73 (hn:Nat.ble args.length 16=true) (hl:Nat.blt args.length 1000=true) {c:Code} (hc:Try.f73.body=some c) (hk:okC 16 c=true) (h:V (EE ⟨w.w,[]⟩) 16 c (vFin (EE ⟨w.w,[]⟩) [] R) (initE args 0) σ):ACallsD (EE w) 73 args σ R:=
 ACallsD.of_V' (E:=EE w) (E':=EE ⟨w.w,[]⟩) (n:=16) rfl rfl Try.f73 c _ Try.func73 hc (by kernel_rfl) (by kernel_rfl) hk hn hl h
end
end Abs
namespace Abs
set_option linter.unusedSimpArgs false
set_option linter.unusedVariables false
set_option maxRecDepth 100000
set_option maxHeartbeats 16000000
open Go
instance:LawfulBEq ByteArray where
 eq_of_beq h:=by rw [ba_beq] at h; exact of_decide_eq_true h
 rfl {a}:=by rw [ba_beq]; exact dct rfl
inductive Ex where
 | mk (k:Int) (nm:ByteArray) (i:Int) (zs:List Ex)
inductive St where
 | mk (k:Int) (nm:ByteArray) (v:Ex) (body els:List St)
structure Fc where
 nm:ByteArray
 ps:List ByteArray
 body:List St
def sA (s:ByteArray):AVal:=.sc (.string s)
mutual
def IsEx:Ex->AVal->Prop
 | .mk k nm i zs,v=>∃ S els,v=.agg [(.sc (.int .i64 (k))),.sc (.string nm),(.sc (.int .i64 (i))),S]/\IsD 4 S els/\IsExs zs els/\in64 k/\in64 i/\nm.size<=281474976710656/\els.length<=281474976710656
def IsExs:List Ex->List AVal->Prop
 | [],els=>els=[]
 | x::xs,els=>∃ e es,els=e::es/\IsEx x e/\IsExs xs es
end
def Ex.k:Ex->Int|.mk k _ _ _=>k
def Ex.nm:Ex->ByteArray|.mk _ n _ _=>n
def Ex.i:Ex->Int|.mk _ _ i _=>i
def Ex.args:Ex->List Ex|.mk _ _ _ zs=>zs
theorem IsExs.len:∀ {zs:List Ex} {els:List AVal},IsExs zs els->els.length=zs.length
  | [], els, h => by
      simp only [IsExs] at h; subst h; rfl
  | x :: xs, els, h => by
      simp only [IsExs] at h
      obtain ⟨e,es,rfl,_,h⟩:=h
      simp [IsExs.len h]
theorem IsExs.at:∀ {zs:List Ex} {els:List AVal},IsExs zs els->∀ {j:Nat} {x:Ex},zs[j]?=some x->∃ e,els[j]?=some e/\IsEx x e
  | [],els,h,j,x,hx=>by simp at hx
  | y :: xs, els, h, j, x, hx => by
      simp only [IsExs] at h
      obtain ⟨e,es,rfl,h1,h⟩:=h
      cases j with
      | zero=>simp at hx; subst hx; exact ⟨e,rfl,h1⟩
      | succ j=>simpa using IsExs.at h (by simpa using hx)
mutual
def IsSt:St->AVal->Prop
  | .mk k nm v body els, w => ∃ SA SB SE ea eb ee, w = .agg [(.sc (.int .i64 (k))), .sc (.string nm), (.sc (.int .i64 (v.k))), .sc (.string v.nm), (.sc (.int .i64 (v.i))), SA, SB, SE] ∧ IsD 4 SA ea ∧ IsExs v.args ea ∧ IsD 8 SB eb ∧ IsSts body eb ∧ IsD 8 SE ee ∧ IsSts els ee ∧
      in64 k/\in64 v.k/\in64 v.i/\nm.size<=281474976710656/\v.nm.size<=281474976710656/\ea.length<=281474976710656/\eb.length<=281474976710656/\ee.length<=281474976710656
def IsSts:List St->List AVal->Prop
  | [],els=>els=[]
  | x::xs,els=>∃ e es,els=e::es/\IsSt x e/\IsSts xs es
end
theorem IsSts.len:∀ {zs:List St} {els:List AVal},IsSts zs els->els.length=zs.length
  | [], els, h => by
      simp only [IsSts] at h; subst h; rfl
  | x :: xs, els, h => by
      simp only [IsSts] at h
      obtain ⟨e,es,rfl,_,h⟩:=h
      simp [IsSts.len h]
theorem IsSts.at:∀ {zs:List St} {els:List AVal},IsSts zs els->∀ {j:Nat} {x:St},zs[j]?=some x->∃ e,els[j]?=some e/\IsSt x e
  | [],els,h,j,x,hx=>by simp at hx
  | y :: xs, els, h, j, x, hx => by
      simp only [IsSts] at h
      obtain ⟨e,es,rfl,h1,h⟩:=h
      cases j with
      | zero=>simp at hx; subst hx; exact ⟨e,rfl,h1⟩
      | succ j=>simpa using IsSts.at h (by simpa using hx)
def IsFc (f:Fc) (w:AVal):Prop:=∃ SP SB eb,w=.agg [.sc (.string f.nm),SP,SB]/\IsD 1 SP (f.ps.map sA)/\IsD 8 SB eb/\IsSts f.body eb/\f.nm.size<=281474976710656/\(∀ p∈f.ps,p.size<=281474976710656)/\f.ps.length<=281474976710656/\eb.length<=281474976710656
mutual
theorem IsEx.wf:∀ {x:Ex} {v:AVal},IsEx x v->WF 0 v
  | .mk k nm i zs, v, h => by
      simp only [IsEx] at h
      obtain ⟨S,els,rfl,hS,hs,_⟩:=h
      exact .agg _ (.cons _ _ (.sc _) (.cons _ _ (.sc _) (.cons _ _ (.sc _) (.cons _ _ (hS.wf (IsExs.wf hs)) .nil))))
theorem IsExs.wf:∀ {zs:List Ex} {els:List AVal},IsExs zs els->WFs 0 els
  | [],els,h=>by simp only [IsExs] at h; subst h; exact .nil
  | x :: xs, els, h => by
      simp only [IsExs] at h
      obtain ⟨e,es,rfl,h1,h⟩:=h
      exact .cons _ _ (IsEx.wf h1) (IsExs.wf h)
end
mutual
theorem IsSt.wf:∀ {x:St} {v:AVal},IsSt x v->WF 0 v
  | .mk k nm w body els, v, h => by
      simp only [IsSt] at h
      obtain ⟨SA,SB,SE,ea,eb,ee,rfl,hA,ha,hB,hb,hE,he,_⟩:=h
      exact .agg _ (.cons _ _ (.sc _) (.cons _ _ (.sc _) (.cons _ _ (.sc _) (.cons _ _ (.sc _) (.cons _ _ (.sc _) (.cons _ _ (hA.wf (IsExs.wf ha)) (.cons _ _ (hB.wf (IsSts.wf hb)) (.cons _ _ (hE.wf (IsSts.wf he)) .nil))))))))
theorem IsSts.wf:∀ {zs:List St} {els:List AVal},IsSts zs els->WFs 0 els
  | [],els,h=>by simp only [IsSts] at h; subst h; exact .nil
  | x :: xs, els, h => by
      simp only [IsSts] at h
      obtain ⟨e,es,rfl,h1,h⟩:=h
      exact .cons _ _ (IsSt.wf h1) (IsSts.wf h)
end
theorem wf_sA (l:List ByteArray):WFs 0 (l.map sA):=WFs.map fun _=>.sc _
theorem IsFc.wf {f:Fc} {w:AVal} (h:IsFc f w):WF 0 w:=by
 obtain ⟨SP,SB,eb,rfl,hP,hB,hb,_⟩:=h
 exact .agg _ (.cons _ _ (.sc _) (.cons _ _ (hP.wf (wf_sA _)) (.cons _ _ (hB.wf (IsSts.wf hb)) .nil)))
end Abs
namespace Abs
set_option linter.unusedSimpArgs false
set_option linter.unusedVariables false
set_option maxRecDepth 100000
set_option maxHeartbeats 16000000
open Go
/-- How many parts a kind may have. -/
def arityB (k:Int) (n:Nat):Bool:=
 if k=1\/k=2 then decide (n=0)
 else if k=3\/k=4 then decide (n=1)
 else if 5<=k/\k<=17 then decide (n=2)
 else if k=18 then decide (n=3)
 else decide (k=19)
variable (nameB:ByteArray->Bool)
mutual
def formedB:Ex->Bool
 | .mk k nm i zs=>(arityB k zs.length && (if k=2\/k=19 then nameB nm else decide (nm.size=0))) && ((decide (i=0) || decide (k=1)) && (decide (-2147483648<=i) && decide (i<=2147483648))) && formedBs zs
def formedBs:List Ex->Bool
 | []=>true
 | x::xs=>formedB x && formedBs xs
end
theorem formedBs_all:∀ l,formedBs nameB l=l.all (formedB nameB)
 | []=>rfl
 | x::xs=>by simp [formedBs,formedBs_all xs]
mutual
def formedS:St->Bool
  | .mk k nm v body els => (decide (1 ≤ k) && decide (k ≤ 5)) && (if k = 1 ∨ k = 2 then nameB nm else decide (nm.size = 0)) && formedB nameB v &&
      ((decide (body.length=0) || (decide (k=3) || decide (k=4))) && (decide (els.length=0) || decide (k=3))) && formedSs body && formedSs els
def formedSs:List St->Bool
  | []=>true
  | x::xs=>formedS x && formedSs xs
end
theorem formedSs_all:∀ l,formedSs nameB l=l.all (formedS nameB)
 | []=>rfl
 | x::xs=>by simp [formedSs,formedSs_all xs]
mutual
def nodesE:Ex->Nat
 | .mk _ _ _ zs=>1+nodesEs zs
def nodesEs:List Ex->Nat
 | []=>0
 | x::xs=>nodesE x+nodesEs xs
end
mutual
def depthE:Ex->Nat
 | .mk _ _ _ zs=>1+depthEs zs
def depthEs:List Ex->Nat
 | []=>0
 | x::xs=>max (depthE x) (depthEs xs)
end
mutual
def fewE:Ex->Bool
 | .mk _ _ _ zs=>decide (zs.length<=4) && fewEs zs
def fewEs:List Ex->Bool
 | []=>true
 | x::xs=>fewE x && fewEs xs
end
mutual
def nodesS:St->Nat
 | .mk _ _ v b e=>1+nodesE v+nodesSs b+nodesSs e
def nodesSs:List St->Nat
 | []=>0
 | x::xs=>nodesS x+nodesSs xs
end
mutual
def depthS:St->Nat
 | .mk _ _ v b e=>1+max (depthE v) (max (depthSs b) (depthSs e))
def depthSs:List St->Nat
 | []=>0
 | x::xs=>max (depthS x) (depthSs xs)
end
mutual
def fewS:St->Bool
 | .mk _ _ v b e=>fewE v && fewSs b && fewSs e
def fewSs:List St->Bool
 | []=>true
 | x::xs=>fewS x && fewSs xs
end
def smallE (x:Ex):Bool:=decide (nodesE x<=400) && decide (depthE x<=30) && fewE x
def nodesF (l:List Fc):Nat:=(l.map fun f=>nodesSs f.body).sum
def smallF (l:List Fc):Bool:=(l.all fun f=>decide (depthSs f.body<=30) && fewSs f.body && decide (f.ps.length<=4)) && decide (nodesF l<=400) && decide (l.length<=8)
/-- 0: well; 2: no well-formed one; 3: too large. -/
def checkE (x:Ex):Int:=if formedB nameB x then (if smallE x then 0 else 3) else 2
def formedF (f:Fc):Bool:=nameB f.nm && f.ps.all nameB && formedSs nameB f.body
def checkF (l:List Fc):Int:=if l.all (formedF nameB) then (if smallF l then 0 else 3) else 2
def fcOf (l:List Fc) (nm:ByteArray):Option Fc:=l.find? fun f=>decide (f.nm=nm)
mutual
def expE (g o:List ByteArray) (l:List Fc):Ex->Int
 | .mk k nm _ zs=>
  match expEs g o l zs with
  | 0=>
   if k=2 then (if nm∈g\/nm∈o then 0 else 90)
   else if k=19 then (match fcOf l nm with
    | none=>90
    | some f=>if f.ps.length=zs.length then 0 else 91)
   else 0
  | e=>e
def expEs (g o:List ByteArray) (l:List Fc):List Ex->Int
 | []=>0
 | x::xs=>match expE g o l x with
  | 0=>expEs g o l xs
  | e=>e
end
mutual
def stE (g o:List ByteArray) (l:List Fc):St->Int
 | .mk k nm v b e=>
  match expE g o l v with
  | 0=>
   if (k=1/\(nm∈g\/nm∈o))\/(k=2/\nm ∉ o) then 90
   else match stEs g (if k=1 then o++[nm] else o) l b with
    | 0=>stEs g (if k=1 then o++[nm] else o) l e
    | e=>e
  | e=>e
def stEs (g o:List ByteArray) (l:List Fc):List St->Int
 | []=>0
 | x::xs=>match stE g o l x with
  | 0=>stEs g (match x with|.mk k nm _ _ _=>if k=1 then o++[nm] else o) l xs
  | e=>e
end
mutual
def retS:St->Bool
 | .mk k _ _ b e=>decide (k=5) || (decide (k=3) && retSs b && retSs e)
def retSs:List St->Bool
 | []=>false
 | x::xs=>retS x || retSs xs
end
/-- The first static error of a function behind others. -/
def parsBad (g:List ByteArray):List ByteArray->List ByteArray->Bool
 | _,[]=>false
 | o,p::ps=>decide (p∈g\/p∈o) || parsBad g (o++[p]) ps
def fnE (g:List ByteArray) (l:List Fc) (f:Fc):Int:=
 if f.nm∈g\/(fcOf l f.nm).isSome then 90
 else if parsBad g [] f.ps then 90
 else match stEs g f.ps l f.body with
  | 0=>if retSs f.body then 0 else 92
  | e=>e
def goF (g:List ByteArray):List Fc->List Fc->Int×Int
 | _,[]=>(0,0)
 | l,f::r=>match fnE g l f with
  | 0=>goF g (l++[f]) r
  | e=>(l.length,e)
def funcsP (l:List Fc) (g:List ByteArray):Int×Int:=
 match checkF nameB l with
 | 0=>goF g [] l
 | e=>(0,e)
def expP (x:Ex) (g:List ByteArray) (l:List Fc):Int:=
 match checkE nameB x with
 | 0=>match (funcsP nameB l g).2 with
  | 0=>expE g [] l x
  | e=>e
 | e=>e
end Abs
namespace Abs
set_option linter.unusedSimpArgs false
set_option linter.unusedVariables false
set_option maxRecDepth 100000
set_option maxHeartbeats 16000000
open Go
variable (nameB:ByteArray->Bool)
end Abs
end
