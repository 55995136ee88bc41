/-
  Functions of the program walked: each is shown to compute a plain function (TF).
-/
import Derived.Test.YthedompojmncpaaGreatProg
import Derived.Test.YthedompojmncpaaGreatAbsMp
import Derived.Test.YthedompojmncpaaGreatAbsSc
import Derived.KernelRfl
noncomputable section
namespace Abs
set_option linter.unusedSimpArgs false
set_option linter.unusedVariables false
set_option maxRecDepth 100000
set_option maxHeartbeats 16000000
open Go Go.Proofs
noncomputable def EE (w:WD):Env:={Env.of Tryz.prog w.w with ds:=w.ds}
section
variable {w:WD} {lit:Bool} {ρ:ARho} {σ:AStore} {args:List AVal} {R:AEnd->AStore->Prop}
theorem ty_27:tyA (EE w) 27=some (true,5):=by kernel_rfl
theorem ty_31:tyA (EE w) 31=some (true,2):=by kernel_rfl
theorem fn_4:(EE w).fns 4=true:=by kernel_rfl
theorem fn_5:(EE w).fns 5=true:=by kernel_rfl
theorem fn_6:(EE w).fns 6=true:=by kernel_rfl
theorem fn_7:(EE w).fns 7=true:=by kernel_rfl
theorem fn_8:(EE w).fns 8=true:=by kernel_rfl
theorem fn_9:(EE w).fns 9=true:=by kernel_rfl
theorem fn_10:(EE w).fns 10=true:=by kernel_rfl
theorem fn_11:(EE w).fns 11=true:=by kernel_rfl
theorem fn_12:(EE w).fns 12=true:=by kernel_rfl
theorem ln_28 {x:AVal}:opBi (EE w) .len [28] σ (some [x])=.ofV σ (aLen (.slice 0) x σ):=bi_len (by kernel_rfl)
theorem ia_28 {x y:Operand}:aOp (EE w) lit (.indexAddr 28 x y) ρ σ=opIA σ ⟨1,8,(.sc (.int Go.IntKind.i64 (0)))⟩ (ρ x) (ρ y):=op_indexAddr (by kernel_rfl)
theorem ty_3:tyA (EE w) 3=some (false,1):=by kernel_rfl
theorem fn_13:(EE w).fns 13=true:=by kernel_rfl
theorem fa_31_0 {x:Operand}:aOp (EE w) lit (.fieldAddr 31 x 0) ρ σ=opFA σ (some (0,false,1)) (ρ x):=op_fieldAddr (by kernel_rfl)
theorem ty_28:tyA (EE w) 28=some (false,1):=by kernel_rfl
theorem fa_31_1 {x:Operand}:aOp (EE w) lit (.fieldAddr 31 x 1) ρ σ=opFA σ (some (1,false,1)) (ρ x):=op_fieldAddr (by kernel_rfl)
theorem ty_29:tyA (EE w) 29=some (false,1):=by kernel_rfl
theorem ln_29 {x:AVal}:opBi (EE w) .len [29] σ (some [x])=.ofV σ (aLen (.slice 0) x σ):=bi_len (by kernel_rfl)
theorem ln_32 {x:AVal}:opBi (EE w) .len [32] σ (some [x])=.ofV σ (aLen (.slice 0) x σ):=bi_len (by kernel_rfl)
theorem fn_14:(EE w).fns 14=true:=by kernel_rfl
theorem zr_27:zeroD (EE w) 27=some (.agg [(.sc (.int Go.IntKind.i64 (0))),(.sc (.slice none 0 0)),(.sc (.slice none 0 0)),(.sc (.slice none 0 0)),(.sc (.slice none 0 0))]):=by kernel_rfl
theorem bs_28 {n:Nat} {ps:Array (Nat×Operand)}:aOp (EE w) lit (.buildSlice 28 n ps) ρ σ=opBuildSl σ lit ⟨1,8,(.sc (.int Go.IntKind.i64 (0)))⟩ n (partsSome ρ ps.toList):=op_buildSlice (by kernel_rfl)
theorem bd_31 {ps:Array (Nat×Operand)}:aOp (EE w) lit (.build 31 ps) ρ σ=opBuild σ (some ([(0,1),(1,1)],[(.sc (.slice none 0 0)),(.sc (.slice none 0 0))])) (partsSome ρ ps.toList):=op_build (by kernel_rfl)
theorem bd_46 {ps:Array (Nat×Operand)}:aOp (EE w) lit (.build 46 ps) ρ σ=opBuild σ (some ([(0,1),(1,1),(2,1),(3,1)],[(.sc (.int Go.IntKind.i64 (0))),(.sc (.bool false)),(.sc (.bool false)),(.sc (.int Go.IntKind.i64 (0)))])) (partsSome ρ ps.toList):=op_build (by kernel_rfl)
theorem bs_32 {n:Nat} {ps:Array (Nat×Operand)}:aOp (EE w) lit (.buildSlice 32 n ps) ρ σ=opBuildSl σ lit ⟨4,24,(.agg [(.sc (.int Go.IntKind.i64 (0))),(.sc (.bool false)),(.sc (.bool false)),(.sc (.int Go.IntKind.i64 (0)))])⟩ n (partsSome ρ ps.toList):=op_buildSlice (by kernel_rfl)
theorem bs_29 {n:Nat} {ps:Array (Nat×Operand)}:aOp (EE w) lit (.buildSlice 29 n ps) ρ σ=opBuildSl σ lit ⟨1,8,(.sc (.int Go.IntKind.i64 (0)))⟩ n (partsSome ρ ps.toList):=op_buildSlice (by kernel_rfl)
theorem fn_15:(EE w).fns 15=true:=by kernel_rfl
theorem fa_27_0 {x:Operand}:aOp (EE w) lit (.fieldAddr 27 x 0) ρ σ=opFA σ (some (0,false,1)) (ρ x):=op_fieldAddr (by kernel_rfl)
theorem ms_29 {x y:Operand}:aOp (EE w) lit (.makeSlice 29 x y) ρ σ=opMk σ ⟨1,8,(.sc (.int Go.IntKind.i64 (0)))⟩ (ρ x) (ρ y):=op_makeSlice (by kernel_rfl)
theorem ia_29 {x y:Operand}:aOp (EE w) lit (.indexAddr 29 x y) ρ σ=opIA σ ⟨1,8,(.sc (.int Go.IntKind.i64 (0)))⟩ (ρ x) (ρ y):=op_indexAddr (by kernel_rfl)
theorem ty_2:tyA (EE w) 2=some (false,1):=by kernel_rfl
theorem fa_27_4 {x:Operand}:aOp (EE w) lit (.fieldAddr 27 x 4) ρ σ=opFA σ (some (4,false,1)) (ρ x):=op_fieldAddr (by kernel_rfl)
theorem ty_25:tyA (EE w) 25=some (false,1):=by kernel_rfl
theorem ln_25 {x:AVal}:opBi (EE w) .len [25] σ (some [x])=.ofV σ (aLen (.slice 0) x σ):=bi_len (by kernel_rfl)
theorem ia_25 {x y:Operand}:aOp (EE w) lit (.indexAddr 25 x y) ρ σ=opIA σ ⟨3,56,(.agg [(.sc (.int Go.IntKind.i64 (0))),(.sc (.slice none 0 0)),(.sc (.slice none 0 0))])⟩ (ρ x) (ρ y):=op_indexAddr (by kernel_rfl)
theorem ty_51:tyA (EE w) 51=some (true,3):=by kernel_rfl
theorem zr_51:zeroD (EE w) 51=some (.agg [(.sc (.int Go.IntKind.i64 (0))),(.sc (.slice none 0 0)),(.sc (.slice none 0 0))]):=by kernel_rfl
theorem fn_16:(EE w).fns 16=true:=by kernel_rfl
theorem ia_53 {x y:Operand}:aOp (EE w) lit (.indexAddr 53 x y) ρ σ=opIA σ ⟨1,24,(.sc (.slice none 0 0))⟩ (ρ x) (ρ y):=op_indexAddr (by kernel_rfl)
theorem fn_17:(EE w).fns 17=true:=by kernel_rfl
theorem ia_32 {x y:Operand}:aOp (EE w) lit (.indexAddr 32 x y) ρ σ=opIA σ ⟨4,24,(.agg [(.sc (.int Go.IntKind.i64 (0))),(.sc (.bool false)),(.sc (.bool false)),(.sc (.int Go.IntKind.i64 (0)))])⟩ (ρ x) (ρ y):=op_indexAddr (by kernel_rfl)
theorem ty_46:tyA (EE w) 46=some (true,4):=by kernel_rfl
theorem zr_46:zeroD (EE w) 46=some (.agg [(.sc (.int Go.IntKind.i64 (0))),(.sc (.bool false)),(.sc (.bool false)),(.sc (.int Go.IntKind.i64 (0)))]):=by kernel_rfl
theorem fa_46_0 {x:Operand}:aOp (EE w) lit (.fieldAddr 46 x 0) ρ σ=opFA σ (some (0,false,1)) (ρ x):=op_fieldAddr (by kernel_rfl)
theorem fa_46_3 {x:Operand}:aOp (EE w) lit (.fieldAddr 46 x 3) ρ σ=opFA σ (some (3,false,1)) (ρ x):=op_fieldAddr (by kernel_rfl)
theorem fn_18:(EE w).fns 18=true:=by kernel_rfl
theorem fn_19:(EE w).fns 19=true:=by kernel_rfl
theorem ap_29 {a x:AVal}:opBi (EE w) .append [29,29] σ (some [a,x])=opApp (EE w) 29 σ ⟨1,8,(.sc (.int Go.IntKind.i64 (0)))⟩ a (aSrc 1 x σ):=bi_append (by kernel_rfl)
theorem ap_28 {a x:AVal}:opBi (EE w) .append [28,28] σ (some [a,x])=opApp (EE w) 28 σ ⟨1,8,(.sc (.int Go.IntKind.i64 (0)))⟩ a (aSrc 1 x σ):=bi_append (by kernel_rfl)
theorem fa_27_1 {x:Operand}:aOp (EE w) lit (.fieldAddr 27 x 1) ρ σ=opFA σ (some (1,false,1)) (ρ x):=op_fieldAddr (by kernel_rfl)
theorem ty_22:tyA (EE w) 22=some (false,1):=by kernel_rfl
theorem ln_22 {x:AVal}:opBi (EE w) .len [22] σ (some [x])=.ofV σ (aLen (.slice 0) x σ):=bi_len (by kernel_rfl)
theorem fa_27_3 {x:Operand}:aOp (EE w) lit (.fieldAddr 27 x 3) ρ σ=opFA σ (some (3,false,1)) (ρ x):=op_fieldAddr (by kernel_rfl)
theorem ty_24:tyA (EE w) 24=some (false,1):=by kernel_rfl
theorem ln_24 {x:AVal}:opBi (EE w) .len [24] σ (some [x])=.ofV σ (aLen (.slice 0) x σ):=bi_len (by kernel_rfl)
theorem fa_27_2 {x:Operand}:aOp (EE w) lit (.fieldAddr 27 x 2) ρ σ=opFA σ (some (2,false,1)) (ρ x):=op_fieldAddr (by kernel_rfl)
theorem ty_23:tyA (EE w) 23=some (false,1):=by kernel_rfl
theorem ln_23 {x:AVal}:opBi (EE w) .len [23] σ (some [x])=.ofV σ (aLen (.slice 0) x σ):=bi_len (by kernel_rfl)
theorem fa_51_2 {x:Operand}:aOp (EE w) lit (.fieldAddr 51 x 2) ρ σ=opFA σ (some (2,false,1)) (ρ x):=op_fieldAddr (by kernel_rfl)
theorem ty_49:tyA (EE w) 49=some (false,1):=by kernel_rfl
theorem ln_49 {x:AVal}:opBi (EE w) .len [49] σ (some [x])=.ofV σ (aLen (.slice 0) x σ):=bi_len (by kernel_rfl)
theorem fa_51_1 {x:Operand}:aOp (EE w) lit (.fieldAddr 51 x 1) ρ σ=opFA σ (some (1,false,1)) (ρ x):=op_fieldAddr (by kernel_rfl)
theorem ty_48:tyA (EE w) 48=some (false,1):=by kernel_rfl
theorem ln_48 {x:AVal}:opBi (EE w) .len [48] σ (some [x])=.ofV σ (aLen (.slice 0) x σ):=bi_len (by kernel_rfl)
theorem ia_48 {x y:Operand}:aOp (EE w) lit (.indexAddr 48 x y) ρ σ=opIA σ ⟨3,40,(.agg [(.sc (.int Go.IntKind.i64 (0))),(.sc (.slice none 0 0)),(.sc (.int Go.IntKind.i64 (0)))])⟩ (ρ x) (ρ y):=op_indexAddr (by kernel_rfl)
theorem fa_60_1 {x:Operand}:aOp (EE w) lit (.fieldAddr 60 x 1) ρ σ=opFA σ (some (1,false,1)) (ρ x):=op_fieldAddr (by kernel_rfl)
theorem ty_32:tyA (EE w) 32=some (false,1):=by kernel_rfl
theorem ia_49 {x y:Operand}:aOp (EE w) lit (.indexAddr 49 x y) ρ σ=opIA σ ⟨13,176,(.agg [(.sc (.int Go.IntKind.i64 (0))),(.sc (.int Go.IntKind.i64 (0))),(.sc (.slice none 0 0)),(.sc (.int Go.IntKind.i64 (0))),(.sc (.string ⟨#[]⟩)),(.sc (.int Go.IntKind.i64 (0))),(.sc (.slice none 0 0)),(.sc (.int Go.IntKind.i64 (0))),(.sc (.bool false)),(.sc (.slice none 0 0)),(.sc (.slice none 0 0)),(.sc (.int Go.IntKind.i64 (0))),(.sc (.int Go.IntKind.i64 (0)))])⟩ (ρ x) (ρ y):=op_indexAddr (by kernel_rfl)
theorem ty_67:tyA (EE w) 67=some (true,13):=by kernel_rfl
theorem zr_67:zeroD (EE w) 67=some (.agg [(.sc (.int Go.IntKind.i64 (0))),(.sc (.int Go.IntKind.i64 (0))),(.sc (.slice none 0 0)),(.sc (.int Go.IntKind.i64 (0))),(.sc (.string ⟨#[]⟩)),(.sc (.int Go.IntKind.i64 (0))),(.sc (.slice none 0 0)),(.sc (.int Go.IntKind.i64 (0))),(.sc (.bool false)),(.sc (.slice none 0 0)),(.sc (.slice none 0 0)),(.sc (.int Go.IntKind.i64 (0))),(.sc (.int Go.IntKind.i64 (0)))]):=by kernel_rfl
theorem fa_67_2 {x:Operand}:aOp (EE w) lit (.fieldAddr 67 x 2) ρ σ=opFA σ (some (2,false,1)) (ρ x):=op_fieldAddr (by kernel_rfl)
theorem fa_67_6 {x:Operand}:aOp (EE w) lit (.fieldAddr 67 x 6) ρ σ=opFA σ (some (9,false,1)) (ρ x):=op_fieldAddr (by kernel_rfl)
theorem ty_64:tyA (EE w) 64=some (false,1):=by kernel_rfl
theorem ln_64 {x:AVal}:opBi (EE w) .len [64] σ (some [x])=.ofV σ (aLen (.slice 0) x σ):=bi_len (by kernel_rfl)
theorem fa_67_7 {x:Operand}:aOp (EE w) lit (.fieldAddr 67 x 7) ρ σ=opFA σ (some (10,false,1)) (ρ x):=op_fieldAddr (by kernel_rfl)
theorem ty_65:tyA (EE w) 65=some (false,1):=by kernel_rfl
theorem ln_65 {x:AVal}:opBi (EE w) .len [65] σ (some [x])=.ofV σ (aLen (.slice 0) x σ):=bi_len (by kernel_rfl)
theorem fa_67_3 {x:Operand}:aOp (EE w) lit (.fieldAddr 67 x 3) ρ σ=opFA σ (some (3,true,4)) (ρ x):=op_fieldAddr (by kernel_rfl)
theorem ty_63:tyA (EE w) 63=some (true,4):=by kernel_rfl
theorem fn_20:(EE w).fns 20=true:=by kernel_rfl
theorem ia_64 {x y:Operand}:aOp (EE w) lit (.indexAddr 64 x y) ρ σ=opIA σ ⟨5,64,(.agg [(.sc (.int Go.IntKind.i64 (0))),(.sc (.int Go.IntKind.i64 (0))),(.sc (.string ⟨#[]⟩)),(.sc (.int Go.IntKind.i64 (0))),(.sc (.slice none 0 0))])⟩ (ρ x) (ρ y):=op_indexAddr (by kernel_rfl)
theorem fa_70_1 {x:Operand}:aOp (EE w) lit (.fieldAddr 70 x 1) ρ σ=opFA σ (some (1,true,4)) (ρ x):=op_fieldAddr (by kernel_rfl)
theorem bd_60 {ps:Array (Nat×Operand)}:aOp (EE w) lit (.build 60 ps) ρ σ=opBuild σ (some ([(0,1),(1,1),(2,1)],[(.sc (.int Go.IntKind.i64 (0))),(.sc (.slice none 0 0)),(.sc (.int Go.IntKind.i64 (0)))])) (partsSome ρ ps.toList):=op_build (by kernel_rfl)
theorem bs_48 {n:Nat} {ps:Array (Nat×Operand)}:aOp (EE w) lit (.buildSlice 48 n ps) ρ σ=opBuildSl σ lit ⟨3,40,(.agg [(.sc (.int Go.IntKind.i64 (0))),(.sc (.slice none 0 0)),(.sc (.int Go.IntKind.i64 (0)))])⟩ n (partsSome ρ ps.toList):=op_buildSlice (by kernel_rfl)
theorem bd_72 {ps:Array (Nat×Operand)}:aOp (EE w) lit (.build 72 ps) ρ σ=opBuild σ (some ([(0,1),(1,1)],[(.sc (.int Go.IntKind.i64 (0))),(.sc (.int Go.IntKind.i64 (0)))])) (partsSome ρ ps.toList):=op_build (by kernel_rfl)
theorem bs_65 {n:Nat} {ps:Array (Nat×Operand)}:aOp (EE w) lit (.buildSlice 65 n ps) ρ σ=opBuildSl σ lit ⟨2,16,(.agg [(.sc (.int Go.IntKind.i64 (0))),(.sc (.int Go.IntKind.i64 (0)))])⟩ n (partsSome ρ ps.toList):=op_buildSlice (by kernel_rfl)
theorem bd_67 {ps:Array (Nat×Operand)}:aOp (EE w) lit (.build 67 ps) ρ σ=opBuild σ (some ([(0,1),(1,1),(2,1),(3,4),(7,1),(8,1),(9,1),(10,1),(11,1),(12,1)],[(.sc (.int Go.IntKind.i64 (0))),(.sc (.int Go.IntKind.i64 (0))),(.sc (.slice none 0 0)),(.sc (.int Go.IntKind.i64 (0))),(.sc (.string ⟨#[]⟩)),(.sc (.int Go.IntKind.i64 (0))),(.sc (.slice none 0 0)),(.sc (.int Go.IntKind.i64 (0))),(.sc (.bool false)),(.sc (.slice none 0 0)),(.sc (.slice none 0 0)),(.sc (.int Go.IntKind.i64 (0))),(.sc (.int Go.IntKind.i64 (0)))])) (partsSome ρ ps.toList):=op_build (by kernel_rfl)
theorem bs_49 {n:Nat} {ps:Array (Nat×Operand)}:aOp (EE w) lit (.buildSlice 49 n ps) ρ σ=opBuildSl σ lit ⟨13,176,(.agg [(.sc (.int Go.IntKind.i64 (0))),(.sc (.int Go.IntKind.i64 (0))),(.sc (.slice none 0 0)),(.sc (.int Go.IntKind.i64 (0))),(.sc (.string ⟨#[]⟩)),(.sc (.int Go.IntKind.i64 (0))),(.sc (.slice none 0 0)),(.sc (.int Go.IntKind.i64 (0))),(.sc (.bool false)),(.sc (.slice none 0 0)),(.sc (.slice none 0 0)),(.sc (.int Go.IntKind.i64 (0))),(.sc (.int Go.IntKind.i64 (0)))])⟩ n (partsSome ρ ps.toList):=op_buildSlice (by kernel_rfl)
theorem bd_51 {ps:Array (Nat×Operand)}:aOp (EE w) lit (.build 51 ps) ρ σ=opBuild σ (some ([(0,1),(1,1),(2,1)],[(.sc (.int Go.IntKind.i64 (0))),(.sc (.slice none 0 0)),(.sc (.slice none 0 0))])) (partsSome ρ ps.toList):=op_build (by kernel_rfl)
theorem bs_25 {n:Nat} {ps:Array (Nat×Operand)}:aOp (EE w) lit (.buildSlice 25 n ps) ρ σ=opBuildSl σ lit ⟨3,56,(.agg [(.sc (.int Go.IntKind.i64 (0))),(.sc (.slice none 0 0)),(.sc (.slice none 0 0))])⟩ n (partsSome ρ ps.toList):=op_buildSlice (by kernel_rfl)
theorem bd_27 {ps:Array (Nat×Operand)}:aOp (EE w) lit (.build 27 ps) ρ σ=opBuild σ (some ([(0,1),(1,1),(2,1),(3,1),(4,1)],[(.sc (.int Go.IntKind.i64 (0))),(.sc (.slice none 0 0)),(.sc (.slice none 0 0)),(.sc (.slice none 0 0)),(.sc (.slice none 0 0))])) (partsSome ρ ps.toList):=op_build (by kernel_rfl)
theorem fn_21:(EE w).fns 21=true:=by kernel_rfl
theorem fn_22:(EE w).fns 22=true:=by kernel_rfl
theorem fn_23:(EE w).fns 23=true:=by kernel_rfl
theorem ty_60:tyA (EE w) 60=some (true,3):=by kernel_rfl
theorem zr_60:zeroD (EE w) 60=some (.agg [(.sc (.int Go.IntKind.i64 (0))),(.sc (.slice none 0 0)),(.sc (.int Go.IntKind.i64 (0)))]):=by kernel_rfl
theorem fa_46_1 {x:Operand}:aOp (EE w) lit (.fieldAddr 46 x 1) ρ σ=opFA σ (some (1,false,1)) (ρ x):=op_fieldAddr (by kernel_rfl)
theorem ty_4:tyA (EE w) 4=some (false,1):=by kernel_rfl
theorem fa_67_0 {x:Operand}:aOp (EE w) lit (.fieldAddr 67 x 0) ρ σ=opFA σ (some (0,false,1)) (ρ x):=op_fieldAddr (by kernel_rfl)
theorem fn_24:(EE w).fns 24=true:=by kernel_rfl
theorem fa_67_1 {x:Operand}:aOp (EE w) lit (.fieldAddr 67 x 1) ρ σ=opFA σ (some (1,false,1)) (ρ x):=op_fieldAddr (by kernel_rfl)
theorem fn_25:(EE w).fns 25=true:=by kernel_rfl
theorem fn_26:(EE w).fns 26=true:=by kernel_rfl
theorem ms_78 {x y:Operand}:aOp (EE w) lit (.makeSlice 78 x y) ρ σ=opMk σ ⟨1,1,(.sc (.bool false))⟩ (ρ x) (ρ y):=op_makeSlice (by kernel_rfl)
theorem ia_78 {x y:Operand}:aOp (EE w) lit (.indexAddr 78 x y) ρ σ=opIA σ ⟨1,1,(.sc (.bool false))⟩ (ρ x) (ρ y):=op_indexAddr (by kernel_rfl)
theorem fn_27:(EE w).fns 27=true:=by kernel_rfl
theorem fn_28:(EE w).fns 28=true:=by kernel_rfl
theorem fa_63_3 {x:Operand}:aOp (EE w) lit (.fieldAddr 63 x 3) ρ σ=opFA σ (some (3,false,1)) (ρ x):=op_fieldAddr (by kernel_rfl)
theorem ty_61:tyA (EE w) 61=some (false,1):=by kernel_rfl
theorem ln_61 {x:AVal}:opBi (EE w) .len [61] σ (some [x])=.ofV σ (aLen (.slice 0) x σ):=bi_len (by kernel_rfl)
theorem ia_61 {x y:Operand}:aOp (EE w) lit (.indexAddr 61 x y) ρ σ=opIA σ ⟨4,56,(.agg [(.sc (.int Go.IntKind.i64 (0))),(.sc (.string ⟨#[]⟩)),(.sc (.int Go.IntKind.i64 (0))),(.sc (.slice none 0 0))])⟩ (ρ x) (ρ y):=op_indexAddr (by kernel_rfl)
theorem fn_29:(EE w).fns 29=true:=by kernel_rfl
theorem fn_30:(EE w).fns 30=true:=by kernel_rfl
theorem zr_84:zeroD (EE w) 84=some (.agg [(.sc (.int Go.IntKind.i64 (0)))]):=by kernel_rfl
theorem fn_32:(EE w).fns 32=true:=by kernel_rfl
theorem fn_31:(EE w).fns 31=true:=by kernel_rfl
theorem ln_81 {x:AVal}:opBi (EE w) .len [81] σ (some [x])=.ofV σ (aLen (.slice 0) x σ):=bi_len (by kernel_rfl)
theorem ia_81 {x y:Operand}:aOp (EE w) lit (.indexAddr 81 x y) ρ σ=opIA σ ⟨1,16,(.sc (.string ⟨#[]⟩))⟩ (ρ x) (ρ y):=op_indexAddr (by kernel_rfl)
theorem ty_9:tyA (EE w) 9=some (false,1):=by kernel_rfl
theorem fn_33:(EE w).fns 33=true:=by kernel_rfl
theorem ia_22 {x y:Operand}:aOp (EE w) lit (.indexAddr 22 x y) ρ σ=opIA σ ⟨4,40,(.agg [(.sc (.string ⟨#[]⟩)),(.sc (.int Go.IntKind.i64 (0))),(.sc (.int Go.IntKind.i64 (0))),(.sc (.int Go.IntKind.i64 (0)))])⟩ (ρ x) (ρ y):=op_indexAddr (by kernel_rfl)
theorem ty_89:tyA (EE w) 89=some (true,4):=by kernel_rfl
theorem zr_89:zeroD (EE w) 89=some (.agg [(.sc (.string ⟨#[]⟩)),(.sc (.int Go.IntKind.i64 (0))),(.sc (.int Go.IntKind.i64 (0))),(.sc (.int Go.IntKind.i64 (0)))]):=by kernel_rfl
theorem fa_89_1 {x:Operand}:aOp (EE w) lit (.fieldAddr 89 x 1) ρ σ=opFA σ (some (1,false,1)) (ρ x):=op_fieldAddr (by kernel_rfl)
theorem fa_89_2 {x:Operand}:aOp (EE w) lit (.fieldAddr 89 x 2) ρ σ=opFA σ (some (2,false,1)) (ρ x):=op_fieldAddr (by kernel_rfl)
theorem fn_34:(EE w).fns 34=true:=by kernel_rfl
theorem zr_91:zeroD (EE w) 91=some (.agg [(.sc (.slice none 0 0)),(.sc (.slice none 0 0))]):=by kernel_rfl
theorem ty_91:tyA (EE w) 91=some (true,2):=by kernel_rfl
theorem fa_84_0 {x:Operand}:aOp (EE w) lit (.fieldAddr 84 x 0) ρ σ=opFA σ (some (0,false,1)) (ρ x):=op_fieldAddr (by kernel_rfl)
theorem ty_35:tyA (EE w) 35=some (false,1):=by kernel_rfl
theorem fn_35:(EE w).fns 35=true:=by kernel_rfl
theorem fa_51_0 {x:Operand}:aOp (EE w) lit (.fieldAddr 51 x 0) ρ σ=opFA σ (some (0,false,1)) (ρ x):=op_fieldAddr (by kernel_rfl)
theorem fn_36:(EE w).fns 36=true:=by kernel_rfl
theorem fa_60_0 {x:Operand}:aOp (EE w) lit (.fieldAddr 60 x 0) ρ σ=opFA σ (some (0,false,1)) (ρ x):=op_fieldAddr (by kernel_rfl)
theorem fa_60_2 {x:Operand}:aOp (EE w) lit (.fieldAddr 60 x 2) ρ σ=opFA σ (some (2,false,1)) (ρ x):=op_fieldAddr (by kernel_rfl)
theorem fn_38:(EE w).fns 38=true:=by kernel_rfl
theorem fn_39:(EE w).fns 39=true:=by kernel_rfl
theorem fa_67_4 {x:Operand}:aOp (EE w) lit (.fieldAddr 67 x 4) ρ σ=opFA σ (some (7,false,1)) (ρ x):=op_fieldAddr (by kernel_rfl)
theorem fa_67_5 {x:Operand}:aOp (EE w) lit (.fieldAddr 67 x 5) ρ σ=opFA σ (some (8,false,1)) (ρ x):=op_fieldAddr (by kernel_rfl)
theorem fa_67_8 {x:Operand}:aOp (EE w) lit (.fieldAddr 67 x 8) ρ σ=opFA σ (some (11,false,1)) (ρ x):=op_fieldAddr (by kernel_rfl)
theorem fa_67_9 {x:Operand}:aOp (EE w) lit (.fieldAddr 67 x 9) ρ σ=opFA σ (some (12,false,1)) (ρ x):=op_fieldAddr (by kernel_rfl)
theorem ia_65 {x y:Operand}:aOp (EE w) lit (.indexAddr 65 x y) ρ σ=opIA σ ⟨2,16,(.agg [(.sc (.int Go.IntKind.i64 (0))),(.sc (.int Go.IntKind.i64 (0)))])⟩ (ρ x) (ρ y):=op_indexAddr (by kernel_rfl)
theorem ty_72:tyA (EE w) 72=some (true,2):=by kernel_rfl
theorem zr_72:zeroD (EE w) 72=some (.agg [(.sc (.int Go.IntKind.i64 (0))),(.sc (.int Go.IntKind.i64 (0)))]):=by kernel_rfl
theorem fa_72_0 {x:Operand}:aOp (EE w) lit (.fieldAddr 72 x 0) ρ σ=opFA σ (some (0,false,1)) (ρ x):=op_fieldAddr (by kernel_rfl)
theorem fa_72_1 {x:Operand}:aOp (EE w) lit (.fieldAddr 72 x 1) ρ σ=opFA σ (some (1,false,1)) (ρ x):=op_fieldAddr (by kernel_rfl)
theorem fn_37:(EE w).fns 37=true:=by kernel_rfl
theorem fn_40:(EE w).fns 40=true:=by kernel_rfl
theorem fn_42:(EE w).fns 42=true:=by kernel_rfl
theorem fn_41:(EE w).fns 41=true:=by kernel_rfl
theorem ty_70:tyA (EE w) 70=some (true,5):=by kernel_rfl
theorem zr_70:zeroD (EE w) 70=some (.agg [(.sc (.int Go.IntKind.i64 (0))),(.sc (.int Go.IntKind.i64 (0))),(.sc (.string ⟨#[]⟩)),(.sc (.int Go.IntKind.i64 (0))),(.sc (.slice none 0 0))]):=by kernel_rfl
theorem fa_70_0 {x:Operand}:aOp (EE w) lit (.fieldAddr 70 x 0) ρ σ=opFA σ (some (0,false,1)) (ρ x):=op_fieldAddr (by kernel_rfl)
theorem fn_43:(EE w).fns 43=true:=by kernel_rfl
theorem fn_44:(EE w).fns 44=true:=by kernel_rfl
theorem fn_45:(EE w).fns 45=true:=by kernel_rfl
theorem fn_46:(EE w).fns 46=true:=by kernel_rfl
theorem ms_53 {x y:Operand}:aOp (EE w) lit (.makeSlice 53 x y) ρ σ=opMk σ ⟨1,24,(.sc (.slice none 0 0))⟩ (ρ x) (ρ y):=op_makeSlice (by kernel_rfl)
theorem ln_53 {x:AVal}:opBi (EE w) .len [53] σ (some [x])=.ofV σ (aLen (.slice 0) x σ):=bi_len (by kernel_rfl)
theorem fn_47:(EE w).fns 47=true:=by kernel_rfl
theorem ap_81 {a x:AVal}:opBi (EE w) .append [81,81] σ (some [a,x])=opApp (EE w) 81 σ ⟨1,16,(.sc (.string ⟨#[]⟩))⟩ a (aSrc 1 x σ):=bi_append (by kernel_rfl)
theorem fn_48:(EE w).fns 48=true:=by kernel_rfl
theorem fn_49:(EE w).fns 49=true:=by kernel_rfl
theorem fn_50:(EE w).fns 50=true:=by kernel_rfl
theorem fn_51:(EE w).fns 51=true:=by kernel_rfl
theorem fn_52:(EE w).fns 52=true:=by kernel_rfl
theorem fn_53:(EE w).fns 53=true:=by kernel_rfl
theorem fn_54:(EE w).fns 54=true:=by kernel_rfl
theorem fn_55:(EE w).fns 55=true:=by kernel_rfl
theorem ap_32 {a x:AVal}:opBi (EE w) .append [32,32] σ (some [a,x])=opApp (EE w) 32 σ ⟨4,24,(.agg [(.sc (.int Go.IntKind.i64 (0))),(.sc (.bool false)),(.sc (.bool false)),(.sc (.int Go.IntKind.i64 (0)))])⟩ a (aSrc 4 x σ):=bi_append (by kernel_rfl)
theorem kb_4:kindD (EE w) 4=some .bool:=by kernel_rfl
theorem ia_24 {x y:Operand}:aOp (EE w) lit (.indexAddr 24 x y) ρ σ=opIA σ ⟨3,64,(.agg [(.sc (.string ⟨#[]⟩)),(.sc (.slice none 0 0)),(.sc (.slice none 0 0))])⟩ (ρ x) (ρ y):=op_indexAddr (by kernel_rfl)
theorem ty_113:tyA (EE w) 113=some (true,3):=by kernel_rfl
theorem zr_113:zeroD (EE w) 113=some (.agg [(.sc (.string ⟨#[]⟩)),(.sc (.slice none 0 0)),(.sc (.slice none 0 0))]):=by kernel_rfl
theorem fa_113_0 {x:Operand}:aOp (EE w) lit (.fieldAddr 113 x 0) ρ σ=opFA σ (some (0,false,1)) (ρ x):=op_fieldAddr (by kernel_rfl)
theorem fa_113_1 {x:Operand}:aOp (EE w) lit (.fieldAddr 113 x 1) ρ σ=opFA σ (some (1,false,1)) (ρ x):=op_fieldAddr (by kernel_rfl)
theorem ty_81:tyA (EE w) 81=some (false,1):=by kernel_rfl
theorem fn_61:(EE w).fns 61=true:=by kernel_rfl
theorem bs_81 {n:Nat} {ps:Array (Nat×Operand)}:aOp (EE w) lit (.buildSlice 81 n ps) ρ σ=opBuildSl σ lit ⟨1,16,(.sc (.string ⟨#[]⟩))⟩ n (partsSome ρ ps.toList):=op_buildSlice (by kernel_rfl)
theorem fa_89_0 {x:Operand}:aOp (EE w) lit (.fieldAddr 89 x 0) ρ σ=opFA σ (some (0,false,1)) (ρ x):=op_fieldAddr (by kernel_rfl)
theorem ia_23 {x y:Operand}:aOp (EE w) lit (.indexAddr 23 x y) ρ σ=opIA σ ⟨3,24,(.agg [(.sc (.string ⟨#[]⟩)),(.sc (.bool false)),(.sc (.bool false))])⟩ (ρ x) (ρ y):=op_indexAddr (by kernel_rfl)
theorem ty_122:tyA (EE w) 122=some (true,3):=by kernel_rfl
theorem zr_122:zeroD (EE w) 122=some (.agg [(.sc (.string ⟨#[]⟩)),(.sc (.bool false)),(.sc (.bool false))]):=by kernel_rfl
theorem fa_122_0 {x:Operand}:aOp (EE w) lit (.fieldAddr 122 x 0) ρ σ=opFA σ (some (0,false,1)) (ρ x):=op_fieldAddr (by kernel_rfl)
theorem fn_62:(EE w).fns 62=true:=by kernel_rfl
theorem ln_9 {x:AVal}:opBi (EE w) .len [9] σ (some [x])=.ofV σ (aLen .string x σ):=bi_lenS (by kernel_rfl)
theorem ixs_9 {x y:Operand}:aOp (EE w) lit (.index 9 x y) ρ σ=opIS σ (ρ x) (ρ y):=op_index_str (by kernel_rfl)
theorem fn_64:(EE w).fns 64=true:=by kernel_rfl
theorem fn_66:(EE w).fns 66=true:=by kernel_rfl
theorem fn_65:(EE w).fns 65=true:=by kernel_rfl
theorem cvb_9_134:bytesD (EE w) 9 134=true:=by kernel_rfl
theorem cvg_9_134 {x:Operand}:aOp (EE w) lit (.convert 9 134 x) ρ σ=opCvG (EE w) 9 134 σ (ρ x):=op_convG
theorem ln_134 {x:AVal}:opBi (EE w) .len [134] σ (some [x])=.ofV σ (aLen (.slice 0) x σ):=bi_len (by kernel_rfl)
theorem ia_134 {x y:Operand}:aOp (EE w) lit (.indexAddr 134 x y) ρ σ=opIA σ ⟨1,1,(.sc (.int Go.IntKind.u8 (0)))⟩ (ρ x) (ρ y):=op_indexAddr (by kernel_rfl)
theorem ty_5:tyA (EE w) 5=some (false,1):=by kernel_rfl
theorem fn_67:(EE w).fns 67=true:=by kernel_rfl
theorem bd_91 {ps:Array (Nat×Operand)}:aOp (EE w) lit (.build 91 ps) ρ σ=opBuild σ (some ([(0,1),(1,1)],[(.sc (.slice none 0 0)),(.sc (.slice none 0 0))])) (partsSome ρ ps.toList):=op_build (by kernel_rfl)
theorem fa_89_3 {x:Operand}:aOp (EE w) lit (.fieldAddr 89 x 3) ρ σ=opFA σ (some (3,false,1)) (ρ x):=op_fieldAddr (by kernel_rfl)
theorem fa_91_0 {x:Operand}:aOp (EE w) lit (.fieldAddr 91 x 0) ρ σ=opFA σ (some (0,false,1)) (ρ x):=op_fieldAddr (by kernel_rfl)
theorem fn_68:(EE w).fns 68=true:=by kernel_rfl
theorem fa_46_2 {x:Operand}:aOp (EE w) lit (.fieldAddr 46 x 2) ρ σ=opFA σ (some (2,false,1)) (ρ x):=op_fieldAddr (by kernel_rfl)
theorem fa_63_0 {x:Operand}:aOp (EE w) lit (.fieldAddr 63 x 0) ρ σ=opFA σ (some (0,false,1)) (ρ x):=op_fieldAddr (by kernel_rfl)
theorem fa_63_1 {x:Operand}:aOp (EE w) lit (.fieldAddr 63 x 1) ρ σ=opFA σ (some (1,false,1)) (ρ x):=op_fieldAddr (by kernel_rfl)
theorem fa_63_2 {x:Operand}:aOp (EE w) lit (.fieldAddr 63 x 2) ρ σ=opFA σ (some (2,false,1)) (ρ x):=op_fieldAddr (by kernel_rfl)
theorem fa_91_1 {x:Operand}:aOp (EE w) lit (.fieldAddr 91 x 1) ρ σ=opFA σ (some (1,false,1)) (ρ x):=op_fieldAddr (by kernel_rfl)
theorem fn_69:(EE w).fns 69=true:=by kernel_rfl
theorem fa_122_2 {x:Operand}:aOp (EE w) lit (.fieldAddr 122 x 2) ρ σ=opFA σ (some (2,false,1)) (ρ x):=op_fieldAddr (by kernel_rfl)
theorem fa_122_1 {x:Operand}:aOp (EE w) lit (.fieldAddr 122 x 1) ρ σ=opFA σ (some (1,false,1)) (ρ x):=op_fieldAddr (by kernel_rfl)
theorem bd_139 {ps:Array (Nat×Operand)}:aOp (EE w) lit (.build 139 ps) ρ σ=opBuild σ (some ([(0,5),(5,1)],[(.sc (.int Go.IntKind.i64 (0))),(.sc (.slice none 0 0)),(.sc (.slice none 0 0)),(.sc (.slice none 0 0)),(.sc (.slice none 0 0)),(.sc (.slice none 0 0))])) (partsSome ρ ps.toList):=op_build (by kernel_rfl)
theorem fa_139_1 {x:Operand}:aOp (EE w) lit (.fieldAddr 139 x 1) ρ σ=opFA σ (some (5,false,1)) (ρ x):=op_fieldAddr (by kernel_rfl)
theorem fa_139_0 {x:Operand}:aOp (EE w) lit (.fieldAddr 139 x 0) ρ σ=opFA σ (some (0,true,5)) (ρ x):=op_fieldAddr (by kernel_rfl)
theorem fn_71:(EE w).fns 71=true:=by kernel_rfl
theorem fn_72:(EE w).fns 72=true:=by kernel_rfl
theorem fn_74:(EE w).fns 74=true:=by kernel_rfl
theorem fn_73:(EE w).fns 73=true:=by kernel_rfl
theorem fn_75:(EE w).fns 75=true:=by kernel_rfl
theorem sl_81 {x:Operand} {lo hi:Option Operand}:aOp (EE w) lit (.slice 81 x lo hi none) ρ σ=opSl σ ⟨1,16,(.sc (.string ⟨#[]⟩))⟩ (ρ x) (optSome ρ lo) (optSome ρ hi):=op_slice (by kernel_rfl)
theorem fn_76:(EE w).fns 76=true:=by kernel_rfl
theorem fn_77:(EE w).fns 77=true:=by kernel_rfl
theorem fn_78:(EE w).fns 78=true:=by kernel_rfl
theorem fn_79:(EE w).fns 79=true:=by kernel_rfl
theorem fn_80:(EE w).fns 80=true:=by kernel_rfl
theorem fn_81:(EE w).fns 81=true:=by kernel_rfl
theorem fn_82:(EE w).fns 82=true:=by kernel_rfl
theorem fn_83:(EE w).fns 83=true:=by kernel_rfl
theorem fn_84:(EE w).fns 84=true:=by kernel_rfl
theorem fn_88:(EE w).fns 88=true:=by kernel_rfl
theorem zr_150:zeroD (EE w) 150=some (.agg [(.sc (.int Go.IntKind.i64 (0))),(.sc (.int Go.IntKind.i64 (0))),(.sc (.bool false))]):=by kernel_rfl
theorem ty_150:tyA (EE w) 150=some (true,3):=by kernel_rfl
theorem fa_150_0 {x:Operand}:aOp (EE w) lit (.fieldAddr 150 x 0) ρ σ=opFA σ (some (0,false,1)) (ρ x):=op_fieldAddr (by kernel_rfl)
theorem fa_150_1 {x:Operand}:aOp (EE w) lit (.fieldAddr 150 x 1) ρ σ=opFA σ (some (1,false,1)) (ρ x):=op_fieldAddr (by kernel_rfl)
theorem fa_150_2 {x:Operand}:aOp (EE w) lit (.fieldAddr 150 x 2) ρ σ=opFA σ (some (2,false,1)) (ρ x):=op_fieldAddr (by kernel_rfl)
theorem fn_90:(EE w).fns 90=true:=by kernel_rfl
theorem mu_128 {m k x:Operand}:aOp (EE w) lit (.mapUpdate 128 m k x) ρ σ=opMs σ .string (ρ m) (ρ k) (ρ x):=op_mapUpdate (z:=.int Go.IntKind.i64 (0)) (by kernel_rfl)
theorem fn_91:(EE w).fns 91=true:=by kernel_rfl
theorem fn_92:(EE w).fns 92=true:=by kernel_rfl
theorem fn_93:(EE w).fns 93=true:=by kernel_rfl
theorem fn_94:(EE w).fns 94=true:=by kernel_rfl
theorem fn_95:(EE w).fns 95=true:=by kernel_rfl
theorem fn_98:(EE w).fns 98=true:=by kernel_rfl
theorem fn_99:(EE w).fns 99=true:=by kernel_rfl
theorem fn_100:(EE w).fns 100=true:=by kernel_rfl
theorem fn_101:(EE w).fns 101=true:=by kernel_rfl
theorem fn_102:(EE w).fns 102=true:=by kernel_rfl
theorem bd_150 {ps:Array (Nat×Operand)}:aOp (EE w) lit (.build 150 ps) ρ σ=opBuild σ (some ([(0,1),(1,1),(2,1)],[(.sc (.int Go.IntKind.i64 (0))),(.sc (.int Go.IntKind.i64 (0))),(.sc (.bool false))])) (partsSome ρ ps.toList):=op_build (by kernel_rfl)
theorem fn_105:(EE w).fns 105=true:=by kernel_rfl
theorem fn_104:(EE w).fns 104=true:=by kernel_rfl
theorem fn_106:(EE w).fns 106=true:=by kernel_rfl
theorem fa_169_1 {x:Operand}:aOp (EE w) lit (.fieldAddr 169 x 1) ρ σ=opFA σ (some (1,false,1)) (ρ x):=op_fieldAddr (by kernel_rfl)
theorem ty_128:tyA (EE w) 128=some (false,1):=by kernel_rfl
theorem zr_63:zeroD (EE w) 63=some (.agg [(.sc (.int Go.IntKind.i64 (0))),(.sc (.string ⟨#[]⟩)),(.sc (.int Go.IntKind.i64 (0))),(.sc (.slice none 0 0))]):=by kernel_rfl
theorem fa_169_0 {x:Operand}:aOp (EE w) lit (.fieldAddr 169 x 0) ρ σ=opFA σ (some (0,false,1)) (ρ x):=op_fieldAddr (by kernel_rfl)
theorem ty_167:tyA (EE w) 167=some (false,1):=by kernel_rfl
theorem lk_167 {x k:Operand} {ok:Bool}:aOp (EE w) lit (.lookup 167 x k ok) ρ σ=opLk σ .string (.bool false) ok (ρ x) (ρ k):=op_lookup (by kernel_rfl)
theorem lk_128 {x k:Operand} {ok:Bool}:aOp (EE w) lit (.lookup 128 x k ok) ρ σ=opLk σ .string (.int Go.IntKind.i64 (0)) ok (ρ x) (ρ k):=op_lookup (by kernel_rfl)
theorem fn_108:(EE w).fns 108=true:=by kernel_rfl
theorem fn_109:(EE w).fns 109=true:=by kernel_rfl
theorem bd_175 {ps:Array (Nat×Operand)}:aOp (EE w) lit (.build 175 ps) ρ σ=opBuild σ (some ([(0,1),(1,1),(2,1)],[(.sc (.slice none 0 0)),(.sc (.slice none 0 0)),(.sc (.slice none 0 0))])) (partsSome ρ ps.toList):=op_build (by kernel_rfl)
theorem fn_112:(EE w).fns 112=true:=by kernel_rfl
theorem fn_113:(EE w).fns 113=true:=by kernel_rfl
theorem fn_114:(EE w).fns 114=true:=by kernel_rfl
theorem ixa_177 {x y:Operand}:aOp (EE w) lit (.index 177 x y) ρ σ=opIxA σ (6,false,1) (ρ x) (ρ y):=op_index_arr (by kernel_rfl)
theorem rg_128 {x:Operand}:aOp (EE w) lit (.range 128 x) ρ σ=opRgM σ (ρ x):=op_rangeM (by kernel_rfl)
theorem fn_115:(EE w).fns 115=true:=by kernel_rfl
theorem bd_169 {ps:Array (Nat×Operand)}:aOp (EE w) lit (.build 169 ps) ρ σ=opBuild σ (some ([(0,1),(1,1)],[(.sc (.map none)),(.sc (.map none))])) (partsSome ρ ps.toList):=op_build (by kernel_rfl)
theorem mu_167 {m k x:Operand}:aOp (EE w) lit (.mapUpdate 167 m k x) ρ σ=opMs σ .string (ρ m) (ρ k) (ρ x):=op_mapUpdate (z:=.bool false) (by kernel_rfl)
theorem ty_175:tyA (EE w) 175=some (true,3):=by kernel_rfl
theorem fa_175_0 {x:Operand}:aOp (EE w) lit (.fieldAddr 175 x 0) ρ σ=opFA σ (some (0,false,1)) (ρ x):=op_fieldAddr (by kernel_rfl)
theorem fa_175_1 {x:Operand}:aOp (EE w) lit (.fieldAddr 175 x 1) ρ σ=opFA σ (some (1,false,1)) (ρ x):=op_fieldAddr (by kernel_rfl)
theorem fa_175_2 {x:Operand}:aOp (EE w) lit (.fieldAddr 175 x 2) ρ σ=opFA σ (some (2,false,1)) (ρ x):=op_fieldAddr (by kernel_rfl)
theorem zr_177:zeroD (EE w) 177=some (.agg [(.sc (.map none)),(.sc (.map none)),(.sc (.map none)),(.sc (.map none)),(.sc (.map none)),(.sc (.map none))]):=by kernel_rfl
theorem mi_128 {m k x:Operand}:aOp (EE w) lit (.insert 128 m k x) ρ σ=opMs σ .string (ρ m) (ρ k) (ρ x):=op_insert (z:=.int Go.IntKind.i64 (0)) (by kernel_rfl)
theorem ba_177 {ps:Array (Nat×Operand)}:aOp (EE w) lit (.build 177 ps) ρ σ=opBuildA σ (1,.agg #[.map none,.map none,.map none,.map none,.map none,.map none]) (partsSome ρ ps.toList):=op_buildA (by kernel_rfl)
theorem ty_177:tyA (EE w) 177=some (true,6):=by kernel_rfl
attribute [go_sem] ty_27 ty_31 fn_4 fn_5 fn_6 fn_7 fn_8 fn_9 fn_10 fn_11 fn_12 ln_28 ia_28 ty_3 fn_13 fa_31_0 ty_28 fa_31_1 ty_29 ln_29 ln_32 fn_14 zr_27 bs_28 bd_31 bd_46 bs_32 bs_29 fn_15 fa_27_0 ms_29 ia_29 ty_2 fa_27_4 ty_25 ln_25 ia_25 ty_51 zr_51 fn_16 ia_53 fn_17 ia_32 ty_46 zr_46 fa_46_0 fa_46_3 fn_18 fn_19 ap_29 ap_28 fa_27_1 ty_22 ln_22 fa_27_3 ty_24 ln_24 fa_27_2 ty_23 ln_23 fa_51_2 ty_49 ln_49 fa_51_1 ty_48 ln_48 ia_48 fa_60_1 ty_32 ia_49 ty_67 zr_67 fa_67_2 fa_67_6 ty_64 ln_64 fa_67_7 ty_65 ln_65 fa_67_3 ty_63 fn_20 ia_64 fa_70_1 bd_60 bs_48 bd_72 bs_65 bd_67 bs_49 bd_51 bs_25 bd_27 fn_21 fn_22 fn_23 ty_60 zr_60 fa_46_1 ty_4 fa_67_0 fn_24 fa_67_1 fn_25 fn_26 ms_78 ia_78 fn_27 fn_28 fa_63_3 ty_61 ln_61 ia_61 fn_29 fn_30 zr_84 fn_32 fn_31 ln_81 ia_81 ty_9 fn_33 ia_22 ty_89 zr_89 fa_89_1 fa_89_2 fn_34 zr_91 ty_91 fa_84_0 ty_35 fn_35 fa_51_0 fn_36 fa_60_0 fa_60_2 fn_38 fn_39 fa_67_4 fa_67_5 fa_67_8 fa_67_9 ia_65 ty_72 zr_72 fa_72_0 fa_72_1 fn_37 fn_40 fn_42 fn_41 ty_70 zr_70 fa_70_0 fn_43 fn_44 fn_45 fn_46 ms_53 ln_53 fn_47 ap_81 fn_48 fn_49 fn_50 fn_51 fn_52 fn_53 fn_54 fn_55 ap_32 kb_4 ia_24 ty_113 zr_113 fa_113_0 fa_113_1 ty_81 fn_61 bs_81 fa_89_0 ia_23 ty_122 zr_122 fa_122_0 fn_62 ln_9 ixs_9 fn_64 fn_66 fn_65 cvb_9_134 cvg_9_134 ln_134 ia_134 ty_5 fn_67 bd_91 fa_89_3 fa_91_0 fn_68 fa_46_2 fa_63_0 fa_63_1 fa_63_2 fa_91_1 fn_69 fa_122_2 fa_122_1 bd_139 fa_139_1 fa_139_0 fn_71 fn_72 fn_74 fn_73 fn_75 sl_81 fn_76 fn_77 fn_78 fn_79 fn_80 fn_81 fn_82 fn_83 fn_84 fn_88 zr_150 ty_150 fa_150_0 fa_150_1 fa_150_2 fn_90 mu_128 fn_91 fn_92 fn_93 fn_94 fn_95 fn_98 fn_99 fn_100 fn_101 fn_102 bd_150 fn_105 fn_104 fn_106 fa_169_1 ty_128 zr_63 fa_169_0 ty_167 lk_167 lk_128 fn_108 fn_109 bd_175 fn_112 fn_113 fn_114 ixa_177 rg_128 fn_115 bd_169 mu_167 ty_175 fa_175_0 fa_175_1 fa_175_2 zr_177 mi_128 ba_177 ty_177
theorem of_3 (hn:Nat.ble args.length 117=true) (hl:Nat.blt args.length 1000=true) {c:Code} (hc:Tryz.f3.body=some c) (hk:okC 117 c=true) (h:V (EE ⟨w.w,[]⟩) 117 c (vFin (EE ⟨w.w,[]⟩) [.tmp 6] R) (initE args 0) σ):ACalls (EE w) 3 args σ R:=
 ACalls.of_V' (E:=EE w) (E':=EE ⟨w.w,[]⟩) (n:=117) rfl rfl Tryz.f3 c _ Tryz.func3 hc (by kernel_rfl) (by kernel_rfl) hk hn hl h
theorem of_4 (hn:Nat.ble args.length 26=true) (hl:Nat.blt args.length 1000=true) {c:Code} (hc:Tryz.f4.body=some c) (hk:okC 26 c=true) (h:V (EE ⟨w.w,[]⟩) 26 c (vFin (EE ⟨w.w,[]⟩) [.tmp 6] R) (initE args 0) σ):ACalls (EE w) 4 args σ R:=
 ACalls.of_V' (E:=EE w) (E':=EE ⟨w.w,[]⟩) (n:=26) rfl rfl Tryz.f4 c _ Tryz.func4 hc (by kernel_rfl) (by kernel_rfl) hk hn hl h
theorem of_5 (hn:Nat.ble args.length 71=true) (hl:Nat.blt args.length 1000=true) {c:Code} (hc:Tryz.f5.body=some c) (hk:okC 71 c=true) (h:V (EE ⟨w.w,[]⟩) 71 c (vFin (EE ⟨w.w,[]⟩) [.tmp 0] R) (initE args 0) σ):ACalls (EE w) 5 args σ R:=
 ACalls.of_V' (E:=EE w) (E':=EE ⟨w.w,[]⟩) (n:=71) rfl rfl Tryz.f5 c _ Tryz.func5 hc (by kernel_rfl) (by kernel_rfl) hk hn hl h
theorem of_6 (hn:Nat.ble args.length 124=true) (hl:Nat.blt args.length 1000=true) {c:Code} (hc:Tryz.f6.body=some c) (hk:okC 124 c=true) (h:V (EE ⟨w.w,[]⟩) 124 c (vFin (EE ⟨w.w,[]⟩) [.tmp 6,.tmp 7,.tmp 8] R) (initE args 0) σ):ACalls (EE w) 6 args σ R:=
 ACalls.of_V' (E:=EE w) (E':=EE ⟨w.w,[]⟩) (n:=124) rfl rfl Tryz.f6 c _ Tryz.func6 hc (by kernel_rfl) (by kernel_rfl) hk hn hl h
theorem of_7 (hn:Nat.ble args.length 99=true) (hl:Nat.blt args.length 1000=true) {c:Code} (hc:Tryz.f7.body=some c) (hk:okC 99 c=true) (h:V (EE ⟨w.w,[]⟩) 99 c (vFin (EE ⟨w.w,[]⟩) [.tmp 6,.tmp 7,.tmp 8] R) (initE args 0) σ):ACalls (EE w) 7 args σ R:=
 ACalls.of_V' (E:=EE w) (E':=EE ⟨w.w,[]⟩) (n:=99) rfl rfl Tryz.f7 c _ Tryz.func7 hc (by kernel_rfl) (by kernel_rfl) hk hn hl h
theorem of_8 (hn:Nat.ble args.length 26=true) (hl:Nat.blt args.length 1000=true) {c:Code} (hc:Tryz.f8.body=some c) (hk:okC 26 c=true) (h:V (EE ⟨w.w,[]⟩) 26 c (vFin (EE ⟨w.w,[]⟩) [.tmp 4] R) (initE args 0) σ):ACalls (EE w) 8 args σ R:=
 ACalls.of_V' (E:=EE w) (E':=EE ⟨w.w,[]⟩) (n:=26) rfl rfl Tryz.f8 c _ Tryz.func8 hc (by kernel_rfl) (by kernel_rfl) hk hn hl h
theorem of_9 (hn:Nat.ble args.length 39=true) (hl:Nat.blt args.length 1000=true) {c:Code} (hc:Tryz.f9.body=some c) (hk:okC 39 c=true) (h:V (EE ⟨w.w,[]⟩) 39 c (vFin (EE ⟨w.w,[]⟩) [.tmp 6,.tmp 7] R) (initE args 0) σ):ACalls (EE w) 9 args σ R:=
 ACalls.of_V' (E:=EE w) (E':=EE ⟨w.w,[]⟩) (n:=39) rfl rfl Tryz.f9 c _ Tryz.func9 hc (by kernel_rfl) (by kernel_rfl) hk hn hl h
theorem of_10 (hn:Nat.ble args.length 43=true) (hl:Nat.blt args.length 1000=true) {c:Code} (hc:Tryz.f10.body=some c) (hk:okC 43 c=true) (h:V (EE ⟨w.w,[]⟩) 43 c (vFin (EE ⟨w.w,[]⟩) [.tmp 6,.tmp 7] R) (initE args 0) σ):ACalls (EE w) 10 args σ R:=
 ACalls.of_V' (E:=EE w) (E':=EE ⟨w.w,[]⟩) (n:=43) rfl rfl Tryz.f10 c _ Tryz.func10 hc (by kernel_rfl) (by kernel_rfl) hk hn hl h
theorem of_11 (hn:Nat.ble args.length 39=true) (hl:Nat.blt args.length 1000=true) {c:Code} (hc:Tryz.f11.body=some c) (hk:okC 39 c=true) (h:V (EE ⟨w.w,[]⟩) 39 c (vFin (EE ⟨w.w,[]⟩) [.tmp 6,.tmp 7] R) (initE args 0) σ):ACalls (EE w) 11 args σ R:=
 ACalls.of_V' (E:=EE w) (E':=EE ⟨w.w,[]⟩) (n:=39) rfl rfl Tryz.f11 c _ Tryz.func11 hc (by kernel_rfl) (by kernel_rfl) hk hn hl h
theorem of_12 (hn:Nat.ble args.length 39=true) (hl:Nat.blt args.length 1000=true) {c:Code} (hc:Tryz.f12.body=some c) (hk:okC 39 c=true) (h:V (EE ⟨w.w,[]⟩) 39 c (vFin (EE ⟨w.w,[]⟩) [.tmp 6,.tmp 7] R) (initE args 0) σ):ACalls (EE w) 12 args σ R:=
 ACalls.of_V' (E:=EE w) (E':=EE ⟨w.w,[]⟩) (n:=39) rfl rfl Tryz.f12 c _ Tryz.func12 hc (by kernel_rfl) (by kernel_rfl) hk hn hl h
theorem of_13 (hn:Nat.ble args.length 130=true) (hl:Nat.blt args.length 1000=true) {c:Code} (hc:Tryz.f13.body=some c) (hk:okC 130 c=true) (h:V (EE ⟨w.w,[]⟩) 130 c (vFin (EE ⟨w.w,[]⟩) [.tmp 2] R) (initE args 0) σ):ACalls (EE w) 13 args σ R:=
 ACalls.of_V' (E:=EE w) (E':=EE ⟨w.w,[]⟩) (n:=130) rfl rfl Tryz.f13 c _ Tryz.func13 hc (by kernel_rfl) (by kernel_rfl) hk hn hl h
theorem of_14 (hn:Nat.ble args.length 18=true) (hl:Nat.blt args.length 1000=true) {c:Code} (hc:Tryz.f14.body=some c) (hk:okC 18 c=true) (h:V (EE ⟨w.w,[]⟩) 18 c (vFin (EE ⟨w.w,[]⟩) [.cell 0 27] R) (initE args 0) σ):ACalls (EE w) 14 args σ R:=
 ACalls.of_V' (E:=EE w) (E':=EE ⟨w.w,[]⟩) (n:=18) rfl rfl Tryz.f14 c _ Tryz.func14 hc (by kernel_rfl) (by kernel_rfl) hk hn hl h
theorem of_15 (hn:Nat.ble args.length 52=true) (hl:Nat.blt args.length 1000=true) {c:Code} (hc:Tryz.f15.body=some c) (hk:okC 52 c=true) (h:V (EE ⟨w.w,[]⟩) 52 c (vFin (EE ⟨w.w,[]⟩) [.tmp 6] R) (initE args 0) σ):ACalls (EE w) 15 args σ R:=
 ACalls.of_V' (E:=EE w) (E':=EE ⟨w.w,[]⟩) (n:=52) rfl rfl Tryz.f15 c _ Tryz.func15 hc (by kernel_rfl) (by kernel_rfl) hk hn hl h
theorem of_16 (hn:Nat.ble args.length 155=true) (hl:Nat.blt args.length 1000=true) {c:Code} (hc:Tryz.f16.body=some c) (hk:okC 155 c=true) (h:V (EE ⟨w.w,[]⟩) 155 c (vFin (EE ⟨w.w,[]⟩) [.tmp 4,.tmp 5] R) (initE args 0) σ):ACalls (EE w) 16 args σ R:=
 ACalls.of_V' (E:=EE w) (E':=EE ⟨w.w,[]⟩) (n:=155) rfl rfl Tryz.f16 c _ Tryz.func16 hc (by kernel_rfl) (by kernel_rfl) hk hn hl h
theorem of_17 (hn:Nat.ble args.length 24=true) (hl:Nat.blt args.length 1000=true) {c:Code} (hc:Tryz.f17.body=some c) (hk:okC 24 c=true) (h:V (EE ⟨w.w,[]⟩) 24 c (vFin (EE ⟨w.w,[]⟩) [.tmp 4] R) (initE args 0) σ):ACalls (EE w) 17 args σ R:=
 ACalls.of_V' (E:=EE w) (E':=EE ⟨w.w,[]⟩) (n:=24) rfl rfl Tryz.f17 c _ Tryz.func17 hc (by kernel_rfl) (by kernel_rfl) hk hn hl h
theorem of_18 (hn:Nat.ble args.length 62=true) (hl:Nat.blt args.length 1000=true) {c:Code} (hc:Tryz.f18.body=some c) (hk:okC 62 c=true) (h:V (EE ⟨w.w,[]⟩) 62 c (vFin (EE ⟨w.w,[]⟩) [.tmp 6] R) (initE args 0) σ):ACalls (EE w) 18 args σ R:=
 ACalls.of_V' (E:=EE w) (E':=EE ⟨w.w,[]⟩) (n:=62) rfl rfl Tryz.f18 c _ Tryz.func18 hc (by kernel_rfl) (by kernel_rfl) hk hn hl h
theorem of_19 (hn:Nat.ble args.length 92=true) (hl:Nat.blt args.length 1000=true) {c:Code} (hc:Tryz.f19.body=some c) (hk:okC 92 c=true) (h:V (EE ⟨w.w,[]⟩) 92 c (vFin (EE ⟨w.w,[]⟩) [.tmp 8] R) (initE args 0) σ):ACalls (EE w) 19 args σ R:=
 ACalls.of_V' (E:=EE w) (E':=EE ⟨w.w,[]⟩) (n:=92) rfl rfl Tryz.f19 c _ Tryz.func19 hc (by kernel_rfl) (by kernel_rfl) hk hn hl h
theorem of_20 (hn:Nat.ble args.length 31=true) (hl:Nat.blt args.length 1000=true) {c:Code} (hc:Tryz.f20.body=some c) (hk:okC 31 c=true) (h:V (EE ⟨w.w,[]⟩) 31 c (vFin (EE ⟨w.w,[]⟩) [.tmp 4] R) (initE args 0) σ):ACalls (EE w) 20 args σ R:=
 ACalls.of_V' (E:=EE w) (E':=EE ⟨w.w,[]⟩) (n:=31) rfl rfl Tryz.f20 c _ Tryz.func20 hc (by kernel_rfl) (by kernel_rfl) hk hn hl h
theorem of_21 (hn:Nat.ble args.length 287=true) (hl:Nat.blt args.length 1000=true) {c:Code} (hc:Tryz.f21.body=some c) (hk:okC 287 c=true) (h:V (EE ⟨w.w,[]⟩) 287 c (vFin (EE ⟨w.w,[]⟩) [.tmp 2] R) (initE args 0) σ):ACalls (EE w) 21 args σ R:=
 ACalls.of_V' (E:=EE w) (E':=EE ⟨w.w,[]⟩) (n:=287) rfl rfl Tryz.f21 c _ Tryz.func21 hc (by kernel_rfl) (by kernel_rfl) hk hn hl h
theorem of_22 (hn:Nat.ble args.length 20=true) (hl:Nat.blt args.length 1000=true) {c:Code} (hc:Tryz.f22.body=some c) (hk:okC 20 c=true) (h:V (EE ⟨w.w,[]⟩) 20 c (vFin (EE ⟨w.w,[]⟩) [.tmp 4,.tmp 5] R) (initE args 0) σ):ACalls (EE w) 22 args σ R:=
 ACalls.of_V' (E:=EE w) (E':=EE ⟨w.w,[]⟩) (n:=20) rfl rfl Tryz.f22 c _ Tryz.func22 hc (by kernel_rfl) (by kernel_rfl) hk hn hl h
theorem of_23 (hn:Nat.ble args.length 39=true) (hl:Nat.blt args.length 1000=true) {c:Code} (hc:Tryz.f23.body=some c) (hk:okC 39 c=true) (h:V (EE ⟨w.w,[]⟩) 39 c (vFin (EE ⟨w.w,[]⟩) [.tmp 4] R) (initE args 0) σ):ACalls (EE w) 23 args σ R:=
 ACalls.of_V' (E:=EE w) (E':=EE ⟨w.w,[]⟩) (n:=39) rfl rfl Tryz.f23 c _ Tryz.func23 hc (by kernel_rfl) (by kernel_rfl) hk hn hl h
theorem of_24 (hn:Nat.ble args.length 19=true) (hl:Nat.blt args.length 1000=true) {c:Code} (hc:Tryz.f24.body=some c) (hk:okC 19 c=true) (h:V (EE ⟨w.w,[]⟩) 19 c (vFin (EE ⟨w.w,[]⟩) [.tmp 4] R) (initE args 0) σ):ACalls (EE w) 24 args σ R:=
 ACalls.of_V' (E:=EE w) (E':=EE ⟨w.w,[]⟩) (n:=19) rfl rfl Tryz.f24 c _ Tryz.func24 hc (by kernel_rfl) (by kernel_rfl) hk hn hl h
theorem of_25 (hn:Nat.ble args.length 114=true) (hl:Nat.blt args.length 1000=true) {c:Code} (hc:Tryz.f25.body=some c) (hk:okC 114 c=true) (h:V (EE ⟨w.w,[]⟩) 114 c (vFin (EE ⟨w.w,[]⟩) [.tmp 2] R) (initE args 0) σ):ACalls (EE w) 25 args σ R:=
 ACalls.of_V' (E:=EE w) (E':=EE ⟨w.w,[]⟩) (n:=114) rfl rfl Tryz.f25 c _ Tryz.func25 hc (by kernel_rfl) (by kernel_rfl) hk hn hl h
theorem of_26 (hn:Nat.ble args.length 36=true) (hl:Nat.blt args.length 1000=true) {c:Code} (hc:Tryz.f26.body=some c) (hk:okC 36 c=true) (h:V (EE ⟨w.w,[]⟩) 36 c (vFin (EE ⟨w.w,[]⟩) [.tmp 4,.tmp 5] R) (initE args 0) σ):ACalls (EE w) 26 args σ R:=
 ACalls.of_V' (E:=EE w) (E':=EE ⟨w.w,[]⟩) (n:=36) rfl rfl Tryz.f26 c _ Tryz.func26 hc (by kernel_rfl) (by kernel_rfl) hk hn hl h
theorem of_27 (hn:Nat.ble args.length 39=true) (hl:Nat.blt args.length 1000=true) {c:Code} (hc:Tryz.f27.body=some c) (hk:okC 39 c=true) (h:V (EE ⟨w.w,[]⟩) 39 c (vFin (EE ⟨w.w,[]⟩) [.tmp 6] R) (initE args 0) σ):ACalls (EE w) 27 args σ R:=
 ACalls.of_V' (E:=EE w) (E':=EE ⟨w.w,[]⟩) (n:=39) rfl rfl Tryz.f27 c _ Tryz.func27 hc (by kernel_rfl) (by kernel_rfl) hk hn hl h
theorem of_28 (hn:Nat.ble args.length 21=true) (hl:Nat.blt args.length 1000=true) {c:Code} (hc:Tryz.f28.body=some c) (hk:okC 21 c=true) (h:V (EE ⟨w.w,[]⟩) 21 c (vFin (EE ⟨w.w,[]⟩) [.tmp 4] R) (initE args 0) σ):ACalls (EE w) 28 args σ R:=
 ACalls.of_V' (E:=EE w) (E':=EE ⟨w.w,[]⟩) (n:=21) rfl rfl Tryz.f28 c _ Tryz.func28 hc (by kernel_rfl) (by kernel_rfl) hk hn hl h
theorem of_29 (hn:Nat.ble args.length 29=true) (hl:Nat.blt args.length 1000=true) {c:Code} (hc:Tryz.f29.body=some c) (hk:okC 29 c=true) (h:V (EE ⟨w.w,[]⟩) 29 c (vFin (EE ⟨w.w,[]⟩) [.tmp 2] R) (initE args 0) σ):ACalls (EE w) 29 args σ R:=
 ACalls.of_V' (E:=EE w) (E':=EE ⟨w.w,[]⟩) (n:=29) rfl rfl Tryz.f29 c _ Tryz.func29 hc (by kernel_rfl) (by kernel_rfl) hk hn hl h
theorem of_30 (hn:Nat.ble args.length 72=true) (hl:Nat.blt args.length 1000=true) {c:Code} (hc:Tryz.f30.body=some c) (hk:okC 72 c=true) (h:V (EE ⟨w.w,[]⟩) 72 c (vFin (EE ⟨w.w,[]⟩) [.tmp 10] R) (initE args 0) σ):ACalls (EE w) 30 args σ R:=
 ACalls.of_V' (E:=EE w) (E':=EE ⟨w.w,[]⟩) (n:=72) rfl rfl Tryz.f30 c _ Tryz.func30 hc (by kernel_rfl) (by kernel_rfl) hk hn hl h
theorem of_31 (hn:Nat.ble args.length 19=true) (hl:Nat.blt args.length 1000=true) {c:Code} (hc:Tryz.f31.body=some c) (hk:okC 19 c=true) (h:V (EE ⟨w.w,[]⟩) 19 c (vFin (EE ⟨w.w,[]⟩) [] R) (initE args 0) σ):ACalls (EE w) 31 args σ R:=
 ACalls.of_V' (E:=EE w) (E':=EE ⟨w.w,[]⟩) (n:=19) rfl rfl Tryz.f31 c _ Tryz.func31 hc (by kernel_rfl) (by kernel_rfl) hk hn hl h
theorem of_32 (hn:Nat.ble args.length 9=true) (hl:Nat.blt args.length 1000=true) {c:Code} (hc:Tryz.f32.body=some c) (hk:okC 9 c=true) (h:V (EE ⟨w.w,[]⟩) 9 c (vFin (EE ⟨w.w,[]⟩) [.tmp 2] R) (initE args 0) σ):ACalls (EE w) 32 args σ R:=
 ACalls.of_V' (E:=EE w) (E':=EE ⟨w.w,[]⟩) (n:=9) rfl rfl Tryz.f32 c _ Tryz.func32 hc (by kernel_rfl) (by kernel_rfl) hk hn hl h
theorem of_33 (hn:Nat.ble args.length 43=true) (hl:Nat.blt args.length 1000=true) {c:Code} (hc:Tryz.f33.body=some c) (hk:okC 43 c=true) (h:V (EE ⟨w.w,[]⟩) 43 c (vFin (EE ⟨w.w,[]⟩) [.tmp 2] R) (initE args 0) σ):ACalls (EE w) 33 args σ R:=
 ACalls.of_V' (E:=EE w) (E':=EE ⟨w.w,[]⟩) (n:=43) rfl rfl Tryz.f33 c _ Tryz.func33 hc (by kernel_rfl) (by kernel_rfl) hk hn hl h
theorem of_34 (hn:Nat.ble args.length 59=true) (hl:Nat.blt args.length 1000=true) {c:Code} (hc:Tryz.f34.body=some c) (hk:okC 59 c=true) (h:V (EE ⟨w.w,[]⟩) 59 c (vFin (EE ⟨w.w,[]⟩) [.cell 8 91] R) (initE args 0) σ):ACalls (EE w) 34 args σ R:=
 ACalls.of_V' (E:=EE w) (E':=EE ⟨w.w,[]⟩) (n:=59) rfl rfl Tryz.f34 c _ Tryz.func34 hc (by kernel_rfl) (by kernel_rfl) hk hn hl h
theorem of_35 (hn:Nat.ble args.length 29=true) (hl:Nat.blt args.length 1000=true) {c:Code} (hc:Tryz.f35.body=some c) (hk:okC 29 c=true) (h:V (EE ⟨w.w,[]⟩) 29 c (vFin (EE ⟨w.w,[]⟩) [] R) (initE args 0) σ):ACalls (EE w) 35 args σ R:=
 ACalls.of_V' (E:=EE w) (E':=EE ⟨w.w,[]⟩) (n:=29) rfl rfl Tryz.f35 c _ Tryz.func35 hc (by kernel_rfl) (by kernel_rfl) hk hn hl h
theorem of_36 (hn:Nat.ble args.length 12=true) (hl:Nat.blt args.length 1000=true) {c:Code} (hc:Tryz.f36.body=some c) (hk:okC 12 c=true) (h:V (EE ⟨w.w,[]⟩) 12 c (vFin (EE ⟨w.w,[]⟩) [.tmp 4] R) (initE args 0) σ):ACalls (EE w) 36 args σ R:=
 ACalls.of_V' (E:=EE w) (E':=EE ⟨w.w,[]⟩) (n:=12) rfl rfl Tryz.f36 c _ Tryz.func36 hc (by kernel_rfl) (by kernel_rfl) hk hn hl h
theorem of_37 (hn:Nat.ble args.length 9=true) (hl:Nat.blt args.length 1000=true) {c:Code} (hc:Tryz.f37.body=some c) (hk:okC 9 c=true) (h:V (EE ⟨w.w,[]⟩) 9 c (vFin (EE ⟨w.w,[]⟩) [.tmp 2] R) (initE args 0) σ):ACalls (EE w) 37 args σ R:=
 ACalls.of_V' (E:=EE w) (E':=EE ⟨w.w,[]⟩) (n:=9) rfl rfl Tryz.f37 c _ Tryz.func37 hc (by kernel_rfl) (by kernel_rfl) hk hn hl h
theorem of_38 (hn:Nat.ble args.length 9=true) (hl:Nat.blt args.length 1000=true) {c:Code} (hc:Tryz.f38.body=some c) (hk:okC 9 c=true) (h:V (EE ⟨w.w,[]⟩) 9 c (vFin (EE ⟨w.w,[]⟩) [.tmp 2] R) (initE args 0) σ):ACalls (EE w) 38 args σ R:=
 ACalls.of_V' (E:=EE w) (E':=EE ⟨w.w,[]⟩) (n:=9) rfl rfl Tryz.f38 c _ Tryz.func38 hc (by kernel_rfl) (by kernel_rfl) hk hn hl h
theorem of_39 (hn:Nat.ble args.length 29=true) (hl:Nat.blt args.length 1000=true) {c:Code} (hc:Tryz.f39.body=some c) (hk:okC 29 c=true) (h:V (EE ⟨w.w,[]⟩) 29 c (vFin (EE ⟨w.w,[]⟩) [] R) (initE args 0) σ):ACalls (EE w) 39 args σ R:=
 ACalls.of_V' (E:=EE w) (E':=EE ⟨w.w,[]⟩) (n:=29) rfl rfl Tryz.f39 c _ Tryz.func39 hc (by kernel_rfl) (by kernel_rfl) hk hn hl h
theorem of_40 (hn:Nat.ble args.length 22=true) (hl:Nat.blt args.length 1000=true) {c:Code} (hc:Tryz.f40.body=some c) (hk:okC 22 c=true) (h:V (EE ⟨w.w,[]⟩) 22 c (vFin (EE ⟨w.w,[]⟩) [.tmp 2] R) (initE args 0) σ):ACalls (EE w) 40 args σ R:=
 ACalls.of_V' (E:=EE w) (E':=EE ⟨w.w,[]⟩) (n:=22) rfl rfl Tryz.f40 c _ Tryz.func40 hc (by kernel_rfl) (by kernel_rfl) hk hn hl h
theorem of_41 (hn:Nat.ble args.length 9=true) (hl:Nat.blt args.length 1000=true) {c:Code} (hc:Tryz.f41.body=some c) (hk:okC 9 c=true) (h:V (EE ⟨w.w,[]⟩) 9 c (vFin (EE ⟨w.w,[]⟩) [] R) (initE args 0) σ):ACalls (EE w) 41 args σ R:=
 ACalls.of_V' (E:=EE w) (E':=EE ⟨w.w,[]⟩) (n:=9) rfl rfl Tryz.f41 c _ Tryz.func41 hc (by kernel_rfl) (by kernel_rfl) hk hn hl h
theorem of_42 (hn:Nat.ble args.length 11=true) (hl:Nat.blt args.length 1000=true) {c:Code} (hc:Tryz.f42.body=some c) (hk:okC 11 c=true) (h:V (EE ⟨w.w,[]⟩) 11 c (vFin (EE ⟨w.w,[]⟩) [.tmp 4] R) (initE args 0) σ):ACalls (EE w) 42 args σ R:=
 ACalls.of_V' (E:=EE w) (E':=EE ⟨w.w,[]⟩) (n:=11) rfl rfl Tryz.f42 c _ Tryz.func42 hc (by kernel_rfl) (by kernel_rfl) hk hn hl h
theorem of_43 (hn:Nat.ble args.length 42=true) (hl:Nat.blt args.length 1000=true) {c:Code} (hc:Tryz.f43.body=some c) (hk:okC 42 c=true) (h:V (EE ⟨w.w,[]⟩) 42 c (vFin (EE ⟨w.w,[]⟩) [] R) (initE args 0) σ):ACalls (EE w) 43 args σ R:=
 ACalls.of_V' (E:=EE w) (E':=EE ⟨w.w,[]⟩) (n:=42) rfl rfl Tryz.f43 c _ Tryz.func43 hc (by kernel_rfl) (by kernel_rfl) hk hn hl h
theorem of_44 (hn:Nat.ble args.length 79=true) (hl:Nat.blt args.length 1000=true) {c:Code} (hc:Tryz.f44.body=some c) (hk:okC 79 c=true) (h:V (EE ⟨w.w,[]⟩) 79 c (vFin (EE ⟨w.w,[]⟩) [.tmp 4] R) (initE args 0) σ):ACalls (EE w) 44 args σ R:=
 ACalls.of_V' (E:=EE w) (E':=EE ⟨w.w,[]⟩) (n:=79) rfl rfl Tryz.f44 c _ Tryz.func44 hc (by kernel_rfl) (by kernel_rfl) hk hn hl h
theorem of_45 (hn:Nat.ble args.length 29=true) (hl:Nat.blt args.length 1000=true) {c:Code} (hc:Tryz.f45.body=some c) (hk:okC 29 c=true) (h:V (EE ⟨w.w,[]⟩) 29 c (vFin (EE ⟨w.w,[]⟩) [.tmp 2] R) (initE args 0) σ):ACalls (EE w) 45 args σ R:=
 ACalls.of_V' (E:=EE w) (E':=EE ⟨w.w,[]⟩) (n:=29) rfl rfl Tryz.f45 c _ Tryz.func45 hc (by kernel_rfl) (by kernel_rfl) hk hn hl h
theorem of_46 (hn:Nat.ble args.length 40=true) (hl:Nat.blt args.length 1000=true) {c:Code} (hc:Tryz.f46.body=some c) (hk:okC 40 c=true) (h:V (EE ⟨w.w,[]⟩) 40 c (vFin (EE ⟨w.w,[]⟩) [.tmp 4,.tmp 5] R) (initE args 0) σ):ACalls (EE w) 46 args σ R:=
 ACalls.of_V' (E:=EE w) (E':=EE ⟨w.w,[]⟩) (n:=40) rfl rfl Tryz.f46 c _ Tryz.func46 hc (by kernel_rfl) (by kernel_rfl) hk hn hl h
theorem of_47 (hn:Nat.ble args.length 20=true) (hl:Nat.blt args.length 1000=true) {c:Code} (hc:Tryz.f47.body=some c) (hk:okC 20 c=true) (h:V (EE ⟨w.w,[]⟩) 20 c (vFin (EE ⟨w.w,[]⟩) [.tmp 2] R) (initE args 0) σ):ACalls (EE w) 47 args σ R:=
 ACalls.of_V' (E:=EE w) (E':=EE ⟨w.w,[]⟩) (n:=20) rfl rfl Tryz.f47 c _ Tryz.func47 hc (by kernel_rfl) (by kernel_rfl) hk hn hl h
theorem of_48 (hn:Nat.ble args.length 20=true) (hl:Nat.blt args.length 1000=true) {c:Code} (hc:Tryz.f48.body=some c) (hk:okC 20 c=true) (h:V (EE ⟨w.w,[]⟩) 20 c (vFin (EE ⟨w.w,[]⟩) [.tmp 2] R) (initE args 0) σ):ACalls (EE w) 48 args σ R:=
 ACalls.of_V' (E:=EE w) (E':=EE ⟨w.w,[]⟩) (n:=20) rfl rfl Tryz.f48 c _ Tryz.func48 hc (by kernel_rfl) (by kernel_rfl) hk hn hl h
theorem of_49 (hn:Nat.ble args.length 50=true) (hl:Nat.blt args.length 1000=true) {c:Code} (hc:Tryz.f49.body=some c) (hk:okC 50 c=true) (h:V (EE ⟨w.w,[]⟩) 50 c (vFin (EE ⟨w.w,[]⟩) [.tmp 2] R) (initE args 0) σ):ACalls (EE w) 49 args σ R:=
 ACalls.of_V' (E:=EE w) (E':=EE ⟨w.w,[]⟩) (n:=50) rfl rfl Tryz.f49 c _ Tryz.func49 hc (by kernel_rfl) (by kernel_rfl) hk hn hl h
theorem of_50 (hn:Nat.ble args.length 20=true) (hl:Nat.blt args.length 1000=true) {c:Code} (hc:Tryz.f50.body=some c) (hk:okC 20 c=true) (h:V (EE ⟨w.w,[]⟩) 20 c (vFin (EE ⟨w.w,[]⟩) [.tmp 2] R) (initE args 0) σ):ACalls (EE w) 50 args σ R:=
 ACalls.of_V' (E:=EE w) (E':=EE ⟨w.w,[]⟩) (n:=20) rfl rfl Tryz.f50 c _ Tryz.func50 hc (by kernel_rfl) (by kernel_rfl) hk hn hl h
theorem of_51 (hn:Nat.ble args.length 46=true) (hl:Nat.blt args.length 1000=true) {c:Code} (hc:Tryz.f51.body=some c) (hk:okC 46 c=true) (h:V (EE ⟨w.w,[]⟩) 46 c (vFin (EE ⟨w.w,[]⟩) [.tmp 2] R) (initE args 0) σ):ACalls (EE w) 51 args σ R:=
 ACalls.of_V' (E:=EE w) (E':=EE ⟨w.w,[]⟩) (n:=46) rfl rfl Tryz.f51 c _ Tryz.func51 hc (by kernel_rfl) (by kernel_rfl) hk hn hl h
theorem of_52 (hn:Nat.ble args.length 19=true) (hl:Nat.blt args.length 1000=true) {c:Code} (hc:Tryz.f52.body=some c) (hk:okC 19 c=true) (h:V (EE ⟨w.w,[]⟩) 19 c (vFin (EE ⟨w.w,[]⟩) [.tmp 2] R) (initE args 0) σ):ACalls (EE w) 52 args σ R:=
 ACalls.of_V' (E:=EE w) (E':=EE ⟨w.w,[]⟩) (n:=19) rfl rfl Tryz.f52 c _ Tryz.func52 hc (by kernel_rfl) (by kernel_rfl) hk hn hl h
theorem of_53 (hn:Nat.ble args.length 52=true) (hl:Nat.blt args.length 1000=true) {c:Code} (hc:Tryz.f53.body=some c) (hk:okC 52 c=true) (h:V (EE ⟨w.w,[]⟩) 52 c (vFin (EE ⟨w.w,[]⟩) [.tmp 6] R) (initE args 0) σ):ACalls (EE w) 53 args σ R:=
 ACalls.of_V' (E:=EE w) (E':=EE ⟨w.w,[]⟩) (n:=52) rfl rfl Tryz.f53 c _ Tryz.func53 hc (by kernel_rfl) (by kernel_rfl) hk hn hl h
theorem of_54 (hn:Nat.ble args.length 227=true) (hl:Nat.blt args.length 1000=true) {c:Code} (hc:Tryz.f54.body=some c) (hk:okC 227 c=true) (h:V (EE ⟨w.w,[]⟩) 227 c (vFin (EE ⟨w.w,[]⟩) [.tmp 4] R) (initE args 0) σ):ACalls (EE w) 54 args σ R:=
 ACalls.of_V' (E:=EE w) (E':=EE ⟨w.w,[]⟩) (n:=227) rfl rfl Tryz.f54 c _ Tryz.func54 hc (by kernel_rfl) (by kernel_rfl) hk hn hl h
theorem of_55 (hn:Nat.ble args.length 14=true) (hl:Nat.blt args.length 1000=true) {c:Code} (hc:Tryz.f55.body=some c) (hk:okC 14 c=true) (h:V (EE ⟨w.w,[]⟩) 14 c (vFin (EE ⟨w.w,[]⟩) [.tmp 4] R) (initE args 0) σ):ACalls (EE w) 55 args σ R:=
 ACalls.of_V' (E:=EE w) (E':=EE ⟨w.w,[]⟩) (n:=14) rfl rfl Tryz.f55 c _ Tryz.func55 hc (by kernel_rfl) (by kernel_rfl) hk hn hl h
theorem of_61 (hn:Nat.ble args.length 56=true) (hl:Nat.blt args.length 1000=true) {c:Code} (hc:Tryz.f61.body=some c) (hk:okC 56 c=true) (h:V (EE ⟨w.w,[]⟩) 56 c (vFin (EE ⟨w.w,[]⟩) [.tmp 2] R) (initE args 0) σ):ACalls (EE w) 61 args σ R:=
 ACalls.of_V' (E:=EE w) (E':=EE ⟨w.w,[]⟩) (n:=56) rfl rfl Tryz.f61 c _ Tryz.func61 hc (by kernel_rfl) (by kernel_rfl) hk hn hl h
theorem of_62 (hn:Nat.ble args.length 27=true) (hl:Nat.blt args.length 1000=true) {c:Code} (hc:Tryz.f62.body=some c) (hk:okC 27 c=true) (h:V (EE ⟨w.w,[]⟩) 27 c (vFin (EE ⟨w.w,[]⟩) [.tmp 6] R) (initE args 0) σ):ACalls (EE w) 62 args σ R:=
 ACalls.of_V' (E:=EE w) (E':=EE ⟨w.w,[]⟩) (n:=27) rfl rfl Tryz.f62 c _ Tryz.func62 hc (by kernel_rfl) (by kernel_rfl) hk hn hl h
theorem of_63 (hn:Nat.ble args.length 4=true) (hl:Nat.blt args.length 1000=true) {c:Code} (hc:Tryz.f63.body=some c) (hk:okC 4 c=true) (h:V (EE ⟨w.w,[]⟩) 4 c (vFin (EE ⟨w.w,[]⟩) [.tmp 2] R) (initE args 0) σ):ACalls (EE w) 63 args σ R:=
 ACalls.of_V' (E:=EE w) (E':=EE ⟨w.w,[]⟩) (n:=4) rfl rfl Tryz.f63 c _ Tryz.func63 hc (by kernel_rfl) (by kernel_rfl) hk hn hl h
theorem of_64 (hn:Nat.ble args.length 11=true) (hl:Nat.blt args.length 1000=true) {c:Code} (hc:Tryz.f64.body=some c) (hk:okC 11 c=true) (h:V (EE ⟨w.w,[]⟩) 11 c (vFin (EE ⟨w.w,[]⟩) [.tmp 2] R) (initE args 0) σ):ACalls (EE w) 64 args σ R:=
 ACalls.of_V' (E:=EE w) (E':=EE ⟨w.w,[]⟩) (n:=11) rfl rfl Tryz.f64 c _ Tryz.func64 hc (by kernel_rfl) (by kernel_rfl) hk hn hl h
theorem of_65 (hn:Nat.ble args.length 9=true) (hl:Nat.blt args.length 1000=true) {c:Code} (hc:Tryz.f65.body=some c) (hk:okC 9 c=true) (h:V (EE ⟨w.w,[]⟩) 9 c (vFin (EE ⟨w.w,[]⟩) [.tmp 4] R) (initE args 0) σ):ACalls (EE w) 65 args σ R:=
 ACalls.of_V' (E:=EE w) (E':=EE ⟨w.w,[]⟩) (n:=9) rfl rfl Tryz.f65 c _ Tryz.func65 hc (by kernel_rfl) (by kernel_rfl) hk hn hl h
theorem of_66 (hn:Nat.ble args.length 2=true) (hl:Nat.blt args.length 1000=true) {c:Code} (hc:Tryz.f66.body=some c) (hk:okC 2 c=true) (h:V (EE ⟨w.w,[]⟩) 2 c (vFin (EE ⟨w.w,[]⟩) [.tmp 0] R) (initE args 0) σ):ACalls (EE w) 66 args σ R:=
 ACalls.of_V' (E:=EE w) (E':=EE ⟨w.w,[]⟩) (n:=2) rfl rfl Tryz.f66 c _ Tryz.func66 hc (by kernel_rfl) (by kernel_rfl) hk hn hl h
theorem of_67 (hn:Nat.ble args.length 9=true) (hl:Nat.blt args.length 1000=true) {c:Code} (hc:Tryz.f67.body=some c) (hk:okC 9 c=true) (h:V (EE ⟨w.w,[]⟩) 9 c (vFin (EE ⟨w.w,[]⟩) [.tmp 2] R) (initE args 0) σ):ACalls (EE w) 67 args σ R:=
 ACalls.of_V' (E:=EE w) (E':=EE ⟨w.w,[]⟩) (n:=9) rfl rfl Tryz.f67 c _ Tryz.func67 hc (by kernel_rfl) (by kernel_rfl) hk hn hl h
theorem of_68 (hn:Nat.ble args.length 18=true) (hl:Nat.blt args.length 1000=true) {c:Code} (hc:Tryz.f68.body=some c) (hk:okC 18 c=true) (h:V (EE ⟨w.w,[]⟩) 18 c (vFin (EE ⟨w.w,[]⟩) [.tmp 4,.tmp 5] R) (initE args 0) σ):ACalls (EE w) 68 args σ R:=
 ACalls.of_V' (E:=EE w) (E':=EE ⟨w.w,[]⟩) (n:=18) rfl rfl Tryz.f68 c _ Tryz.func68 hc (by kernel_rfl) (by kernel_rfl) hk hn hl h
theorem of_69 (hn:Nat.ble args.length 29=true) (hl:Nat.blt args.length 1000=true) {c:Code} (hc:Tryz.f69.body=some c) (hk:okC 29 c=true) (h:V (EE ⟨w.w,[]⟩) 29 c (vFin (EE ⟨w.w,[]⟩) [.tmp 6] R) (initE args 0) σ):ACalls (EE w) 69 args σ R:=
 ACalls.of_V' (E:=EE w) (E':=EE ⟨w.w,[]⟩) (n:=29) rfl rfl Tryz.f69 c _ Tryz.func69 hc (by kernel_rfl) (by kernel_rfl) hk hn hl h
theorem of_71 (hn:Nat.ble args.length 49=true) (hl:Nat.blt args.length 1000=true) {c:Code} (hc:Tryz.f71.body=some c) (hk:okC 49 c=true) (h:V (EE ⟨w.w,[]⟩) 49 c (vFin (EE ⟨w.w,[]⟩) [.tmp 2] R) (initE args 0) σ):ACalls (EE w) 71 args σ R:=
 ACalls.of_V' (E:=EE w) (E':=EE ⟨w.w,[]⟩) (n:=49) rfl rfl Tryz.f71 c _ Tryz.func71 hc (by kernel_rfl) (by kernel_rfl) hk hn hl h
theorem of_72 (hn:Nat.ble args.length 17=true) (hl:Nat.blt args.length 1000=true) {c:Code} (hc:Tryz.f72.body=some c) (hk:okC 17 c=true) (h:V (EE ⟨w.w,[]⟩) 17 c (vFin (EE ⟨w.w,[]⟩) [.tmp 2] R) (initE args 0) σ):ACalls (EE w) 72 args σ R:=
 ACalls.of_V' (E:=EE w) (E':=EE ⟨w.w,[]⟩) (n:=17) rfl rfl Tryz.f72 c _ Tryz.func72 hc (by kernel_rfl) (by kernel_rfl) hk hn hl h
theorem of_73 (hn:Nat.ble args.length 18=true) (hl:Nat.blt args.length 1000=true) {c:Code} (hc:Tryz.f73.body=some c) (hk:okC 18 c=true) (h:V (EE ⟨w.w,[]⟩) 18 c (vFin (EE ⟨w.w,[]⟩) [.tmp 4] R) (initE args 0) σ):ACalls (EE w) 73 args σ R:=
 ACalls.of_V' (E:=EE w) (E':=EE ⟨w.w,[]⟩) (n:=18) rfl rfl Tryz.f73 c _ Tryz.func73 hc (by kernel_rfl) (by kernel_rfl) hk hn hl h
theorem of_74 (hn:Nat.ble args.length 2=true) (hl:Nat.blt args.length 1000=true) {c:Code} (hc:Tryz.f74.body=some c) (hk:okC 2 c=true) (h:V (EE ⟨w.w,[]⟩) 2 c (vFin (EE ⟨w.w,[]⟩) [.tmp 0] R) (initE args 0) σ):ACalls (EE w) 74 args σ R:=
 ACalls.of_V' (E:=EE w) (E':=EE ⟨w.w,[]⟩) (n:=2) rfl rfl Tryz.f74 c _ Tryz.func74 hc (by kernel_rfl) (by kernel_rfl) hk hn hl h
theorem of_75 (hn:Nat.ble args.length 9=true) (hl:Nat.blt args.length 1000=true) {c:Code} (hc:Tryz.f75.body=some c) (hk:okC 9 c=true) (h:V (EE ⟨w.w,[]⟩) 9 c (vFin (EE ⟨w.w,[]⟩) [.tmp 2] R) (initE args 0) σ):ACalls (EE w) 75 args σ R:=
 ACalls.of_V' (E:=EE w) (E':=EE ⟨w.w,[]⟩) (n:=9) rfl rfl Tryz.f75 c _ Tryz.func75 hc (by kernel_rfl) (by kernel_rfl) hk hn hl h
theorem of_76 (hn:Nat.ble args.length 19=true) (hl:Nat.blt args.length 1000=true) {c:Code} (hc:Tryz.f76.body=some c) (hk:okC 19 c=true) (h:V (EE ⟨w.w,[]⟩) 19 c (vFin (EE ⟨w.w,[]⟩) [.tmp 4] R) (initE args 0) σ):ACalls (EE w) 76 args σ R:=
 ACalls.of_V' (E:=EE w) (E':=EE ⟨w.w,[]⟩) (n:=19) rfl rfl Tryz.f76 c _ Tryz.func76 hc (by kernel_rfl) (by kernel_rfl) hk hn hl h
theorem of_77 (hn:Nat.ble args.length 28=true) (hl:Nat.blt args.length 1000=true) {c:Code} (hc:Tryz.f77.body=some c) (hk:okC 28 c=true) (h:V (EE ⟨w.w,[]⟩) 28 c (vFin (EE ⟨w.w,[]⟩) [.tmp 4,.tmp 5] R) (initE args 0) σ):ACalls (EE w) 77 args σ R:=
 ACalls.of_V' (E:=EE w) (E':=EE ⟨w.w,[]⟩) (n:=28) rfl rfl Tryz.f77 c _ Tryz.func77 hc (by kernel_rfl) (by kernel_rfl) hk hn hl h
theorem of_78 (hn:Nat.ble args.length 23=true) (hl:Nat.blt args.length 1000=true) {c:Code} (hc:Tryz.f78.body=some c) (hk:okC 23 c=true) (h:V (EE ⟨w.w,[]⟩) 23 c (vFin (EE ⟨w.w,[]⟩) [.tmp 4] R) (initE args 0) σ):ACalls (EE w) 78 args σ R:=
 ACalls.of_V' (E:=EE w) (E':=EE ⟨w.w,[]⟩) (n:=23) rfl rfl Tryz.f78 c _ Tryz.func78 hc (by kernel_rfl) (by kernel_rfl) hk hn hl h
theorem of_79 (hn:Nat.ble args.length 26=true) (hl:Nat.blt args.length 1000=true) {c:Code} (hc:Tryz.f79.body=some c) (hk:okC 26 c=true) (h:V (EE ⟨w.w,[]⟩) 26 c (vFin (EE ⟨w.w,[]⟩) [.tmp 2] R) (initE args 0) σ):ACalls (EE w) 79 args σ R:=
 ACalls.of_V' (E:=EE w) (E':=EE ⟨w.w,[]⟩) (n:=26) rfl rfl Tryz.f79 c _ Tryz.func79 hc (by kernel_rfl) (by kernel_rfl) hk hn hl h
theorem of_80 (hn:Nat.ble args.length 22=true) (hl:Nat.blt args.length 1000=true) {c:Code} (hc:Tryz.f80.body=some c) (hk:okC 22 c=true) (h:V (EE ⟨w.w,[]⟩) 22 c (vFin (EE ⟨w.w,[]⟩) [.tmp 2] R) (initE args 0) σ):ACalls (EE w) 80 args σ R:=
 ACalls.of_V' (E:=EE w) (E':=EE ⟨w.w,[]⟩) (n:=22) rfl rfl Tryz.f80 c _ Tryz.func80 hc (by kernel_rfl) (by kernel_rfl) hk hn hl h
theorem of_81 (hn:Nat.ble args.length 6=true) (hl:Nat.blt args.length 1000=true) {c:Code} (hc:Tryz.f81.body=some c) (hk:okC 6 c=true) (h:V (EE ⟨w.w,[]⟩) 6 c (vFin (EE ⟨w.w,[]⟩) [.tmp 2] R) (initE args 0) σ):ACalls (EE w) 81 args σ R:=
 ACalls.of_V' (E:=EE w) (E':=EE ⟨w.w,[]⟩) (n:=6) rfl rfl Tryz.f81 c _ Tryz.func81 hc (by kernel_rfl) (by kernel_rfl) hk hn hl h
theorem of_82 (hn:Nat.ble args.length 13=true) (hl:Nat.blt args.length 1000=true) {c:Code} (hc:Tryz.f82.body=some c) (hk:okC 13 c=true) (h:V (EE ⟨w.w,[]⟩) 13 c (vFin (EE ⟨w.w,[]⟩) [.tmp 4] R) (initE args 0) σ):ACalls (EE w) 82 args σ R:=
 ACalls.of_V' (E:=EE w) (E':=EE ⟨w.w,[]⟩) (n:=13) rfl rfl Tryz.f82 c _ Tryz.func82 hc (by kernel_rfl) (by kernel_rfl) hk hn hl h
theorem of_83 (hn:Nat.ble args.length 149=true) (hl:Nat.blt args.length 1000=true) {c:Code} (hc:Tryz.f83.body=some c) (hk:okC 149 c=true) (h:V (EE ⟨w.w,[]⟩) 149 c (vFin (EE ⟨w.w,[]⟩) [.tmp 4] R) (initE args 0) σ):ACalls (EE w) 83 args σ R:=
 ACalls.of_V' (E:=EE w) (E':=EE ⟨w.w,[]⟩) (n:=149) rfl rfl Tryz.f83 c _ Tryz.func83 hc (by kernel_rfl) (by kernel_rfl) hk hn hl h
theorem of_84 (hn:Nat.ble args.length 84=true) (hl:Nat.blt args.length 1000=true) {c:Code} (hc:Tryz.f84.body=some c) (hk:okC 84 c=true) (h:V (EE ⟨w.w,[]⟩) 84 c (vFin (EE ⟨w.w,[]⟩) [.tmp 4] R) (initE args 0) σ):ACalls (EE w) 84 args σ R:=
 ACalls.of_V' (E:=EE w) (E':=EE ⟨w.w,[]⟩) (n:=84) rfl rfl Tryz.f84 c _ Tryz.func84 hc (by kernel_rfl) (by kernel_rfl) hk hn hl h
theorem of_88 (hn:Nat.ble args.length 78=true) (hl:Nat.blt args.length 1000=true) {c:Code} (hc:Tryz.f88.body=some c) (hk:okC 78 c=true) (h:V (EE ⟨w.w,[]⟩) 78 c (vFin (EE ⟨w.w,[]⟩) [.tmp 2] R) (initE args 0) σ):ACalls (EE w) 88 args σ R:=
 ACalls.of_V' (E:=EE w) (E':=EE ⟨w.w,[]⟩) (n:=78) rfl rfl Tryz.f88 c _ Tryz.func88 hc (by kernel_rfl) (by kernel_rfl) hk hn hl h
theorem of_90 (hn:Nat.ble args.length 16=true) (hl:Nat.blt args.length 1000=true) {c:Code} (hc:Tryz.f90.body=some c) (hk:okC 16 c=true) (h:V (EE ⟨w.w,[]⟩) 16 c (vFin (EE ⟨w.w,[]⟩) [.tmp 2] R) (initE args 0) σ):ACalls (EE w) 90 args σ R:=
 ACalls.of_V' (E:=EE w) (E':=EE ⟨w.w,[]⟩) (n:=16) rfl rfl Tryz.f90 c _ Tryz.func90 hc (by kernel_rfl) (by kernel_rfl) hk hn hl h
theorem of_91 (hn:Nat.ble args.length 19=true) (hl:Nat.blt args.length 1000=true) {c:Code} (hc:Tryz.f91.body=some c) (hk:okC 19 c=true) (h:V (EE ⟨w.w,[]⟩) 19 c (vFin (EE ⟨w.w,[]⟩) [.tmp 4] R) (initE args 0) σ):ACalls (EE w) 91 args σ R:=
 ACalls.of_V' (E:=EE w) (E':=EE ⟨w.w,[]⟩) (n:=19) rfl rfl Tryz.f91 c _ Tryz.func91 hc (by kernel_rfl) (by kernel_rfl) hk hn hl h
theorem of_92 (hn:Nat.ble args.length 44=true) (hl:Nat.blt args.length 1000=true) {c:Code} (hc:Tryz.f92.body=some c) (hk:okC 44 c=true) (h:V (EE ⟨w.w,[]⟩) 44 c (vFin (EE ⟨w.w,[]⟩) [.tmp 4,.tmp 5,.tmp 6] R) (initE args 0) σ):ACalls (EE w) 92 args σ R:=
 ACalls.of_V' (E:=EE w) (E':=EE ⟨w.w,[]⟩) (n:=44) rfl rfl Tryz.f92 c _ Tryz.func92 hc (by kernel_rfl) (by kernel_rfl) hk hn hl h
theorem of_93 (hn:Nat.ble args.length 10=true) (hl:Nat.blt args.length 1000=true) {c:Code} (hc:Tryz.f93.body=some c) (hk:okC 10 c=true) (h:V (EE ⟨w.w,[]⟩) 10 c (vFin (EE ⟨w.w,[]⟩) [.tmp 2] R) (initE args 0) σ):ACalls (EE w) 93 args σ R:=
 ACalls.of_V' (E:=EE w) (E':=EE ⟨w.w,[]⟩) (n:=10) rfl rfl Tryz.f93 c _ Tryz.func93 hc (by kernel_rfl) (by kernel_rfl) hk hn hl h
theorem of_94 (hn:Nat.ble args.length 61=true) (hl:Nat.blt args.length 1000=true) {c:Code} (hc:Tryz.f94.body=some c) (hk:okC 61 c=true) (h:V (EE ⟨w.w,[]⟩) 61 c (vFin (EE ⟨w.w,[]⟩) [.tmp 4] R) (initE args 0) σ):ACalls (EE w) 94 args σ R:=
 ACalls.of_V' (E:=EE w) (E':=EE ⟨w.w,[]⟩) (n:=61) rfl rfl Tryz.f94 c _ Tryz.func94 hc (by kernel_rfl) (by kernel_rfl) hk hn hl h
theorem of_95 (hn:Nat.ble args.length 80=true) (hl:Nat.blt args.length 1000=true) {c:Code} (hc:Tryz.f95.body=some c) (hk:okC 80 c=true) (h:V (EE ⟨w.w,[]⟩) 80 c (vFin (EE ⟨w.w,[]⟩) [.tmp 2] R) (initE args 0) σ):ACalls (EE w) 95 args σ R:=
 ACalls.of_V' (E:=EE w) (E':=EE ⟨w.w,[]⟩) (n:=80) rfl rfl Tryz.f95 c _ Tryz.func95 hc (by kernel_rfl) (by kernel_rfl) hk hn hl h
theorem of_98 (hn:Nat.ble args.length 9=true) (hl:Nat.blt args.length 1000=true) {c:Code} (hc:Tryz.f98.body=some c) (hk:okC 9 c=true) (h:V (EE ⟨w.w,[]⟩) 9 c (vFin (EE ⟨w.w,[]⟩) [.tmp 2] R) (initE args 0) σ):ACalls (EE w) 98 args σ R:=
 ACalls.of_V' (E:=EE w) (E':=EE ⟨w.w,[]⟩) (n:=9) rfl rfl Tryz.f98 c _ Tryz.func98 hc (by kernel_rfl) (by kernel_rfl) hk hn hl h
theorem of_99 (hn:Nat.ble args.length 27=true) (hl:Nat.blt args.length 1000=true) {c:Code} (hc:Tryz.f99.body=some c) (hk:okC 27 c=true) (h:V (EE ⟨w.w,[]⟩) 27 c (vFin (EE ⟨w.w,[]⟩) [.tmp 6] R) (initE args 0) σ):ACalls (EE w) 99 args σ R:=
 ACalls.of_V' (E:=EE w) (E':=EE ⟨w.w,[]⟩) (n:=27) rfl rfl Tryz.f99 c _ Tryz.func99 hc (by kernel_rfl) (by kernel_rfl) hk hn hl h
theorem of_100 (hn:Nat.ble args.length 4=true) (hl:Nat.blt args.length 1000=true) {c:Code} (hc:Tryz.f100.body=some c) (hk:okC 4 c=true) (h:V (EE ⟨w.w,[]⟩) 4 c (vFin (EE ⟨w.w,[]⟩) [.tmp 2] R) (initE args 0) σ):ACalls (EE w) 100 args σ R:=
 ACalls.of_V' (E:=EE w) (E':=EE ⟨w.w,[]⟩) (n:=4) rfl rfl Tryz.f100 c _ Tryz.func100 hc (by kernel_rfl) (by kernel_rfl) hk hn hl h
theorem of_101 (hn:Nat.ble args.length 26=true) (hl:Nat.blt args.length 1000=true) {c:Code} (hc:Tryz.f101.body=some c) (hk:okC 26 c=true) (h:V (EE ⟨w.w,[]⟩) 26 c (vFin (EE ⟨w.w,[]⟩) [.tmp 2,.tmp 3] R) (initE args 0) σ):ACalls (EE w) 101 args σ R:=
 ACalls.of_V' (E:=EE w) (E':=EE ⟨w.w,[]⟩) (n:=26) rfl rfl Tryz.f101 c _ Tryz.func101 hc (by kernel_rfl) (by kernel_rfl) hk hn hl h
theorem of_102 (hn:Nat.ble args.length 9=true) (hl:Nat.blt args.length 1000=true) {c:Code} (hc:Tryz.f102.body=some c) (hk:okC 9 c=true) (h:V (EE ⟨w.w,[]⟩) 9 c (vFin (EE ⟨w.w,[]⟩) [.tmp 4] R) (initE args 0) σ):ACalls (EE w) 102 args σ R:=
 ACalls.of_V' (E:=EE w) (E':=EE ⟨w.w,[]⟩) (n:=9) rfl rfl Tryz.f102 c _ Tryz.func102 hc (by kernel_rfl) (by kernel_rfl) hk hn hl h
theorem of_103 (hn:Nat.ble args.length 6=true) (hl:Nat.blt args.length 1000=true) {c:Code} (hc:Tryz.f103.body=some c) (hk:okC 6 c=true) (h:V (EE ⟨w.w,[]⟩) 6 c (vFin (EE ⟨w.w,[]⟩) [.tmp 2] R) (initE args 0) σ):ACalls (EE w) 103 args σ R:=
 ACalls.of_V' (E:=EE w) (E':=EE ⟨w.w,[]⟩) (n:=6) rfl rfl Tryz.f103 c _ Tryz.func103 hc (by kernel_rfl) (by kernel_rfl) hk hn hl h
theorem of_104 (hn:Nat.ble args.length 36=true) (hl:Nat.blt args.length 1000=true) {c:Code} (hc:Tryz.f104.body=some c) (hk:okC 36 c=true) (h:V (EE ⟨w.w,[]⟩) 36 c (vFin (EE ⟨w.w,[]⟩) [] R) (initE args 0) σ):ACalls (EE w) 104 args σ R:=
 ACalls.of_V' (E:=EE w) (E':=EE ⟨w.w,[]⟩) (n:=36) rfl rfl Tryz.f104 c _ Tryz.func104 hc (by kernel_rfl) (by kernel_rfl) hk hn hl h
theorem of_105 (hn:Nat.ble args.length 23=true) (hl:Nat.blt args.length 1000=true) {c:Code} (hc:Tryz.f105.body=some c) (hk:okC 23 c=true) (h:V (EE ⟨w.w,[]⟩) 23 c (vFin (EE ⟨w.w,[]⟩) [.cell 2 150] R) (initE args 0) σ):ACalls (EE w) 105 args σ R:=
 ACalls.of_V' (E:=EE w) (E':=EE ⟨w.w,[]⟩) (n:=23) rfl rfl Tryz.f105 c _ Tryz.func105 hc (by kernel_rfl) (by kernel_rfl) hk hn hl h
theorem of_106 (hn:Nat.ble args.length 23=true) (hl:Nat.blt args.length 1000=true) {c:Code} (hc:Tryz.f106.body=some c) (hk:okC 23 c=true) (h:V (EE ⟨w.w,[]⟩) 23 c (vFin (EE ⟨w.w,[]⟩) [.tmp 2] R) (initE args 0) σ):ACalls (EE w) 106 args σ R:=
 ACalls.of_V' (E:=EE w) (E':=EE ⟨w.w,[]⟩) (n:=23) rfl rfl Tryz.f106 c _ Tryz.func106 hc (by kernel_rfl) (by kernel_rfl) hk hn hl h
theorem of_108 (hn:Nat.ble args.length 30=true) (hl:Nat.blt args.length 1000=true) {c:Code} (hc:Tryz.f108.body=some c) (hk:okC 30 c=true) (h:V (EE ⟨w.w,[]⟩) 30 c (vFin (EE ⟨w.w,[]⟩) [.tmp 2] R) (initE args 0) σ):ACalls (EE w) 108 args σ R:=
 ACalls.of_V' (E:=EE w) (E':=EE ⟨w.w,[]⟩) (n:=30) rfl rfl Tryz.f108 c _ Tryz.func108 hc (by kernel_rfl) (by kernel_rfl) hk hn hl h
theorem of_109 (hn:Nat.ble args.length 47=true) (hl:Nat.blt args.length 1000=true) {c:Code} (hc:Tryz.f109.body=some c) (hk:okC 47 c=true) (h:V (EE ⟨w.w,[]⟩) 47 c (vFin (EE ⟨w.w,[]⟩) [.tmp 2,.tmp 3,.tmp 4] R) (initE args 0) σ):ACalls (EE w) 109 args σ R:=
 ACalls.of_V' (E:=EE w) (E':=EE ⟨w.w,[]⟩) (n:=47) rfl rfl Tryz.f109 c _ Tryz.func109 hc (by kernel_rfl) (by kernel_rfl) hk hn hl h
theorem of_112 (hn:Nat.ble args.length 21=true) (hl:Nat.blt args.length 1000=true) {c:Code} (hc:Tryz.f112.body=some c) (hk:okC 21 c=true) (h:V (EE ⟨w.w,[]⟩) 21 c (vFin (EE ⟨w.w,[]⟩) [.tmp 2] R) (initE args 0) σ):ACalls (EE w) 112 args σ R:=
 ACalls.of_V' (E:=EE w) (E':=EE ⟨w.w,[]⟩) (n:=21) rfl rfl Tryz.f112 c _ Tryz.func112 hc (by kernel_rfl) (by kernel_rfl) hk hn hl h
theorem of_113 (hn:Nat.ble args.length 74=true) (hl:Nat.blt args.length 1000=true) {c:Code} (hc:Tryz.f113.body=some c) (hk:okC 74 c=true) (h:V (EE ⟨w.w,[]⟩) 74 c (vFin (EE ⟨w.w,[]⟩) [.tmp 4] R) (initE args 0) σ):ACalls (EE w) 113 args σ R:=
 ACalls.of_V' (E:=EE w) (E':=EE ⟨w.w,[]⟩) (n:=74) rfl rfl Tryz.f113 c _ Tryz.func113 hc (by kernel_rfl) (by kernel_rfl) hk hn hl h
theorem of_114 (hn:Nat.ble args.length 12=true) (hl:Nat.blt args.length 1000=true) {c:Code} (hc:Tryz.f114.body=some c) (hk:okC 12 c=true) (h:V (EE ⟨w.w,[]⟩) 12 c (vFin (EE ⟨w.w,[]⟩) [.cell 0 177] R) (initE args 0) σ):ACalls (EE w) 114 args σ R:=
 ACalls.of_V' (E:=EE w) (E':=EE ⟨w.w,[]⟩) (n:=12) rfl rfl Tryz.f114 c _ Tryz.func114 hc (by kernel_rfl) (by kernel_rfl) hk hn hl h
theorem of_115 (hn:Nat.ble args.length 19=true) (hl:Nat.blt args.length 1000=true) {c:Code} (hc:Tryz.f115.body=some c) (hk:okC 19 c=true) (h:V (EE ⟨w.w,[]⟩) 19 c (vFin (EE ⟨w.w,[]⟩) [.tmp 4] R) (initE args 0) σ):ACalls (EE w) 115 args σ R:=
 ACalls.of_V' (E:=EE w) (E':=EE ⟨w.w,[]⟩) (n:=19) rfl rfl Tryz.f115 c _ Tryz.func115 hc (by kernel_rfl) (by kernel_rfl) hk hn hl h
end
end Abs
namespace Abs
set_option linter.unusedSimpArgs false
set_option linter.unusedVariables false
set_option maxRecDepth 100000
set_option maxHeartbeats 16000000
open Go
instance:LawfulBEq ByteArray where
 eq_of_beq h:=by rw [ba_beq] at h; exact of_decide_eq_true h
 rfl {a}:=by rw [ba_beq]; exact dct rfl
inductive Ex where
 | mk (k:Int) (nm:ByteArray) (i:Int) (zs:List Ex)
inductive St where
 | mk (k:Int) (nm:ByteArray) (v:Ex) (body els:List St)
structure Fc where
 nm:ByteArray
 ps:List ByteArray
 body:List St
def sA (s:ByteArray):AVal:=.sc (.string s)
mutual
def IsEx:Ex->AVal->Prop
 | .mk k nm i zs,v=>∃ S els,v=.agg [(.sc (.int .i64 (k))),.sc (.string nm),(.sc (.int .i64 (i))),S]/\IsD 4 S els/\IsExs zs els/\in64 k/\in64 i/\nm.size<=281474976710656/\els.length<=281474976710656
def IsExs:List Ex->List AVal->Prop
 | [],els=>els=[]
 | x::xs,els=>∃ e es,els=e::es/\IsEx x e/\IsExs xs es
end
def Ex.k:Ex->Int|.mk k _ _ _=>k
def Ex.nm:Ex->ByteArray|.mk _ n _ _=>n
def Ex.i:Ex->Int|.mk _ _ i _=>i
def Ex.args:Ex->List Ex|.mk _ _ _ zs=>zs
theorem IsExs.len:∀ {zs:List Ex} {els:List AVal},IsExs zs els->els.length=zs.length
  | [], els, h => by
      simp only [IsExs] at h; subst h; rfl
  | x :: xs, els, h => by
      simp only [IsExs] at h
      obtain ⟨e,es,rfl,_,h⟩:=h
      simp [IsExs.len h]
theorem IsExs.at:∀ {zs:List Ex} {els:List AVal},IsExs zs els->∀ {j:Nat} {x:Ex},zs[j]?=some x->∃ e,els[j]?=some e/\IsEx x e
  | [],els,h,j,x,hx=>by simp at hx
  | y :: xs, els, h, j, x, hx => by
      simp only [IsExs] at h
      obtain ⟨e,es,rfl,h1,h⟩:=h
      cases j with
      | zero=>simp at hx; subst hx; exact ⟨e,rfl,h1⟩
      | succ j=>simpa using IsExs.at h (by simpa using hx)
mutual
def IsSt:St->AVal->Prop
  | .mk k nm v body els, w => ∃ SA SB SE ea eb ee, w = .agg [(.sc (.int .i64 (k))), .sc (.string nm), (.sc (.int .i64 (v.k))), .sc (.string v.nm), (.sc (.int .i64 (v.i))), SA, SB, SE] ∧ IsD 4 SA ea ∧ IsExs v.args ea ∧ IsD 8 SB eb ∧ IsSts body eb ∧ IsD 8 SE ee ∧ IsSts els ee ∧
      in64 k/\in64 v.k/\in64 v.i/\nm.size<=281474976710656/\v.nm.size<=281474976710656/\ea.length<=281474976710656/\eb.length<=281474976710656/\ee.length<=281474976710656
def IsSts:List St->List AVal->Prop
  | [],els=>els=[]
  | x::xs,els=>∃ e es,els=e::es/\IsSt x e/\IsSts xs es
end
def IsFc (f:Fc) (w:AVal):Prop:=∃ SP SB eb,w=.agg [.sc (.string f.nm),SP,SB]/\IsD 1 SP (f.ps.map sA)/\IsD 8 SB eb/\IsSts f.body eb/\f.nm.size<=281474976710656/\(∀ p∈f.ps,p.size<=281474976710656)/\f.ps.length<=281474976710656/\eb.length<=281474976710656
mutual
theorem IsEx.wf:∀ {x:Ex} {v:AVal},IsEx x v->WF 0 v
  | .mk k nm i zs, v, h => by
      simp only [IsEx] at h
      obtain ⟨S,els,rfl,hS,hs,_⟩:=h
      exact .agg _ (.cons _ _ (.sc _) (.cons _ _ (.sc _) (.cons _ _ (.sc _) (.cons _ _ (hS.wf (IsExs.wf hs)) .nil))))
theorem IsExs.wf:∀ {zs:List Ex} {els:List AVal},IsExs zs els->WFs 0 els
  | [],els,h=>by simp only [IsExs] at h; subst h; exact .nil
  | x :: xs, els, h => by
      simp only [IsExs] at h
      obtain ⟨e,es,rfl,h1,h⟩:=h
      exact .cons _ _ (IsEx.wf h1) (IsExs.wf h)
end
mutual
theorem IsSt.wf:∀ {x:St} {v:AVal},IsSt x v->WF 0 v
  | .mk k nm w body els, v, h => by
      simp only [IsSt] at h
      obtain ⟨SA,SB,SE,ea,eb,ee,rfl,hA,ha,hB,hb,hE,he,_⟩:=h
      exact .agg _ (.cons _ _ (.sc _) (.cons _ _ (.sc _) (.cons _ _ (.sc _) (.cons _ _ (.sc _) (.cons _ _ (.sc _) (.cons _ _ (hA.wf (IsExs.wf ha)) (.cons _ _ (hB.wf (IsSts.wf hb)) (.cons _ _ (hE.wf (IsSts.wf he)) .nil))))))))
theorem IsSts.wf:∀ {zs:List St} {els:List AVal},IsSts zs els->WFs 0 els
  | [],els,h=>by simp only [IsSts] at h; subst h; exact .nil
  | x :: xs, els, h => by
      simp only [IsSts] at h
      obtain ⟨e,es,rfl,h1,h⟩:=h
      exact .cons _ _ (IsSt.wf h1) (IsSts.wf h)
end
theorem wf_sA (l:List ByteArray):WFs 0 (l.map sA):=WFs.map fun _=>.sc _
theorem IsFc.wf {f:Fc} {w:AVal} (h:IsFc f w):WF 0 w:=by
 obtain ⟨SP,SB,eb,rfl,hP,hB,hb,_⟩:=h
 exact .agg _ (.cons _ _ (.sc _) (.cons _ _ (hP.wf (wf_sA _)) (.cons _ _ (hB.wf (IsSts.wf hb)) .nil)))
end Abs
namespace Abs
set_option linter.unusedSimpArgs false
set_option linter.unusedVariables false
set_option maxRecDepth 100000
set_option maxHeartbeats 16000000
open Go
/-- How many parts a kind may have. -/
def arityB (k:Int) (n:Nat):Bool:=
 if k=1\/k=2 then decide (n=0)
 else if k=3\/k=4 then decide (n=1)
 else if 5<=k/\k<=17 then decide (n=2)
 else if k=18 then decide (n=3)
 else decide (k=19)
variable (nameB:ByteArray->Bool)
mutual
def formedB:Ex->Bool
 | .mk k nm i zs=>(arityB k zs.length && (if k=2\/k=19 then nameB nm else decide (nm.size=0))) && ((decide (i=0) || decide (k=1)) && (decide (-2147483648<=i) && decide (i<=2147483648))) && formedBs zs
def formedBs:List Ex->Bool
 | []=>true
 | x::xs=>formedB x && formedBs xs
end
theorem formedBs_all:∀ l,formedBs nameB l=l.all (formedB nameB)
 | []=>rfl
 | x::xs=>by simp [formedBs,formedBs_all xs]
mutual
def formedS:St->Bool
  | .mk k nm v body els => (decide (1 ≤ k) && decide (k ≤ 5)) && (if k = 1 ∨ k = 2 then nameB nm else decide (nm.size = 0)) && formedB nameB v &&
      ((decide (body.length=0) || (decide (k=3) || decide (k=4))) && (decide (els.length=0) || decide (k=3))) && formedSs body && formedSs els
def formedSs:List St->Bool
  | []=>true
  | x::xs=>formedS x && formedSs xs
end
mutual
def nodesE:Ex->Nat
 | .mk _ _ _ zs=>1+nodesEs zs
def nodesEs:List Ex->Nat
 | []=>0
 | x::xs=>nodesE x+nodesEs xs
end
mutual
def depthE:Ex->Nat
 | .mk _ _ _ zs=>1+depthEs zs
def depthEs:List Ex->Nat
 | []=>0
 | x::xs=>max (depthE x) (depthEs xs)
end
mutual
def fewE:Ex->Bool
 | .mk _ _ _ zs=>decide (zs.length<=4) && fewEs zs
def fewEs:List Ex->Bool
 | []=>true
 | x::xs=>fewE x && fewEs xs
end
mutual
def nodesS:St->Nat
 | .mk _ _ v b e=>1+nodesE v+nodesSs b+nodesSs e
def nodesSs:List St->Nat
 | []=>0
 | x::xs=>nodesS x+nodesSs xs
end
mutual
def depthS:St->Nat
 | .mk _ _ v b e=>1+max (depthE v) (max (depthSs b) (depthSs e))
def depthSs:List St->Nat
 | []=>0
 | x::xs=>max (depthS x) (depthSs xs)
end
mutual
def fewS:St->Bool
 | .mk _ _ v b e=>fewE v && fewSs b && fewSs e
def fewSs:List St->Bool
 | []=>true
 | x::xs=>fewS x && fewSs xs
end
def smallE (x:Ex):Bool:=decide (nodesE x<=400) && decide (depthE x<=30) && fewE x
def nodesF (l:List Fc):Nat:=(l.map fun f=>nodesSs f.body).sum
def smallF (l:List Fc):Bool:=(l.all fun f=>decide (depthSs f.body<=30) && fewSs f.body && decide (f.ps.length<=4)) && decide (nodesF l<=400) && decide (l.length<=8)
/-- 0: well; 2: no well-formed one; 3: too large. -/
def checkE (x:Ex):Int:=if formedB nameB x then (if smallE x then 0 else 3) else 2
def formedF (f:Fc):Bool:=nameB f.nm && f.ps.all nameB && formedSs nameB f.body
def checkF (l:List Fc):Int:=if l.all (formedF nameB) then (if smallF l then 0 else 3) else 2
def fcOf (l:List Fc) (nm:ByteArray):Option Fc:=l.find? fun f=>decide (f.nm=nm)
mutual
def expE (g o:List ByteArray) (l:List Fc):Ex->Int
 | .mk k nm _ zs=>
  match expEs g o l zs with
  | 0=>
   if k=2 then (if nm∈g\/nm∈o then 0 else 90)
   else if k=19 then (match fcOf l nm with
    | none=>90
    | some f=>if f.ps.length=zs.length then 0 else 91)
   else 0
  | e=>e
def expEs (g o:List ByteArray) (l:List Fc):List Ex->Int
 | []=>0
 | x::xs=>match expE g o l x with
  | 0=>expEs g o l xs
  | e=>e
end
mutual
def stE (g o:List ByteArray) (l:List Fc):St->Int
 | .mk k nm v b e=>
  match expE g o l v with
  | 0=>
   if (k=1/\(nm∈g\/nm∈o))\/(k=2/\nm ∉ o) then 90
   else match stEs g (if k=1 then o++[nm] else o) l b with
    | 0=>stEs g (if k=1 then o++[nm] else o) l e
    | e=>e
  | e=>e
def stEs (g o:List ByteArray) (l:List Fc):List St->Int
 | []=>0
 | x::xs=>match stE g o l x with
  | 0=>stEs g (match x with|.mk k nm _ _ _=>if k=1 then o++[nm] else o) l xs
  | e=>e
end
mutual
def retS:St->Bool
 | .mk k _ _ b e=>decide (k=5) || (decide (k=3) && retSs b && retSs e)
def retSs:List St->Bool
 | []=>false
 | x::xs=>retS x || retSs xs
end
/-- The first static error of a function behind others. -/
def parsBad (g:List ByteArray):List ByteArray->List ByteArray->Bool
 | _,[]=>false
 | o,p::ps=>decide (p∈g\/p∈o) || parsBad g (o++[p]) ps
def fnE (g:List ByteArray) (l:List Fc) (f:Fc):Int:=
 if f.nm∈g\/(fcOf l f.nm).isSome then 90
 else if parsBad g [] f.ps then 90
 else match stEs g f.ps l f.body with
  | 0=>if retSs f.body then 0 else 92
  | e=>e
def goF (g:List ByteArray):List Fc->List Fc->Int×Int
 | _,[]=>(0,0)
 | l,f::r=>match fnE g l f with
  | 0=>goF g (l++[f]) r
  | e=>(l.length,e)
def funcsP (l:List Fc) (g:List ByteArray):Int×Int:=
 match checkF nameB l with
 | 0=>goF g [] l
 | e=>(0,e)
def expP (x:Ex) (g:List ByteArray) (l:List Fc):Int:=
 match checkE nameB x with
 | 0=>match (funcsP nameB l g).2 with
  | 0=>expE g [] l x
  | e=>e
 | e=>e
end Abs
namespace Abs
set_option linter.unusedSimpArgs false
set_option linter.unusedVariables false
set_option maxRecDepth 100000
set_option maxHeartbeats 16000000
open Go
variable (nameB:ByteArray->Bool)
end Abs
end
