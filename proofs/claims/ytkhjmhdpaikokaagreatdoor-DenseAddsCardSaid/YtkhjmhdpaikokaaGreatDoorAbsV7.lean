/- Part of the abstract layer; it proves no statement by itself. -/
import Derived.Test.YtkhjmhdpaikokaaGreatDoorAbsV6
import Derived.Test.YtkhjmhdpaikokaaGreatDoorAbsTy
set_option linter.unusedVariables false
set_option linter.unusedSimpArgs false
set_option linter.unusedSectionVars false
noncomputable section
namespace Abs
open Go
theorem aLen_any {e:TypeId} {x:AVal} {σ:AStore}:aLen (.slice e) x σ=aLen (.slice 0) x σ:=by
 cases x<;>try rfl
 rename_i v
 cases v<;>rfl
theorem bi_len {E:Env} {σ:AStore} {t:TypeId} {x:AVal} (h:kindD E t=some .slice):opBi E .len [t] σ (some [x])=.ofV σ (aLen (.slice 0) x σ):=by
 unfold kindD at h
 simp only [opBi,aBuiltin]
 cases hE:E.ty t with
 | none=>rw [hE] at h; cases h
 | some i=>
  rw [hE] at h
  obtain ⟨e,he⟩:∃ e,i.desc=.slice e:=by cases hd:i.desc<;>simp_all
  simp only [he,aLen_any (e:=e)]
theorem bi_lenS {E:Env} {σ:AStore} {t:TypeId} {x:AVal} (h:kindD E t=some .str):opBi E .len [t] σ (some [x])=.ofV σ (aLen .string x σ):=by
 unfold kindD at h
 simp only [opBi,aBuiltin]
 cases hE:E.ty t with
 | none=>rw [hE] at h; cases h
 | some i=>
  rw [hE] at h
  have he:i.desc=.string:=by cases hd:i.desc<;>simp_all
  simp only [he]
theorem len_str {s:ByteArray} {σ:AStore}:aLen .string (.sc (.string s)) σ=some (.sc (.int .i64 s.size)):=rfl
section
variable {E:Env}
theorem eff_move {x:Operand}:isEff E (.move x)=false:=rfl
theorem eff_assign {x:Operand}:isEff E (.assign x)=false:=rfl
theorem eff_pick {a b c:Operand}:isEff E (.pick a b c)=false:=rfl
theorem eff_build {t:TypeId} {ps:Array (Nat×Operand)}:isEff E (.build t ps)=false:=rfl
theorem eff_buildSlice {t:TypeId} {l:Nat} {ps:Array (Nat×Operand)}:isEff E (.buildSlice t l ps)=false:=rfl
theorem eff_load {t:TypeId} {a:Operand}:isEff E (.load t a)=false:=rfl
theorem eff_nil {a:Operand}:isEff E (.nilCheck a)=false:=rfl
theorem eff_bin {op:BinOp} {t u:TypeId} {a b:Operand}:isEff E (.binOp op t a b u)=false:=rfl
theorem eff_un {op:UnOp} {t:TypeId} {a:Operand}:isEff E (.unOp op t a)=false:=rfl
theorem eff_fieldAddr {t:TypeId} {a:Operand} {f:Nat}:isEff E (.fieldAddr t a f)=false:=rfl
theorem eff_indexAddr {t:TypeId} {a b:Operand}:isEff E (.indexAddr t a b)=false:=rfl
theorem eff_extract {a:Operand} {f:Nat}:isEff E (.extract a f)=false:=rfl
theorem eff_lookup {t:TypeId} {a b:Operand} {ok:Bool}:isEff E (.lookup t a b ok)=false:=rfl
theorem eff_len {a:Array Operand} {t:Array TypeId}:isEff E (.call ⟨.builtin .len,a,t⟩)=false:=rfl
theorem eff_max {a:Array Operand} {t:Array TypeId}:isEff E (.call ⟨.builtin .max,a,t⟩)=false:=rfl
theorem eff_append {a:Array Operand} {t:Array TypeId}:isEff E (.call ⟨.builtin .append,a,t⟩)=true:=rfl
theorem eff_call {f:Operand} {a:Array Operand} {t:Array TypeId}:isEff E (.call ⟨.value f,a,t⟩)=true:=rfl
theorem eff_store {t:TypeId} {a b:Operand}:isEff E (.store t a b)=true:=rfl
theorem eff_alloc {t:TypeId}:isEff E (.alloc t)=true:=rfl
end
theorem look_lcons {k v i:Nat} {r:List (Nat×Nat)}:look ((k,v)::r) i=if k=i then v else look r i:=by
 show (match Nat.beq k i with|true=>v|false=>look r i)=_
 by_cases h:k=i
 ·subst h; simp
 ·rw [nbeq_false h,if_neg h]
section
variable {v:Value} {cs:List AVal} {b i k o l sz:Nat} {t:Bool} {els:List AVal} {kd:IntKind} {n:Int} {bo:Bool} {s:ByteArray}
theorem fit_agg:(AVal.agg cs).fit=true:=id rfl
theorem fit_int:(AVal.sc (.int kd n)).fit=true:=id rfl
theorem fit_bool:(AVal.sc (.bool bo)).fit=true:=id rfl
theorem fit_str:(AVal.sc (.string s)).fit=true:=id rfl
theorem fit_sptr {a:Option Addr}:(AVal.sc (.pointer a)).fit=true:=id rfl
theorem fit_map:(AVal.map b).fit=true:=id rfl
theorem fit_func {fn:Fn} {x y:List AVal}:(AVal.func fn x y).fit=true:=id rfl
theorem cells_agg:(AVal.agg cs).cells=cs:=rfl
theorem cells_sc:(AVal.sc v).cells=[.sc v]:=rfl
theorem cells_slice:(AVal.slice b o l).cells=[.slice b o l]:=rfl
theorem cells_ptr:(AVal.ptr b i k).cells=[.ptr b i k]:=rfl
theorem cells_map:(AVal.map b).cells=[.map b]:=rfl
theorem cells_func {fn:Fn} {x y:List AVal}:(AVal.func fn x y).cells=[.func fn x y]:=rfl
theorem isCell_int:(AVal.sc (.int kd n)).isCell=true:=id rfl
theorem isCell_bool:(AVal.sc (.bool bo)).isCell=true:=id rfl
theorem isCell_str:(AVal.sc (.string s)).isCell=true:=id rfl
theorem isCell_ssl {a:Option Addr} {x y:Nat}:(AVal.sc (.slice a x y)).isCell=true:=id rfl
theorem isCell_slice:(AVal.slice b o l).isCell=true:=id rfl
theorem isCell_ptr:(AVal.ptr b i k).isCell=true:=id rfl
theorem isCell_map:(AVal.map b).isCell=true:=id rfl
theorem isCell_func {fn:Fn} {x y:List AVal}:(AVal.func fn x y).isCell=true:=id rfl
theorem storeEl_sc {u:AVal}:storeEl (.sc v) 0 [u]=u:=rfl
theorem empty_next:empty.next=0:=rfl
theorem alloc_next {σ:AStore} {x:ABlk}:(σ.alloc x).next=σ.next+1:=rfl
theorem set_next {σ:AStore} {x:ABlk} {b:Nat}:(σ.set b x).next=σ.next:=rfl
theorem arr_get {α:Type} {l:List α} {i:Nat}:l.toArray[i]?=l[i]?:=by simp
end
attribute [congr] Z_congr vSeq_congr vOps_congr vGo_congr vIf_congr dRd_congr vD1_congr vDo_congr vDr_congr dGo_congr sRec1_congr
attribute [go_sem ↓] V_skip V_label V_region V_seq V_cond V_block V_loop V_draw V_scope V_exit V_ret thenS_normal thenS_exit thenS_ret thenS_pan blkS_normal blkS_exit blkS_exit_ne blkS_ret again_exit again_ret vFin_normal vFin_ret vFin_pan vOps_nil vOps_cons vOps_guard vDr_nil vDr_cons
attribute [go_sem] vSeq_true vSeq_false hd_region hd_seq hd_cond hd_block hd_label dRd_some vGo_val vGo_skip_none vGo_pan vGo_enter putE_some putE_none vIf_true vIf_false vIf_tf vIf_ft vIf_none sYield_some yOf_bool yOf_undef look_cons evE_tmp evE_const evE_func absV_int absV_bool absV_string absV_slice absV_ptr absV_map absV_nilFunc absV_nilIface op_move op_assign ofV_some ofO_some ofS_some op_pick opPick_true opPick_false opPick_bools op_alloc opAllocT_some bld_sc bld_1 bld_3 bld_i bld_s u8_i64 u8_str u8_agg op_box opAlloc_some op_load op_store op_nil op_bin opBin_int opBin_str opBin_eqB opBin_neB sc_add sc_sub sc_mul sc_eql sc_neq sc_lss sc_leq sc_gtr sc_geq ss_eql op_un opUn_not opUn_neg op_extract opExtract_tuple op_builtin bi_max2 len_slice len_sc len_str load_iptr aLoad_ptr loadAt_cells loadEl_some loadCs_true loadCs_false field_ptr field_iptr part_agg aStore_ptr stAt_cells stEl_some storeEl_agg storeEl_sc aIndexS_data ixData_some ixEl_some aIndexS_slice ixSl_cells aIdx_i op_callf opCallIf_true allSome_nil allSome_cons consO_some partsSome_nil partsSome_cons consP_some opLoad_some opStore_some opFA_some opIA_some opIS_some opMk_some opNil_ptr opBuild_some aFill_nil aFill_cons fillAt_some spliceL_nil spliceL_cons opBuildSl_false opBuildSl_true aSetParts_nil aSetParts_cons opApp_some aSrc_slice elAt_cells aSrc_data aSrc_nil aAppend_slice appAt_cells allCells_nil vResults_nil vResults_tmp oneOf_one oneOf_two vD1_some vDg_none vDg_some vDo_true vDo_false aRead_eq readOf_val dGo_val dGo_skip dGo_enter sRecs_nil sRecs_cons sRec1_true sRec1_false eff_move eff_assign eff_pick eff_build eff_buildSlice eff_load eff_nil eff_bin eff_un eff_fieldAddr eff_indexAddr eff_extract eff_lookup eff_len eff_max eff_append eff_call eff_store eff_alloc look_lcons fit_agg fit_int fit_bool fit_str fit_sptr fit_map fit_func cells_agg cells_sc cells_slice cells_ptr cells_map cells_func isCell_int isCell_bool isCell_str isCell_ssl isCell_slice isCell_ptr isCell_map isCell_func AStore.get_alloc AStore.get_set AStore.get_del empty_next alloc_next set_next arr_get initE subE
end Abs
end
