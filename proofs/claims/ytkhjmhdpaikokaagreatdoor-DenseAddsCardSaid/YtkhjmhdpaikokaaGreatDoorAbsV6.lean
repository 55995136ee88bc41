/- Part of the abstract layer; it proves no statement by itself. -/
import Derived.Test.YtkhjmhdpaikokaaGreatDoorAbsV5
set_option linter.unusedVariables false
set_option linter.unusedSimpArgs false
set_option linter.unusedSectionVars false
noncomputable section
namespace Abs
open Go
section
variable {E:Env} {n:Nat} {Q:SPred} {e:Ev} {σ:AStore}
theorem V_skip:V E n .skip Q e σ=Q .normal e σ:=rfl
theorem V_label {l:Nat}:V E n (.label l) Q e σ=Q .normal e σ:=rfl
theorem V_region {id:Nat} {ops:Array Oper}:V E n (.region id ops false) Q e σ=vOps E ops Q ops.toList e σ:=rfl
theorem V_seq {x y:Code}:V E n (.seq x y) Q e σ=vSeq (hd x) (V E n x (thenS (V E n y Q) Q) e σ) (Z E n (.seq x y) Q e σ):=rfl
theorem V_cond {c:Operand} {x y:Code}:V E n (.cond c x y) Q e σ=Z E n (.cond c x y) Q e σ:=rfl
theorem V_block {id:Nat} {c:Code}:V E n (.block id c) Q e σ=Z E n (.block id c) Q e σ:=rfl
theorem V_loop {c:Code}:V E n (.loop c) Q e σ=Z E n (.loop c) Q e σ:=rfl
theorem V_draw {id:Nat} {ops:Array Oper}:V E n (.region id ops true) Q e σ=Z E n (.region id ops true) Q e σ:=rfl
theorem V_scope {c:Code}:V E n (.scope c) Q e σ=Z E n (.scope c) Q e σ:=rfl
theorem vSeq_true {p q:Prop}:vSeq true p q=p:=rfl
theorem vSeq_false {p q:Prop}:vSeq false p q=q:=rfl
theorem vSeq_congr {b b':Bool} {p q:Prop} (h:b=b'):vSeq b p q=vSeq b' p q:=by rw [h]
theorem hd_region {id:Nat} {ops:Array Oper} {b:Bool}:hd (.region id ops b)=!b:=by cases b<;>rfl
theorem hd_seq {x y:Code}:hd (.seq x y)=hd x:=rfl
theorem hd_cond {c:Operand} {x y:Code}:hd (.cond c x y)=false:=rfl
theorem hd_block {id:Nat} {c:Code}:hd (.block id c)=false:=rfl
theorem hd_label {i:Nat}:hd (.label i)=true:=rfl
theorem Z_congr {c:Code} {e':Ev} {σ':AStore} (h1:e=e') (h2:σ=σ'):Z E n c Q e σ=Z E n c Q e' σ':=by rw [h1,h2]
theorem V_exit {id:Nat}:V E n (.exit id) Q e σ=Q (.exit id) e σ:=rfl
theorem V_ret:V E n .ret Q e σ=Q .ret e σ:=rfl
theorem thenS_normal {k:Ev->AStore->Prop}:thenS k Q .normal e σ=k e σ:=rfl
theorem thenS_exit {k:Ev->AStore->Prop} {i:Nat}:thenS k Q (.exit i) e σ=Q (.exit i) e σ:=rfl
theorem thenS_ret {k:Ev->AStore->Prop}:thenS k Q .ret e σ=Q .ret e σ:=rfl
theorem thenS_pan {k:Ev->AStore->Prop} {v:AVal}:thenS k Q (.pan v) e σ=Q (.pan v) e σ:=rfl
theorem blkS_normal {i:Nat}:blkS i Q .normal e σ=Q .normal e σ:=rfl
theorem blkS_exit {i:Nat}:blkS i Q (.exit i) e σ=Q .normal e σ:=by simp [blkS]
theorem blkS_exit_ne {i j:Nat} (h:(j==i)=false):blkS i Q (.exit j) e σ=Q (.exit j) e σ:=by
 have:j≠i:=by simpa using h
 simp [blkS,this]
theorem blkS_ret {i:Nat}:blkS i Q .ret e σ=Q .ret e σ:=rfl
theorem again_exit {ι:Type} {S:ι->Ev} {I:ι->AStore->Prop} {m:ι->Nat} {m0 i:Nat}:again S I m m0 Q (.exit i) e σ=Q (.exit i) e σ:=rfl
theorem again_ret {ι:Type} {S:ι->Ev} {I:ι->AStore->Prop} {m:ι->Nat} {m0:Nat}:again S I m m0 Q .ret e σ=Q .ret e σ:=rfl
def vFin (E:Env) (rs:List ResultVar) (R:AEnd->AStore->Prop):SPred
 | .normal,e,σ|.ret,e,σ=>dRd (fun v=>R (.ret v) σ) ((vResults E rs e σ).map oneOf)
 | .pan v,_,σ=>R (.pan v) σ
 | _,_,_=>False
theorem vFin_normal {rs:List ResultVar} {R:AEnd->AStore->Prop}:vFin E rs R .normal e σ=dRd (fun v=>R (.ret v) σ) ((vResults E rs e σ).map oneOf):=rfl
theorem vFin_ret {rs:List ResultVar} {R:AEnd->AStore->Prop}:vFin E rs R .ret e σ=dRd (fun v=>R (.ret v) σ) ((vResults E rs e σ).map oneOf):=rfl
theorem vFin_pan {rs:List ResultVar} {R:AEnd->AStore->Prop} {v:AVal}:vFin E rs R (.pan v) e σ=R (.pan v) σ:=rfl
theorem dRd_some {k:AVal->Prop} {v:AVal}:dRd k (some v)=k v:=rfl
theorem dRd_congr {k:AVal->Prop} {o o':Option AVal} (h:o=o'):dRd k o=dRd k o':=by rw [h]
theorem ACalls.of_V' {E':Env} (hE:{E with ds:=[]}=E') (hrd:E.rd=none) {f:FuncId} (fn:Func) (c:Code) (rs:List ResultVar) {args:List AVal} {R:AEnd->AStore->Prop} (hf:E.P.funcs[f]?=some fn) (hb:fn.body=some c) (hr:fn.results.toList=rs) (hm:fn.ntmps=n) (hok:okC n c=true)
  (hn:Nat.ble args.length n=true) (hl:Nat.blt args.length 1000=true)
  (h:V E' n c (vFin E' rs R) (initE args 0) σ):ACalls E f args σ R:=by
 subst hr hm
 refine ACalls.of_V hE hrd fn c hf hb hok hn hl ?_
 have:vFin E' fn.results.toList R=vEnd E' fn R:=by
  funext ex e σ
  cases ex<;>rfl
 rw [<-this]; exact h
theorem vOps_nil {ops:Array Oper} {K:SPred}:vOps E ops K [] e σ=K .normal e σ:=rfl
theorem vOps_cons {ops:Array Oper} {K:SPred} {dst:Option Nat} {op:Op} {t:TypeId} {p:String} {a:Array Edge} {r:List Oper}:
  vOps E ops K (⟨dst,op,t,p,a,none⟩::r) e σ=vGo E dst K (vOps E ops K r) e σ (aOp E false op (evE E.G e) σ):=rfl
theorem vOps_guard {ops:Array Oper} {K:SPred} {dst:Option Nat} {op:Op} {t:TypeId} {p:String} {a:Array Edge} {r:List Oper} {j:Nat} {want:Bool}:
  vOps E ops K (⟨dst,op,t,p,a,some (j,want)⟩::r) e σ=vIf (sYield ops e j) want (vGo E dst K (vOps E ops K r) e σ (aOp E false op (evE E.G e) σ)) (vOps E ops K r (putE e dst undefA) σ):=rfl
theorem vOps_congr {ops:Array Oper} {K:SPred} {r:List Oper} {e':Ev} {σ':AStore} (h1:e=e') (h2:σ=σ'):vOps E ops K r e σ=vOps E ops K r e' σ':=by rw [h1,h2]
theorem vGo_congr {dst:Option Nat} {K:SPred} {k:Ev->AStore->Prop} {r r':ARes} (h:r=r'):vGo E dst K k e σ r=vGo E dst K k e σ r':=by rw [h]
theorem vGo_val {dst:Nat} {K:SPred} {k:Ev->AStore->Prop} {v:AVal} {σ':AStore}:vGo E (some dst) K k e σ (.val v σ')=k ((dst,v)::e) σ':=rfl
theorem vGo_skip_none {K:SPred} {k:Ev->AStore->Prop} {σ':AStore}:vGo E none K k e σ (.skip σ')=k e σ':=rfl
theorem vGo_pan {dst:Option Nat} {K:SPred} {k:Ev->AStore->Prop} {v:AVal}:vGo E dst K k e σ (.pan v)=K (.pan v) e σ:=rfl
theorem vGo_enter {dst:Option Nat} {K:SPred} {k:Ev->AStore->Prop} {f:Nat} {args:List AVal}:vGo E dst K k e σ (.enter (.fn f) args)=ACalls E f args σ (putR E K k e dst):=rfl
theorem vGo_vals {dst:Option Nat} {K:SPred} {k:Ev->AStore->Prop} {l:List (AVal×AStore)}:vGo E dst K k e σ (.vals l)=∀ p∈l,k (putE e dst p.1) p.2:=rfl
theorem putE_some {d:Nat} {v:AVal}:putE e (some d) v=(d,v)::e:=rfl
theorem putE_none {v:AVal}:putE e none v=e:=rfl
theorem vIf_true {p q:Prop}:vIf (some (some true)) true p q=p:=by simp [vIf]
theorem vIf_false {p q:Prop}:vIf (some (some false)) false p q=p:=by simp [vIf]
theorem vIf_tf {p q:Prop}:vIf (some (some true)) false p q=q:=by simp [vIf]
theorem vIf_ft {p q:Prop}:vIf (some (some false)) true p q=q:=by simp [vIf]
theorem vIf_none {p q:Prop} {b:Bool}:vIf (some none) b p q=q:=by simp [vIf]
theorem vIf_congr {b b':Option (Option Bool)} {w:Bool} {p q:Prop} (h:b=b'):vIf b w p q=vIf b' w p q:=by rw [h]
theorem vIf_intro {b w:Bool} {p q:Prop} (h1:b=w->p) (h2:b=!w->q):vIf (some (some b)) w p q:=by
 refine ⟨fun h=>h1 (by simpa using h),fun h=>h2 ?_⟩
 cases b<;>cases w<;>simp_all
def yOf:Option AVal->Option (Option Bool)
 | some (.sc (.bool b))=>some (some b)
 | some (.tuple _)=>some none
 | _=>none
theorem yOf_undef:yOf (some undefA)=some none:=rfl
theorem sYield_some {ops:Array Oper} {j:Nat}:sYield ops e j=match (ops[j]?).bind (·.dst) with
  | some t=>yOf (look? e t)
  | none=>none:=by
 unfold sYield
 cases (ops[j]?).bind (·.dst) with
 | none=>rfl
 | some t=>
  simp only []
  cases look? e t with
  | none=>rfl
  | some v=>cases v<;>rfl
theorem yOf_bool {b:Bool}:yOf (some (.sc (.bool b)))=some (some b):=rfl
theorem look_cons {d t:Nat} {v:AVal}:look? ((d,v)::e) t=if t=d then some v else look? e t:=rfl
theorem evE_tmp {G:Nat->AVal} {t:Nat}:evE G e (.tmp t)=look? e t:=rfl
theorem evE_const {G:Nat->AVal} {v:Value}:evE G e (.const v)=some (absV v):=rfl
theorem evE_func {G:Nat->AVal} {f:Nat}:evE G e (.func f)=some (.func (.func f) [] []):=rfl
theorem absV_int {k:IntKind} {m:Int}:absV (.int k m)=.sc (.int k m):=rfl
theorem absV_bool {b:Bool}:absV (.bool b)=.sc (.bool b):=rfl
theorem absV_string {s:ByteArray}:absV (.string s)=.sc (.string s):=rfl
theorem absV_slice {a:Option Addr} {l c:Nat}:absV (.slice a l c)=.sc (.slice a l c):=rfl
theorem absV_ptr {a:Option Addr}:absV (.pointer a)=.sc (.pointer a):=rfl
theorem absV_map {a:Option Nat}:absV (.map a)=.sc (.map a):=rfl
theorem absV_nilFunc:absV .nilFunc=.sc .nilFunc:=rfl
theorem absV_nilIface:absV .nilIface=.sc .nilIface:=rfl
end
def tyA (E:Env) (t:TypeId):Option (Bool×Nat):=(E.ty t).map fun i=>(i.isA,i.size)
structure SlD where
 sz:Nat
 bytes:Nat
 zero:AVal
def slD (E:Env) (t:TypeId):Option SlD:=
 match sliceElem E t with
 | some j=>match j.okz && !(Nat.beq j.size 0) && !(Nat.beq j.bytes 0) with
  | true=>some ⟨j.size,j.bytes,absV j.zero⟩
  | false=>none
 | none=>none
def fldD (E:Env) (s:TypeId) (f:Nat):Option (Nat×Bool×Nat):=
 match fieldOf E s f with
 | some (off,j)=>match Nat.beq j.size 0 with
  | true=>none
  | false=>some (off,j.isA,j.size)
 | none=>none
def bldD (E:Env) (t:TypeId):Option (List (Nat×Nat)×List AVal):=
 match E.ty t with
 | some i=>match i.desc with
  | .struct fs=>(fieldPlaces E.ty fs).map fun ps=>(ps,aZero i.zero)
  | _=>none
 | none=>none
def zeroD (E:Env) (t:TypeId):Option AVal:=(E.ty t).map fun i=>absV i.zero
inductive Kind where
 | str
 | slice
 | array (n:Nat)
 | map
 | int (k:IntKind)
 | bool
 | ptr
 | struct
 | other
def kindD (E:Env) (t:TypeId):Option Kind:=(E.ty t).map fun i=>match i.desc with
 | .string=>.str
 | .slice _=>.slice
 | .array n _=>.array n
 | .map _ _=>.map
 | .int k=>.int k
 | .bool=>.bool
 | .pointer _=>.ptr
 | .struct _=>.struct
 | _=>.other
section
variable {E:Env} {lit:Bool} {ρ:ARho} {σ:AStore}
theorem op_move {x:Operand}:aOp E lit (.move x) ρ σ=.ofV σ (ρ x):=rfl
theorem op_assign {x:Operand}:aOp E lit (.assign x) ρ σ=.ofV σ (ρ x):=rfl
theorem ofV_some {v:AVal}:ARes.ofV σ (some v)=.val v σ:=rfl
theorem ofO_some {v:AVal} {σ':AStore}:ARes.ofO (some (v,σ'))=.val v σ':=rfl
theorem ofS_some {σ':AStore}:ARes.ofS (some σ')=.skip σ':=rfl
def opPick (σ:AStore):Option AVal->Option AVal->Option AVal->ARes
 | some (.sc (.bool t)),a,b=>.ofV σ (if t then a else b)
 | _,_,_=>.bad
theorem op_pick {c a b:Operand}:aOp E lit (.pick c a b) ρ σ=opPick σ (ρ c) (ρ a) (ρ b):=by
 simp only [aOp]
 split
 ·rename_i t h; rw [h]; cases t<;>rfl
 ·rename_i h
  unfold opPick
  split
  ·rename_i t h'; exact absurd h' (h t)
  ·rfl
theorem opPick_true {a b:Option AVal}:opPick σ (some (.sc (.bool true))) a b=.ofV σ a:=rfl
theorem opPick_false {a b:Option AVal}:opPick σ (some (.sc (.bool false))) a b=.ofV σ b:=rfl
theorem opPick_bools {c a b:Bool}:opPick σ (some (.sc (.bool c))) (some (.sc (.bool a))) (some (.sc (.bool b)))=.val (.sc (.bool (if c then a else b))) σ:=by cases c<;>rfl
def opAlloc (σ:AStore):Option AVal->ARes
 | some v=>.ofO (aNew v σ)
 | none=>.bad
def opAllocT (t:TypeId) (σ:AStore):Option AVal->ARes
 | some v=>.ofO (tagNew (isBld v) t σ (aNew v σ))
 | none=>.bad
theorem op_alloc {t:TypeId}:aOp E lit (.alloc t) ρ σ=opAllocT t σ (zeroD E t):=by
 simp only [aOp,zeroD]
 cases E.ty t<;>rfl
theorem opAllocT_some {t:TypeId} {v:AVal} (hb:isBld v=false):opAllocT t σ (some v)=opAlloc σ (some v):=by
 simp only [opAllocT,opAlloc,hb,tagNew_false]
theorem bld_sc {v:Value}:isBld (.sc v)=false:=rfl
theorem bld_1 {x:AVal}:isBld (.agg [x])=false:=by
 unfold isBld
 split
 ·rename_i h; cases h
 ·rfl
theorem bld_3 {x y z:AVal} {l:List AVal}:isBld (.agg (x::y::z::l))=false:=by
 unfold isBld
 split
 ·rename_i h; cases h
 ·rfl
theorem bld_i {k:IntKind} {n:Int} {l:List AVal}:isBld (.agg (.sc (.int k n)::l))=false:=by
 unfold isBld
 split
 ·rename_i h; cases h
 ·rfl
theorem bld_s {a:Option Addr} {n m:Nat} {l:List AVal}:isBld (.agg (.sc (.slice a n m)::l))=false:=by
 unfold isBld
 split
 ·rename_i h; cases h
 ·rfl
theorem u8_i64 {n:Int}:u8z (.sc (.int .i64 n))=false:=rfl
theorem u8_str {s:ByteArray}:u8z (.sc (.string s))=false:=rfl
theorem u8_agg {l:List AVal}:u8z (.agg l)=false:=rfl
theorem op_box {t:TypeId} {x:Operand}:aOp E lit (.box t x) ρ σ=opAlloc σ (ρ x):=by
 simp only [aOp]
 cases ρ x<;>rfl
theorem opAlloc_some {v:AVal} (h:v.fit=true):opAlloc σ (some v)=.val (.ptr σ.next 0 0) (σ.alloc (.cells v.cells.length [v])):=by
 simp [opAlloc,aNew,h,ARes.ofO]
def opBuild (σ:AStore):Option (List (Nat×Nat)×List AVal)->Option (List (Nat×AVal))->ARes
 | some (ps,z),some l=>.ofV σ ((aFill (ps[·]?) z l).map .agg)
 | _,_=>.bad
theorem op_build {t:TypeId} {ps:Array (Nat×Operand)} {pl:List (Nat×Nat)×List AVal} (h:bldD E t=some pl):aOp E lit (.build t ps) ρ σ=opBuild σ (some pl) (partsSome ρ ps.toList):=by
 unfold bldD at h
 simp only [aOp]
 cases hE:E.ty t with
 | none=>rw [hE] at h; cases h
 | some i=>
  rw [hE] at h
  simp only [] at h
  cases hp:partsSome ρ ps.toList with
  | none=>rfl
  | some l=>
   simp only []
   cases hd:i.desc<;>rw [hd] at h<;>simp only [] at h<;>try (cases h; done)
   rename_i fs
   cases hf:fieldPlaces E.ty fs with
   | none=>rw [hf] at h; cases h
   | some qs=>
    rw [hf] at h
    simp only [Option.map_some,Option.some.injEq] at h
    subst h
    simp only [opBuild,aBuildS,hf]
theorem slD_spec {t:TypeId} {s:SlD} (h:slD E t=some s):∃ j,sliceElem E t=some j/\j.okz=true/\j.size≠0/\j.bytes≠0/\s=⟨j.size,j.bytes,absV j.zero⟩:=by
 unfold slD at h
 split at h
 ·rename_i j hj
  split at h
  ·rename_i hb
   simp only [Bool.and_eq_true,Bool.not_eq_true'] at hb
   cases h
   refine ⟨j,hj,hb.1.1,?_,?_,rfl⟩
   ·intro h0; rw [h0] at hb; simp at hb
   ·intro h0; rw [h0] at hb; simp at hb
  ·cases h
 ·cases h
def opBuildSl (σ:AStore) (lit:Bool) (s:SlD) (len:Nat):Option (List (Nat×AVal))->ARes
 | some ps=>
  if lit then (if len*s.sz<=2 ^ 24 then .ofV σ ((aSetParts s.sz len (List.replicate len s.zero) ps).map fun els=>.data s.sz true els) else .bad)
  else if len*s.sz<=2 ^ 24 then .ofO ((aSetParts s.sz len (List.replicate len s.zero) ps).map fun els=>(.slice σ.next 0 len,σ.alloc (.cells s.sz els))) else .bad
 | none=>.bad
theorem op_buildSlice {t:TypeId} {len:Nat} {ps:Array (Nat×Operand)} {s:SlD} (h:slD E t=some s):aOp E lit (.buildSlice t len ps) ρ σ=opBuildSl σ lit s len (partsSome ρ ps.toList):=by
 obtain ⟨j,h1,h2,h3,h4,rfl⟩:=slD_spec h
 simp only [aOp,h1]
 cases partsSome ρ ps.toList with
 | none=>rfl
 | some l=>
  simp only [opBuildSl]
  cases lit with
  | true=>
   simp only [if_true,aLitSlice,h2,ne_eq,h3,not_false_eq_true,true_and]
   split<;>rfl
  | false=>
   simp only [Bool.false_eq_true,if_false,aBuildSlice,h2,ne_eq,h3,not_false_eq_true,true_and]
   split<;>rfl
def opLoad (σ:AStore):Option (Bool×Nat)->Option AVal->ARes
 | some (a,m),some p=>.ofV σ (aLoad a m p σ)
 | _,_=>.bad
theorem op_load {t:TypeId} {a:Operand}:aOp E lit (.load t a) ρ σ=opLoad σ (tyA E t) (ρ a):=by
 simp only [aOp,tyA]
 cases E.ty t<;>cases ρ a<;>rfl
def opStore (σ:AStore):Option (Bool×Nat)->Option AVal->Option AVal->ARes
 | some (_,m),some p,some v=>.ofS (aStore m p v σ)
 | _,_,_=>.bad
theorem op_store {t:TypeId} {a x:Operand}:aOp E lit (.store t a x) ρ σ=opStore σ (tyA E t) (ρ a) (ρ x):=by
 simp only [aOp,tyA]
 cases E.ty t<;>cases ρ a<;>cases ρ x<;>rfl
def opNil (σ:AStore):Option AVal->ARes
 | some (.ptr b i k)=>.val (.ptr b i k) σ
 | some (.iptr cs)=>.val (.iptr cs) σ
 | some (.func (.func f) a b)=>.val (.func (.func f) a b) σ
 | some (.iface t v)=>.val (.iface t v) σ
 | _=>.bad
theorem op_nil {x:Operand}:aOp E lit (.nilCheck x) ρ σ=opNil σ (ρ x):=by
 simp only [aOp]
 rfl
def opBin (E:Env) (σ:AStore) (op:BinOp) (t:TypeId) (cst:Bool):Option AVal->Option AVal->ARes
 | some a,some b=>match E.ty t with
  | some i=>.ofV σ (aBin2 E t i.desc op cst a b)
  | none=>.bad
 | _,_=>.bad
theorem op_bin {op:BinOp} {t:TypeId} {x y:Operand} {ps:TypeId}:aOp E lit (.binOp op t x y ps) ρ σ=opBin E σ op t (isConstOp x || isConstOp y) (ρ x) (ρ y):=by
 simp only [aOp]
 cases hE:E.ty t<;>cases ρ x<;>cases ρ y<;>simp [opBin,hE]
theorem opBin_int {op:BinOp} {t:TypeId} {cst:Bool} {k k':IntKind} {a b:Int} (h:(tyA E t).isSome=true):
  opBin E σ op t cst (some (.sc (.int k a))) (some (.sc (.int k' b)))=.ofV σ ((scBin op (.int k a) (.int k' b)).map .sc):=by
 unfold tyA at h
 unfold opBin
 cases hE:E.ty t with
 | none=>rw [hE] at h; cases h
 | some i=>rfl
theorem opBin_str {op:BinOp} {t:TypeId} {cst:Bool} {a b:ByteArray} (h:(tyA E t).isSome=true):
  opBin E σ op t cst (some (.sc (.string a))) (some (.sc (.string b)))=.ofV σ ((scBin op (.string a) (.string b)).map .sc):=by
 unfold tyA at h
 unfold opBin
 cases hE:E.ty t with
 | none=>rw [hE] at h; cases h
 | some i=>rfl
theorem kindD_bool {t:TypeId} (h:kindD E t=some .bool):∃ i,E.ty t=some i/\i.desc=.bool:=by
 unfold kindD at h
 cases hE:E.ty t with
 | none=>rw [hE] at h; cases h
 | some i=>
  rw [hE] at h
  refine ⟨i,rfl,?_⟩
  cases hd:i.desc<;>simp_all
theorem opBin_eqB {t:TypeId} {cst:Bool} {a b:Bool} (h:kindD E t=some .bool):opBin E σ .eql t cst (some (.sc (.bool a))) (some (.sc (.bool b)))=.val (.sc (.bool (a==b))) σ:=by
 obtain ⟨i,h1,h2⟩:=kindD_bool h
 simp [opBin,h1,h2,aBin2,aBin,aEq,ARes.ofV]
theorem opBin_neB {t:TypeId} {cst:Bool} {a b:Bool} (h:kindD E t=some .bool):opBin E σ .neq t cst (some (.sc (.bool a))) (some (.sc (.bool b)))=.val (.sc (.bool !(a==b))) σ:=by
 obtain ⟨i,h1,h2⟩:=kindD_bool h
 simp [opBin,h1,h2,aBin2,aBin,aEq,ARes.ofV]
section
variable {k:IntKind} {a b:Int}
theorem sc_add:scBin .add (.int k a) (.int k b)=some (.int k (k.wrap (a+b))):=by simp [scBin]
theorem sc_sub:scBin .sub (.int k a) (.int k b)=some (.int k (k.wrap (a - b))):=by simp [scBin]
theorem sc_mul:scBin .mul (.int k a) (.int k b)=some (.int k (k.wrap (a*b))):=by simp [scBin]
theorem sc_quo (h:b≠0):scBin .quo (.int k a) (.int k b)=some (.int k (k.wrap (a.tdiv b))):=by simp [scBin,h]
theorem sc_rem (h:b≠0):scBin .rem (.int k a) (.int k b)=some (.int k (a.tmod b)):=by simp [scBin,h]
theorem sc_eql:scBin .eql (.int k a) (.int k b)=some (.bool (decide (a=b))):=by
 simp only [scBin,if_true]; rw [show (a==b)=decide (a=b) from rfl]
theorem sc_neq:scBin .neq (.int k a) (.int k b)=some (.bool (!decide (a=b))):=by
 simp only [scBin,if_true]; rfl
theorem sc_lss:scBin .lss (.int k a) (.int k b)=some (.bool (decide (a < b))):=by simp [scBin]
theorem sc_leq:scBin .leq (.int k a) (.int k b)=some (.bool (decide (a<=b))):=by simp [scBin]
theorem sc_gtr:scBin .gtr (.int k a) (.int k b)=some (.bool (decide (b < a))):=by simp [scBin]
theorem sc_geq:scBin .geq (.int k a) (.int k b)=some (.bool (decide (b<=a))):=by simp [scBin]
end
theorem ss_eql {a b:ByteArray}:scBin .eql (.string a) (.string b)=some (.bool (a.toList==b.toList)):=by simp [scBin]
def opUn (σ:AStore) (op:UnOp):Option AVal->ARes
 | some a=>.ofV σ (aUn op a)
 | none=>.bad
theorem op_un {op:UnOp} {t:TypeId} {x:Operand}:aOp E lit (.unOp op t x) ρ σ=opUn σ op (ρ x):=by
 simp only [aOp]
 cases ρ x<;>rfl
theorem opUn_not {b:Bool}:opUn σ .not (some (.sc (.bool b)))=.val (.sc (.bool !b)) σ:=rfl
theorem opUn_neg {k:IntKind} {m:Int}:opUn σ .neg (some (.sc (.int k m)))=.val (.sc (.int k (k.wrap (0 - m)))) σ:=rfl
def opFA (σ:AStore):Option (Nat×Bool×Nat)->Option AVal->ARes
 | some (off,_),some p=>.ofV σ (aField off p)
 | _,_=>.bad
theorem fldD_spec {s:TypeId} {f:Nat} {r:Nat×Bool×Nat} (h:fldD E s f=some r):∃ j,fieldOf E s f=some (r.1,j)/\j.isA=r.2.1/\j.size=r.2.2/\j.size≠0:=by
 unfold fldD at h
 split at h
 ·rename_i off j hf
  split at h
  ·cases h
  ·rename_i hb
   cases h
   refine ⟨j,hf,rfl,rfl,?_⟩
   intro h0; rw [h0] at hb; simp at hb
 ·cases h
theorem op_fieldAddr {s:TypeId} {x:Operand} {f:Nat} {r:Nat×Bool×Nat} (h:fldD E s f=some r):aOp E lit (.fieldAddr s x f) ρ σ=opFA σ (some r) (ρ x):=by
 obtain ⟨j,h1,h2,h3,h4⟩:=fldD_spec h
 simp only [aOp,h1]
 cases ρ x with
 | none=>rfl
 | some p=>simp only [ne_eq,h4,not_false_eq_true,if_true]; rfl
def opIA (σ:AStore) (s:SlD):Option AVal->Option AVal->ARes
 | some x,some i=>.ofV σ (aIndexS s.sz x i σ)
 | _,_=>.bad
theorem op_indexAddr {t:TypeId} {x i:Operand} {s:SlD} (h:slD E t=some s):aOp E lit (.indexAddr t x i) ρ σ=opIA σ s (ρ x) (ρ i):=by
 obtain ⟨j,h1,h2,h3,h4,rfl⟩:=slD_spec h
 simp only [aOp,h1]
 cases ρ x<;>cases ρ i<;>rfl
def opIS (σ:AStore):Option AVal->Option AVal->ARes
 | some x,some i=>.ofV σ (aIndexStr x i)
 | _,_=>.bad
theorem op_index_str {t:TypeId} {x i:Operand} (h:kindD E t=some .str):aOp E lit (.index t x i) ρ σ=opIS σ (ρ x) (ρ i):=by
 unfold kindD at h
 simp only [aOp,arrayOf]
 cases hE:E.ty t with
 | none=>rw [hE] at h; cases h
 | some ti=>
  rw [hE] at h
  have hd:ti.desc=.string:=by cases hd:ti.desc<;>simp_all
  cases ρ x<;>cases ρ i<;>simp only [hd]<;>rfl
def opMk (σ:AStore) (s:SlD):Option AVal->Option AVal->ARes
 | some (.sc (.int _ l)),some (.sc (.int _ c))=>if 0<=l/\l<=c/\s.bytes*c<=2 ^ 48/\c < 2 ^ 62 then .val (.slice σ.next 0 l.toNat) (σ.alloc (.cells s.sz (List.replicate c.toNat s.zero))) else .bad
 | _,_=>.bad
theorem op_makeSlice {t:TypeId} {l c:Operand} {s:SlD} (h:slD E t=some s):aOp E lit (.makeSlice t l c) ρ σ=opMk σ s (ρ l) (ρ c):=by
 obtain ⟨j,h1,h2,h3,h4,rfl⟩:=slD_spec h
 simp only [aOp,h1]
 cases hl:ρ l with
 | none=>rfl
 | some a=>
  cases hc:ρ c with
  | none=>cases a<;>first|rfl|(rename_i v; cases v<;>rfl)
  | some b=>
   simp only []
   cases a<;>first|rfl|skip
   rename_i v
   cases v<;>first|rfl|skip
   cases b<;>first|rfl|skip
   rename_i v
   cases v<;>first|rfl|skip
   simp only [aMakeSlice,opMk,h2,ne_eq,h3,not_false_eq_true,true_and]
   split<;>rfl
def opExtract (σ:AStore) (ix:Nat):Option AVal->ARes
 | some a=>.ofV σ (aExtract a ix)
 | none=>.bad
theorem op_extract {t:Operand} {ix:Nat}:aOp E lit (.extract t ix) ρ σ=opExtract σ ix (ρ t):=by
 simp only [aOp]
 cases ρ t<;>rfl
theorem opExtract_tuple {vs:List AVal} {ix:Nat}:opExtract σ ix (some (.tuple vs))=.ofV σ (vs[ix]?):=rfl
def opCall (f:FuncId):Option (List AVal)->ARes
 | some args=>.enter (.fn f) ([]++args++[])
 | none=>.bad
def opBi (E:Env) (b:Builtin) (ts:List TypeId) (σ:AStore):Option (List AVal)->ARes
 | some args=>aBuiltin E b ts args σ
 | none=>.bad
theorem op_builtin {b:Builtin} {as:Array Operand} {ts:Array TypeId}:aOp E lit (.call ⟨.builtin b,as,ts⟩) ρ σ=opBi E b ts.toList σ (allSome ρ as.toList):=by
 simp only [aOp]
 cases allSome ρ as.toList<;>rfl
def opApp (E:Env) (t:TypeId) (σ:AStore) (s:SlD) (a:AVal):Option (List AVal)->ARes
 | some xs=>.ofO (match u8z s.zero with|true=>appTag E t a σ (aAppend s.sz s.bytes a xs σ)|false=>aAppend s.sz s.bytes a xs σ)
 | none=>.bad
theorem opApp_eq {t:TypeId} {j:TyI} (h:sliceElem E t=some j) {a:AVal} {xs:List AVal}:ARes.ofO (appTag E t a σ (aAppend j.size j.bytes a xs σ))=opApp E t σ ⟨j.size,j.bytes,absV j.zero⟩ a (some xs):=by
 simp only [opApp]
 cases hz:u8z (absV j.zero) with
 | true=>rfl
 | false=>simp only [appTag,byteElem_none h hz]
theorem bi_append {t:TypeId} {s:SlD} {a x:AVal} (h:slD E t=some s):opBi E .append [t,t] σ (some [a,x])=opApp E t σ s a (aSrc s.sz x σ):=by
 obtain ⟨j,h1,h2,h3,h4,rfl⟩:=slD_spec h
 obtain ⟨i,e,g1,g2,g3⟩:=sliceElem_some h1
 have:srcOk i.desc=true:=by rw [g2]; rfl
 simp only [opBi,aBuiltin,h1,g1,h2,this,and_self,if_true]
 cases aSrc j.size x σ with
 | none=>rfl
 | some xs=>exact opApp_eq h1
theorem bi_max2 {ts:List TypeId} {k:IntKind} {a b:Int}:opBi E .max ts σ (some [.sc (.int k a),.sc (.int k b)])=.val (.sc (.int k (if b > a then b else a))) σ:=rfl
theorem len_slice {e:TypeId} {b o l:Nat}:aLen (.slice e) (.slice b o l) σ=some (.sc (.int .i64 l)):=rfl
theorem len_sc {e:TypeId} {a:Option Addr} {l c:Nat}:aLen (.slice e) (.sc (.slice a l c)) σ=some (.sc (.int .i64 l)):=rfl
theorem aIdx_nat {k:IntKind} {i len:Nat} (h:i < len):aIdx (.sc (.int k (i:Int))) len=some i:=by
 simp only [aIdx]; rw [if_pos (by omega)]; simp
theorem load_iptr {a:Bool} {m:Nat} {cs:List AVal}:aLoad a m (.iptr cs) σ=loadCs a m 0 cs:=rfl
theorem field_ptr {off b i k:Nat}:aField off (.ptr b i k)=some (.ptr b i (k+off)):=rfl
theorem field_iptr {off:Nat} {cs:List AVal}:aField off (.iptr cs)=some (.iptr (cs.drop off)):=rfl
theorem part_agg {a:Bool} {m off:Nat} {cs:List AVal}:aPart a m off (.agg cs)=loadCs a m off cs:=rfl
theorem app_nil {sz bytes:Nat} {xs:List AVal} (hx:xs≠[]) (h:xs.length*bytes<=140737488355328) (h1:sz≠0) (h2:bytes≠0):
  aAppend sz bytes (.sc (.slice none 0 0)) xs σ=some (.slice σ.next 0 xs.length,σ.alloc (.cells sz xs)):=by
 cases xs with
 | nil=>exact absurd rfl hx
 | cons x xs=>simp only [aAppend,aAppend0]; rw [if_pos ⟨h,h1,h2⟩]
theorem app_full {sz bytes b:Nat} {xs els:List AVal} (hg:σ.get b=some (.cells sz els)) (hx:xs≠[]) (h:(els.length+xs.length)*bytes<=140737488355328) (h1:sz≠0) (h2:bytes≠0) (hc:allCells xs=true):
  aAppend sz bytes (.slice b 0 els.length) xs σ=some (.slice σ.next 0 (els.length+xs.length),(σ.del b).alloc (.cells sz (els++xs))):=by
 have hp:0 < xs.length:=by cases xs<;>simp_all
 simp only [aAppend,aAppend0,hg]
 rw [if_pos ⟨trivial,h1,h2,by omega,hc⟩,if_neg (by omega),if_pos ⟨by omega,h⟩]
 simp
def loadEl (a:Bool) (m k:Nat):Option AVal->Option AVal
 | some x=>loadCs a m k x.cells
 | none=>none
def loadAt (a:Bool) (m i k:Nat):Option ABlk->Option AVal
 | some (.cells _ els)=>loadEl a m k els[i]?
 | _=>none
theorem aLoad_ptr {a:Bool} {m b i k:Nat}:aLoad a m (.ptr b i k) σ=loadAt a m i k (σ.get b):=by
 simp only [aLoad]
 cases hg:σ.get b with
 | none=>rfl
 | some x=>cases x<;>rfl
theorem loadAt_cells {a:Bool} {m i k sz:Nat} {els:List AVal}:loadAt a m i k (some (.cells sz els))=loadEl a m k els[i]?:=rfl
theorem loadEl_some {a:Bool} {m k:Nat} {x:AVal}:loadEl a m k (some x)=loadCs a m k x.cells:=rfl
theorem loadCs_true {m k:Nat} {cs:List AVal}:loadCs true m k cs=if k+m<=cs.length then some (.agg ((cs.drop k).take m)) else none:=rfl
theorem loadCs_false {m k:Nat} {cs:List AVal}:loadCs false m k cs=cs[k]?:=rfl
def stEl (σ:AStore) (b sz i k m:Nat) (v:AVal) (els:List AVal):Option AVal->Option AStore
 | some x=>if v.cells.length=m/\0 < m/\k+m<=x.cells.length/\v.cells.all AVal.isCell=true then some (σ.set b (.cells sz (els.set i (storeEl x k v.cells)))) else none
 | none=>none
def stAt (σ:AStore) (b i k m:Nat) (v:AVal):Option ABlk->Option AStore
 | some (.cells sz els)=>stEl σ b sz i k m v els els[i]?
 | _=>none
theorem aStore_ptr {m b i k:Nat} {v:AVal}:aStore m (.ptr b i k) v σ=stAt σ b i k m v (σ.get b):=by
 simp only [aStore]
 cases hg:σ.get b with
 | none=>rfl
 | some x=>cases x<;>rfl
theorem stAt_cells {b i k m sz:Nat} {v:AVal} {els:List AVal}:stAt σ b i k m v (some (.cells sz els))=stEl σ b sz i k m v els els[i]?:=rfl
theorem stEl_some {b sz i k m:Nat} {v x:AVal} {els:List AVal}:stEl σ b sz i k m v els (some x)=if v.cells.length=m/\0 < m/\k+m<=x.cells.length/\v.cells.all AVal.isCell=true then some (σ.set b (.cells sz (els.set i (storeEl x k v.cells)))) else none:=rfl
theorem storeEl_agg {k:Nat} {cs vs:List AVal}:storeEl (.agg cs) k vs=.agg (spliceL cs k vs):=rfl
def ixEl:Option AVal->Option AVal
 | some x=>some (.iptr x.cells)
 | none=>none
def ixData (els:List AVal):Option Nat->Option AVal
 | some j=>ixEl els[j]?
 | none=>none
theorem aIndexS_data {sz:Nat} {t:Bool} {els:List AVal} {ix:AVal}:aIndexS sz (.data sz t els) ix σ=ixData els (aIdx ix els.length):=by
 simp only [aIndexS,if_true]
 cases aIdx ix els.length with
 | none=>rfl
 | some j=>simp only [ixData]; cases els[j]?<;>rfl
theorem ixData_some {els:List AVal} {j:Nat}:ixData els (some j)=ixEl els[j]?:=rfl
theorem ixEl_some {x:AVal}:ixEl (some x)=some (.iptr x.cells):=rfl
def ixSl (b o sz:Nat) (ix:AVal) (l:Nat):Option ABlk->Option AVal
 | some (.cells sz' _)=>if sz'=sz then (aIdx ix l).map fun j=>.ptr b (o+j) 0 else none
 | _=>none
theorem aIndexS_slice {sz b o l:Nat} {ix:AVal}:aIndexS sz (.slice b o l) ix σ=ixSl b o sz ix l (σ.get b):=by
 simp only [aIndexS]
 cases hg:σ.get b with
 | none=>rfl
 | some x=>cases x<;>rfl
theorem ixSl_cells {b o sz sz' l:Nat} {ix:AVal} {els:List AVal}:ixSl b o sz ix l (some (.cells sz' els))=if sz'=sz then (aIdx ix l).map fun j=>.ptr b (o+j) 0 else none:=rfl
theorem aIdx_i {k:IntKind} {i:Int} {len:Nat}:aIdx (.sc (.int k i)) len=if 0<=i/\i < len then some i.toNat else none:=rfl
def opCallIf (n:Bool) (σ:AStore) (f:FuncId) (as:Option (List AVal)):Bool->ARes
 | true=>match as with
  | some args=>.enter (.fn f) args
  | none=>.bad
 | false=>match n,as with
  | true,some [x]=>.val x σ
  | _,_=>.bad
theorem op_callf {G:Nat->AVal} {e:Ev} {f:FuncId} {as:Array Operand} {ts:Array TypeId}:aOp E lit (.call ⟨.value (.func f),as,ts⟩) (evE G e) σ=opCallIf (E.nes f) σ f (allSome (evE G e) as.toList) (E.fns f):=by
 simp only [aOp]
 cases allSome (evE G e) as.toList with
 | none=>cases E.fns f<;>cases E.nes f<;>rfl
 | some args=>
  simp only [evE,List.nil_append,List.append_nil]
  cases E.fns f<;>cases E.nes f<;>simp [opCallIf]
  match args with
  | []=>rfl
  | [_]=>rfl
  | _::_::_=>rfl
theorem opCallIf_true {n:Bool} {f:FuncId} {args:List AVal}:opCallIf n σ f (some args) true=.enter (.fn f) args:=rfl
theorem allSome_nil:allSome ρ []=some []:=rfl
def consO:Option AVal->Option (List AVal)->Option (List AVal)
 | some v,some vs=>some (v::vs)
 | _,_=>none
theorem allSome_cons {x:Operand} {xs:List Operand}:allSome ρ (x::xs)=consO (ρ x) (allSome ρ xs):=by
 simp only [allSome]; cases ρ x<;>cases allSome ρ xs<;>rfl
theorem consO_some {v:AVal} {vs:List AVal}:consO (some v) (some vs)=some (v::vs):=rfl
def consP (i:Nat):Option AVal->Option (List (Nat×AVal))->Option (List (Nat×AVal))
 | some v,some vs=>some ((i,v)::vs)
 | _,_=>none
theorem partsSome_nil:partsSome ρ []=some []:=rfl
theorem partsSome_cons {i:Nat} {x:Operand} {xs:List (Nat×Operand)}:partsSome ρ ((i,x)::xs)=consP i (ρ x) (partsSome ρ xs):=by
 simp only [partsSome]; cases ρ x<;>cases partsSome ρ xs<;>rfl
theorem consP_some {i:Nat} {v:AVal} {vs:List (Nat×AVal)}:consP i (some v) (some vs)=some ((i,v)::vs):=rfl
theorem opLoad_some {a:Bool} {m:Nat} {p:AVal}:opLoad σ (some (a,m)) (some p)=.ofV σ (aLoad a m p σ):=rfl
theorem opStore_some {a:Bool} {m:Nat} {p v:AVal}:opStore σ (some (a,m)) (some p) (some v)=.ofS (aStore m p v σ):=rfl
theorem opFA_some {off m:Nat} {a:Bool} {p:AVal}:opFA σ (some (off,a,m)) (some p)=.ofV σ (aField off p):=rfl
theorem opIA_some {s:SlD} {x i:AVal}:opIA σ s (some x) (some i)=.ofV σ (aIndexS s.sz x i σ):=rfl
theorem opIS_some {x i:AVal}:opIS σ (some x) (some i)=.ofV σ (aIndexStr x i):=rfl
theorem opMk_some {s:SlD} {k k':IntKind} {l c:Int}:opMk σ s (some (.sc (.int k l))) (some (.sc (.int k' c)))=if 0<=l/\l<=c/\s.bytes*c<=2 ^ 48/\c < 2 ^ 62 then .val (.slice σ.next 0 l.toNat) (σ.alloc (.cells s.sz (List.replicate c.toNat s.zero))) else .bad:=rfl
theorem opNil_ptr {b i k:Nat}:opNil σ (some (.ptr b i k))=.val (.ptr b i k) σ:=rfl
theorem opBuild_some {ps:List (Nat×Nat)} {z:List AVal} {l:List (Nat×AVal)}:opBuild σ (some (ps,z)) (some l)=.ofV σ ((aFill (ps[·]?) z l).map .agg):=rfl
theorem aFill_nil {pl:Nat->Option (Nat×Nat)} {cs:List AVal}:aFill pl cs []=some cs:=rfl
def fillAt (pl:Nat->Option (Nat×Nat)) (cs:List AVal) (v:AVal) (r:List (Nat×AVal)):Option (Nat×Nat)->Option (List AVal)
 | none=>none
 | some (off,size)=>if v.cells.length=size/\off+size<=cs.length/\v.fit=true then aFill pl (spliceL cs off v.cells) r else none
theorem aFill_cons {pl:Nat->Option (Nat×Nat)} {cs:List AVal} {i:Nat} {v:AVal} {r:List (Nat×AVal)}:aFill pl cs ((i,v)::r)=fillAt pl cs v r (pl i):=by
 simp only [aFill]
 cases h:pl i with
 | none=>rfl
 | some x=>rfl
theorem fillAt_some {pl:Nat->Option (Nat×Nat)} {cs:List AVal} {v:AVal} {r:List (Nat×AVal)} {off size:Nat}:fillAt pl cs v r (some (off,size))=if v.cells.length=size/\off+size<=cs.length/\v.fit=true then aFill pl (spliceL cs off v.cells) r else none:=rfl
theorem spliceL_nil {cs:List AVal} {k:Nat}:spliceL cs k []=cs:=rfl
theorem spliceL_cons {cs vs:List AVal} {v:AVal} {k:Nat}:spliceL cs k (v::vs)=spliceL (cs.set k v) (k+1) vs:=rfl
theorem opBuildSl_false {s:SlD} {len:Nat} {ps:List (Nat×AVal)}:opBuildSl σ false s len (some ps)=if len*s.sz<=2 ^ 24 then .ofO ((aSetParts s.sz len (List.replicate len s.zero) ps).map fun els=>(.slice σ.next 0 len,σ.alloc (.cells s.sz els))) else .bad:=rfl
theorem opBuildSl_true {s:SlD} {len:Nat} {ps:List (Nat×AVal)}:opBuildSl σ true s len (some ps)=if len*s.sz<=2 ^ 24 then .ofV σ ((aSetParts s.sz len (List.replicate len s.zero) ps).map fun els=>.data s.sz true els) else .bad:=rfl
theorem aSetParts_nil {sz len:Nat} {els:List AVal}:aSetParts sz len els []=some els:=rfl
theorem aSetParts_cons {sz len i:Nat} {v:AVal} {els:List AVal} {r:List (Nat×AVal)}:aSetParts sz len els ((i,v)::r)=if v.cells.length=sz/\v.fit=true/\i < len then aSetParts sz len (els.set i v) r else none:=rfl
theorem opApp_some {t:TypeId} {s:SlD} {a:AVal} {xs:List AVal} (h:u8z s.zero=false):opApp E t σ s a (some xs)=.ofO (aAppend s.sz s.bytes a xs σ):=by
 simp only [opApp,h]
def elAt (sz o l:Nat):Option ABlk->Option (List AVal)
 | some (.cells sz' els)=>if sz'=sz/\o+l<=els.length then some ((els.drop o).take l) else none
 | _=>none
theorem aSrc_slice {sz b o l:Nat}:aSrc sz (.slice b o l) σ=elAt sz o l (σ.get b):=by
 simp only [aSrc,aElems]
 cases hg:σ.get b with
 | none=>rfl
 | some x=>cases x<;>rfl
theorem elAt_cells {sz sz' o l:Nat} {els:List AVal}:elAt sz o l (some (.cells sz' els))=if sz'=sz/\o+l<=els.length then some ((els.drop o).take l) else none:=rfl
theorem aSrc_data {sz:Nat} {t:Bool} {els:List AVal}:aSrc sz (.data sz t els) σ=some els:=by simp [aSrc,aElems]
theorem aSrc_nil {sz c:Nat} {a:Option Addr}:aSrc sz (.sc (.slice a 0 c)) σ=some []:=rfl
def appAt (σ:AStore) (sz bytes b len:Nat) (xs:List AVal):Option ABlk->Option (AVal×AStore)
 | some (.cells sz' els)=>
  if sz'=sz/\sz≠0/\bytes≠0/\len<=els.length/\allCells xs=true then
   if len+xs.length<=els.length then some (.slice b 0 (len+xs.length),σ.set b (.cells sz (overlay els len xs)))
   else if len=els.length/\(len+xs.length)*bytes<=140737488355328 then some (.slice σ.next 0 (len+xs.length),(σ.del b).alloc (.cells sz (els++xs)))
   else none
  else none
 | _=>none
theorem aAppend_slice {sz bytes b len:Nat} {xs:List AVal}:aAppend sz bytes (.slice b 0 len) xs σ=appAt σ sz bytes b len xs (σ.get b):=by
  simp only [aAppend,aAppend0]
  cases hg:σ.get b with
  | none=>rfl
  | some x => cases x <;> try rfl
              simp only [Nat.zero_add,List.drop_zero,appAt]
theorem appAt_cells {sz sz' bytes b len:Nat} {xs els:List AVal}:appAt σ sz bytes b len xs (some (.cells sz' els))=
  if sz'=sz/\sz≠0/\bytes≠0/\len<=els.length/\allCells xs=true then
   if len+xs.length<=els.length then some (.slice b 0 (len+xs.length),σ.set b (.cells sz (overlay els len xs)))
   else if len=els.length/\(len+xs.length)*bytes<=140737488355328 then some (.slice σ.next 0 (len+xs.length),(σ.del b).alloc (.cells sz (els++xs)))
   else none
  else none:=rfl
theorem allCells_nil:allCells []=true:=rfl
theorem vResults_nil {e:Ev}:vResults E [] e σ=some []:=rfl
theorem vResults_tmp {e:Ev} {t:Nat} {r:List ResultVar}:vResults E (.tmp t::r) e σ=consO (look? e t) (vResults E r e σ):=by
 simp only [vResults]; cases look? e t<;>cases vResults E r e σ<;>rfl
theorem oneOf_one {v:AVal}:oneOf [v]=v:=rfl
theorem oneOf_two {v u:AVal} {r:List AVal}:oneOf (v::u::r)=.tuple (v::u::r):=rfl
theorem Z_dec {n:Nat} {c:Operand} {x y:Code} {Q:SPred} {e:Ev} {P:Prop} [Decidable P] (hb:evE E.G e c=some (.sc (.bool (decide P)))) (h1:P->V E n x Q e σ) (h2:¬ P->V E n y Q e σ):Z E n (.cond c x y) Q e σ:=
 Z_cond hb (fun h=>h1 (of_decide_eq_true h)) (fun h=>h2 (of_decide_eq_false h))
theorem Z_ndec {n:Nat} {c:Operand} {x y:Code} {Q:SPred} {e:Ev} {P:Prop} [Decidable P] (hb:evE E.G e c=some (.sc (.bool (!decide P)))) (h1:¬ P->V E n x Q e σ) (h2:P->V E n y Q e σ):Z E n (.cond c x y) Q e σ:=
 Z_cond hb (fun h=>h1 (of_decide_eq_false (by simpa using h))) (fun h=>h2 (of_decide_eq_true (by simpa using h)))
theorem Z_true {n:Nat} {c:Operand} {x y:Code} {Q:SPred} {e:Ev} (hb:evE E.G e c=some (.sc (.bool true))) (h1:V E n x Q e σ):Z E n (.cond c x y) Q e σ:=
 Z_cond hb (fun _=>h1) (fun h=>by cases h)
theorem Z_false {n:Nat} {c:Operand} {x y:Code} {Q:SPred} {e:Ev} (hb:evE E.G e c=some (.sc (.bool false))) (h1:V E n y Q e σ):Z E n (.cond c x y) Q e σ:=
 Z_cond hb (fun h=>by cases h) (fun _=>h1)
theorem vIf_dec {P:Prop} [Decidable P] {p q:Prop} (h1:P->p) (h2:¬ P->q):vIf (some (some (decide P))) true p q:=
 vIf_intro (fun h=>h1 (of_decide_eq_true h)) (fun h=>h2 (of_decide_eq_false h))
theorem vIf_decf {P:Prop} [Decidable P] {p q:Prop} (h1:¬ P->p) (h2:P->q):vIf (some (some (decide P))) false p q:=
 vIf_intro (fun h=>h1 (of_decide_eq_false h)) (fun h=>h2 (of_decide_eq_true h))
theorem vIf_ndec {P:Prop} [Decidable P] {p q:Prop} (h1:¬ P->p) (h2:P->q):vIf (some (some (!decide P))) true p q:=
 vIf_intro (fun h=>h1 (of_decide_eq_false (by simpa using h))) (fun h=>h2 (of_decide_eq_true (by simpa using h)))
theorem vIf_ndecf {P:Prop} [Decidable P] {p q:Prop} (h1:P->p) (h2:¬ P->q):vIf (some (some (!decide P))) false p q:=
 vIf_intro (fun h=>h1 (of_decide_eq_true (by simpa using h))) (fun h=>h2 (of_decide_eq_false (by simpa using h)))
end
section
variable {E:Env} {ops:Array Oper} {anc:List (Nat×Nat)} {K:SPred} {recs:List SRec} {e:Ev} {q:Bool} {σ:AStore}
def vDo (E:Env) (ops:Array Oper) (anc:List (Nat×Nat)) (K:SPred) (i:Nat) (rest:List Nat) (recs:List SRec) (e:Ev) (q:Bool) (σ:AStore) (dst:Option Nat) (op:Op):Bool->Prop
 | true=>dGo E (look anc i) dst K (fun e q σ=>vDr E ops anc K rest recs e q σ) recs e q σ (aOp E true op (evE E.G e) σ)
 | false=>dRd (fun v=>vDr E ops anc K rest (⟨i,op,e,v⟩::recs) (putE e dst v) q σ) (aRead E op (evE E.G e) σ)
def vDg (E:Env) (ops:Array Oper) (anc:List (Nat×Nat)) (K:SPred) (i:Nat) (rest:List Nat) (recs:List SRec) (e:Ev) (q:Bool) (σ:AStore) (dst:Option Nat) (op:Op):Option (Nat×Bool)->Prop
 | none=>vDo E ops anc K i rest recs e q σ dst op (isEff E op)
 | some (j,want)=>vIf (sYield ops e j) want (vDo E ops anc K i rest recs e q σ dst op (isEff E op)) (vDr E ops anc K rest recs (putE e dst undefA) q σ)
def vD1 (E:Env) (ops:Array Oper) (anc:List (Nat×Nat)) (K:SPred) (i:Nat) (rest:List Nat) (recs:List SRec) (e:Ev) (q:Bool) (σ:AStore):Option Oper->Prop
 | none=>False
 | some o=>vDg E ops anc K i rest recs e q σ o.dst o.op o.guard
theorem vDr_nil:vDr E ops anc K [] recs e q σ=K .normal e σ:=rfl
theorem vDr_cons {i:Nat} {rest:List Nat}:vDr E ops anc K (i::rest) recs e q σ=vD1 E ops anc K i rest recs e q σ ops[i]?:=by
 simp only [vDr]
 cases ops[i]? with
 | none=>rfl
 | some o=>
  simp only [vD1]
  cases hg:o.guard with
  | none=>simp only [vDg]; cases isEff E o.op<;>rfl
  | some jw=>simp only [vDg]; cases isEff E o.op<;>rfl
theorem vD1_some {i:Nat} {rest:List Nat} {dst:Option Nat} {op:Op} {t:TypeId} {p:String} {a:Array Edge} {g:Option (Nat×Bool)}:
  vD1 E ops anc K i rest recs e q σ (some ⟨dst,op,t,p,a,g⟩)=vDg E ops anc K i rest recs e q σ dst op g:=rfl
theorem vDg_none {i:Nat} {rest:List Nat} {dst:Option Nat} {op:Op}:vDg E ops anc K i rest recs e q σ dst op none=vDo E ops anc K i rest recs e q σ dst op (isEff E op):=rfl
theorem vDg_some {i:Nat} {rest:List Nat} {dst:Option Nat} {op:Op} {j:Nat} {w:Bool}:vDg E ops anc K i rest recs e q σ dst op (some (j,w))=
  vIf (sYield ops e j) w (vDo E ops anc K i rest recs e q σ dst op (isEff E op)) (vDr E ops anc K rest recs (putE e dst undefA) q σ):=rfl
theorem vDo_true {i:Nat} {rest:List Nat} {dst:Option Nat} {op:Op}:vDo E ops anc K i rest recs e q σ dst op true=dGo E (look anc i) dst K (vDr E ops anc K rest recs) recs e q σ (aOp E true op (evE E.G e) σ):=rfl
theorem vDo_false {i:Nat} {rest:List Nat} {dst:Option Nat} {op:Op}:vDo E ops anc K i rest recs e q σ dst op false=dRd (fun v=>vDr E ops anc K rest (⟨i,op,e,v⟩::recs) (putE e dst v) q σ) (aRead E op (evE E.G e) σ):=rfl
def readOf:ARes->Option AVal
 | .val v _=>some v
 | _=>none
theorem aRead_eq {op:Op} {ρ:ARho}:aRead E op ρ σ=readOf (aOp E true op ρ σ):=rfl
theorem readOf_val {v:AVal} {σ':AStore}:readOf (.val v σ')=some v:=rfl
theorem vD1_congr {i:Nat} {rest:List Nat} {o o':Option Oper} (h:o=o'):vD1 E ops anc K i rest recs e q σ o=vD1 E ops anc K i rest recs e q σ o':=by rw [h]
theorem vDo_congr {i:Nat} {rest:List Nat} {dst:Option Nat} {op:Op} {b b':Bool} (h:b=b'):vDo E ops anc K i rest recs e q σ dst op b=vDo E ops anc K i rest recs e q σ dst op b':=by rw [h]
theorem vDr_congr {rest:List Nat} {e':Ev} {σ':AStore} (h:e=e') (h2:σ=σ'):vDr E ops anc K rest recs e q σ=vDr E ops anc K rest recs e' q σ':=by rw [h,h2]
theorem dGo_val {m:Nat} {dst:Option Nat} {k:Ev->Bool->AStore->Prop} {v:AVal} {σ':AStore}:dGo E m dst K k recs e q σ (.val v σ')=(sRecs E m σ' recs/\k (putE e dst v) false σ'):=rfl
theorem dGo_skip {m:Nat} {dst:Option Nat} {k:Ev->Bool->AStore->Prop} {σ':AStore}:dGo E m dst K k recs e q σ (.skip σ')=(sRecs E m σ' recs/\k (putE e dst undefA) false σ'):=rfl
theorem dGo_enter {m:Nat} {dst:Option Nat} {k:Ev->Bool->AStore->Prop} {f:FuncId} {args:List AVal}:dGo E m dst K k recs e q σ (.enter (.fn f) args)=ACalls E f args σ (dRet E m K k recs e dst q σ):=rfl
theorem dGo_congr {m:Nat} {dst:Option Nat} {k:Ev->Bool->AStore->Prop} {r r':ARes} (h:r=r'):dGo E m dst K k recs e q σ r=dGo E m dst K k recs e q σ r':=by rw [h]
theorem sRecs_nil {m:Nat}:sRecs E m σ []=True:=rfl
def sRec1 (E:Env) (r:SRec) (σ:AStore):Bool->Prop
 | true=>True
 | false=>sHolds E r σ
theorem sRecs_cons {m:Nat} {r:SRec} {rs:List SRec}:sRecs E m σ (r::rs)=(sRec1 E r σ (m.testBit r.i)/\sRecs E m σ rs):=by
 simp only [sRecs]; cases m.testBit r.i<;>rfl
theorem sRec1_true {r:SRec}:sRec1 E r σ true=True:=rfl
theorem sRec1_false {i:Nat} {op:Op} {e:Ev} {v:AVal}:sRec1 E ⟨i,op,e,v⟩ σ false=(aRead E op (evE E.G e) σ=some v):=rfl
theorem sRec1_congr {r:SRec} {b b':Bool} (h:b=b'):sRec1 E r σ b=sRec1 E r σ b':=by rw [h]
end
end Abs
end
