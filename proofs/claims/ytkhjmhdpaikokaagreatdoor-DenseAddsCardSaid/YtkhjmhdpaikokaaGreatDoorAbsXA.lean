/- Part of the abstract layer; it proves no statement by itself. -/
import Derived.Test.YtkhjmhdpaikokaaGreatDoorAbsX
set_option linter.unusedVariables false
set_option linter.unusedSimpArgs false
set_option linter.unusedSectionVars false
noncomputable section
namespace Abs
open Go
def aF_move (E:Env) (lit:Bool) (ρ:ARho) (σ:AStore) (x:Operand):ARes:=.ofV σ (ρ x)
def aF_pick (E:Env) (lit:Bool) (ρ:ARho) (σ:AStore) (c:Operand) (a:Operand) (b:Operand):ARes:=
  match ρ c with
  | some (.sc (.bool t))=>.ofV σ (if t then ρ a else ρ b)
  | _=>.bad
def aF_alloc (E:Env) (lit:Bool) (ρ:ARho) (σ:AStore) (t:TypeId):ARes:=
  match E.ty t with
  | some i=>.ofO (tagNew (isBld (absV i.zero)) t σ (aNew (absV i.zero) σ))
  | none=>.bad
def aF_box (E:Env) (lit:Bool) (ρ:ARho) (σ:AStore) (x:Operand):ARes:=
  match ρ x with
  | some v=>.ofO (aNew v σ)
  | none=>.bad
def aF_build (E:Env) (lit:Bool) (ρ:ARho) (σ:AStore) (t:TypeId) (parts:Array (Nat×Operand)):ARes:=
  match E.ty t,partsSome ρ parts.toList with
  | some i,some ps=>
   match i.desc with
   | .struct fs=>.ofV σ (aBuildS E.ty fs i.zero ps)
   | .array _ e=>match E.ty e with
    | some j=>.ofV σ (aBuildA j.size i.zero ps)
    | none=>.bad
   | _=>.bad
  | _,_=>.bad
def aF_buildSlice (E:Env) (lit:Bool) (ρ:ARho) (σ:AStore) (t:TypeId) (len:Nat) (parts:Array (Nat×Operand)):ARes:=
  match sliceElem E t,partsSome ρ parts.toList with
  | some j,some ps=>if lit then .ofV σ (aLitSlice j len ps) else .ofO (aBuildSlice j len ps σ)
  | _,_=>.bad
def aF_load (E:Env) (lit:Bool) (ρ:ARho) (σ:AStore) (t:TypeId) (a:Operand):ARes:=
  match E.ty t,ρ a with
  | some i,some p=>.ofV σ (aLoad i.isA i.size p σ)
  | _,_=>.bad
def aF_store (E:Env) (lit:Bool) (ρ:ARho) (σ:AStore) (t:TypeId) (a:Operand) (x:Operand):ARes:=
  match E.ty t,ρ a,ρ x with
  | some i,some p,some v=>.ofS (aStore i.size p v σ)
  | _,_,_=>.bad
def aF_nilCheck (E:Env) (lit:Bool) (ρ:ARho) (σ:AStore) (x:Operand):ARes:=
  match ρ x with
  | some (.ptr b i k)=>.val (.ptr b i k) σ
  | some (.iptr cs)=>.val (.iptr cs) σ
  | some (.func (.func f) a b)=>.val (.func (.func f) a b) σ
  | some (.iface t v)=>.val (.iface t v) σ
  | _=>.bad
def aF_binOp (E:Env) (lit:Bool) (ρ:ARho) (σ:AStore) (op:BinOp) (t:TypeId) (x:Operand) (y:Operand):ARes:=
  match E.ty t,ρ x,ρ y with
  | some i,some a,some b=>.ofV σ (aBin2 E t i.desc op (isConstOp x || isConstOp y) a b)
  | _,_,_=>.bad
def aF_unOp (E:Env) (lit:Bool) (ρ:ARho) (σ:AStore) (op:UnOp) (x:Operand):ARes:=
  match ρ x with
  | some a=>.ofV σ (aUn op a)
  | none=>.bad
def aF_convert (E:Env) (lit:Bool) (ρ:ARho) (σ:AStore) (s:TypeId) (d:TypeId) (x:Operand):ARes:=
  match E.ty s,E.ty d,ρ x with
  | some i,some j,some a=>.ofO (aConv E.ty i.desc j.desc a σ)
  | _,_,_=>.bad
def aF_makeInterface (E:Env) (lit:Bool) (ρ:ARho) (σ:AStore) (t:TypeId) (x:Operand):ARes:=
  match E.ty t,ρ x with
  | some i,some a=>.ofV σ (aIface i.desc t a)
  | _,_=>.bad
def aF_makeFunc (E:Env) (lit:Bool) (ρ:ARho) (σ:AStore) (fn:Fn) (first:Array Operand) (captured:Array Operand):ARes:=
  match allSome ρ first.toList,allSome ρ captured.toList with
  | some a,some b=>.val (.func fn a b) σ
  | _,_=>.bad
def aF_makeMap0 (E:Env) (lit:Bool) (ρ:ARho) (σ:AStore):ARes:=.val (.map σ.next) (σ.alloc (.map [] 0))
def aF_makeMap1 (E:Env) (lit:Bool) (ρ:ARho) (σ:AStore) (t:TypeId) (r:Operand):ARes:=
  match mapOf E t,ρ r with
  | some _,some (.sc (.int _ _))=>.val (.map σ.next) (σ.alloc (.map [] 0))
  | _,_=>.bad
def aF_makeSlice (E:Env) (lit:Bool) (ρ:ARho) (σ:AStore) (t:TypeId) (l:Operand) (c:Operand):ARes:=
  match sliceElem E t,ρ l,ρ c with
  | some j,some a,some b=>.ofO (aMakeSlice j a b σ)
  | _,_,_=>.bad
def aF_slice (E:Env) (lit:Bool) (ρ:ARho) (σ:AStore) (t:TypeId) (x:Operand) (lo:Option Operand) (hi:Option Operand):ARes:=
  match E.ty t,ρ x,optSome ρ lo,optSome ρ hi with
  | some i,some a,some l,some h=>
   match i.desc with
   | .string=>.ofV σ (aSliceStr a l h)
   | .slice e=>match E.ty e with
    | some j=>.ofV σ (aSlice j.size a l h σ)
    | none=>.bad
   | .pointer arr=>match E.ty arr with
    | some ia=>match ia.desc with
     | .array n e=>match E.ty e with
      | some j=>.ofO (aSliceArr n j.size a l h σ)
      | none=>.bad
     | _=>.bad
    | none=>.bad
   | .array n e=>match E.ty e with
    | some j=>.ofO (aSliceArr n j.size a l h σ)
    | none=>.bad
   | _=>.bad
  | _,_,_,_=>.bad
def aF_slice3 (E:Env) (lit:Bool) (ρ:ARho) (σ:AStore) (t:TypeId) (x:Operand) (lo:Option Operand) (hi:Option Operand) (m:Operand):ARes:=
  match E.ty t,ρ x,optSome ρ lo,optSome ρ hi,optSome ρ (some m) with
  | some i,some a,some l,some h,some mx=>
   match i.desc with
   | .slice e=>match E.ty e with
    | some j=>.ofV σ (aSlice3 j.size a l h mx σ)
    | none=>.bad
   | _=>.bad
  | _,_,_,_,_=>.bad
def aF_fieldAddr (E:Env) (lit:Bool) (ρ:ARho) (σ:AStore) (s:TypeId) (x:Operand) (f:Nat):ARes:=
  match fieldOf E s f,ρ x with
  | some (off,j),some p=>if j.size≠0 then .ofV σ (aField off p) else .bad
  | _,_=>.bad
def aF_field (E:Env) (lit:Bool) (ρ:ARho) (σ:AStore) (s:TypeId) (x:Operand) (f:Nat):ARes:=
  match fieldOf E s f,ρ x with
  | some (off,j),some a=>.ofV σ (aPart j.isA j.size off a)
  | _,_=>.bad
def aF_indexAddr (E:Env) (lit:Bool) (ρ:ARho) (σ:AStore) (t:TypeId) (x:Operand) (ix:Operand):ARes:=
  match ρ x,ρ ix with
  | some a,some i=>
   match sliceElem E t with
   | some j=>.ofV σ (aIndexS j.size a i σ)
   | none=>match arrayOf E t with
    | some (n,j)=>.ofV σ (aIndexA n j.size a i)
    | none=>.bad
  | _,_=>.bad
def aF_index (E:Env) (lit:Bool) (ρ:ARho) (σ:AStore) (t:TypeId) (x:Operand) (ix:Operand):ARes:=
  match ρ x,ρ ix with
  | some a,some i=>
   match arrayOf E t with
   | some (n,j)=>.ofV σ (aIndexV n j.isA j.size a i)
   | none=>match E.ty t with
    | some ti=>match ti.desc with
     | .string=>.ofV σ (aIndexStr a i)
     | _=>.bad
    | none=>.bad
  | _,_=>.bad
def aF_lookup (E:Env) (lit:Bool) (ρ:ARho) (σ:AStore) (t:TypeId) (x:Operand) (ix:Operand) (ok:Bool):ARes:=
  match mapOf E t,ρ x,ρ ix with
  | some (ki,ei),some a,some k=>.ofV σ (aLookup ki.desc ei.zero ok a k σ)
  | _,_,_=>.bad
def aF_mapUpdate (E:Env) (lit:Bool) (ρ:ARho) (σ:AStore) (t:TypeId) (m:Operand) (k:Operand) (x:Operand):ARes:=
  match mapOf E t,ρ m,ρ k,ρ x with
  | some (ki,_),some a,some k,some v=>.ofS (aMapSet ki.desc a k v σ)
  | _,_,_,_=>.bad
def aF_range (E:Env) (lit:Bool) (ρ:ARho) (σ:AStore) (t:TypeId) (x:Operand):ARes:=
  match E.ty t,ρ x with
  | some i,some a=>.ofO (aRange i.desc a σ)
  | _,_=>.bad
def aF_next (E:Env) (lit:Bool) (ρ:ARho) (σ:AStore) (it:Operand) (isS:Bool):ARes:=
  match ρ it with
  | some a=>.ofL (aNext a isS σ)
  | none=>.bad
def aF_entry (E:Env) (lit:Bool) (ρ:ARho) (σ:AStore) (it:Operand):ARes:=
  match ρ it with
  | some a=>.ofV σ (aEntry a σ)
  | none=>.bad
def aF_typeAssert (E:Env) (lit:Bool) (ρ:ARho) (σ:AStore) (x:Operand) (t:TypeId) (ok:Bool):ARes:=
  match E.ty t,ρ x with
  | some i,some a=>.ofV σ (aAssert i.desc t i.zero ok a)
  | _,_=>.bad
def aF_extract (E:Env) (lit:Bool) (ρ:ARho) (σ:AStore) (t:Operand) (ix:Nat):ARes:=
  match ρ t with
  | some a=>.ofV σ (aExtract a ix)
  | none=>.bad
def aF_call (E:Env) (lit:Bool) (ρ:ARho) (σ:AStore) (c:Call):ARes:=
  match allSome ρ c.args.toList with
  | some args=>
   match c.callee with
   | .builtin b=>aBuiltin E b c.argTypes.toList args σ
   | .value f=>
    match ρ f with
    | some (.func (.func g) first cap)=>if E.fns g=true then .enter (.fn g) (first++args++cap) else if E.nes g=true then (match first++args++cap with|[x]=>.val x σ|_=>.bad) else .bad
    | some (.yld b)=>match σ.get b with
     | some (.loop _ _ ps _ _ _ nt _)=>if args.length=ps.size/\(ps.toList.all fun t=>Nat.blt t nt)=true/\nt < 1000000 then .enter (.yld b) args else .bad
     | _=>.bad
    | _=>.bad
   | .invoke _ _=>.bad
  | none=>.bad
def aF_defer (E:Env) (lit:Bool) (ρ:ARho) (σ:AStore) (c:Call):ARes:=
  match allSome ρ c.args.toList with
  | some args=>
   match c.callee with
   | .value f=>
    match ρ f with
    | some (.func (.func g) first cap)=>.dfr ⟨.func g,cap,first++args⟩
    | _=>.bad
   | _=>.bad
  | none=>.bad
def aF_panic (E:Env) (lit:Bool) (ρ:ARho) (σ:AStore) (x:Operand):ARes:=
  match ρ x with
  | some (.iface t v)=>.pan (.iface t v)
  | _=>.bad
def aOpF (E:Env) (lit:Bool) (op:Op) (ρ:ARho) (σ:AStore):ARes:=
 match op with
 | .move x|.assign x=>aF_move E lit ρ σ x
 | .pick c a b=>aF_pick E lit ρ σ c a b
 | .alloc t=>aF_alloc E lit ρ σ t
 | .box _ x=>aF_box E lit ρ σ x
 | .build t parts=>aF_build E lit ρ σ t parts
 | .buildSlice t len parts=>aF_buildSlice E lit ρ σ t len parts
 | .load t a=>aF_load E lit ρ σ t a
 | .store t a x=>aF_store E lit ρ σ t a x
 | .nilCheck x=>aF_nilCheck E lit ρ σ x
 | .binOp op t x y _=>aF_binOp E lit ρ σ op t x y
 | .unOp op _ x=>aF_unOp E lit ρ σ op x
 | .convert s d x=>aF_convert E lit ρ σ s d x
 | .makeInterface t x=>aF_makeInterface E lit ρ σ t x
 | .makeFunc fn first captured=>aF_makeFunc E lit ρ σ fn first captured
 | .makeMap _ none=>aF_makeMap0 E lit ρ σ
 | .makeMap t (some r)=>aF_makeMap1 E lit ρ σ t r
 | .makeSlice t l c=>aF_makeSlice E lit ρ σ t l c
 | .slice t x lo hi none=>aF_slice E lit ρ σ t x lo hi
 | .slice t x lo hi (some m)=>aF_slice3 E lit ρ σ t x lo hi m
 | .fieldAddr s x f=>aF_fieldAddr E lit ρ σ s x f
 | .field s x f=>aF_field E lit ρ σ s x f
 | .indexAddr t x ix=>aF_indexAddr E lit ρ σ t x ix
 | .index t x ix=>aF_index E lit ρ σ t x ix
 | .lookup t x ix ok=>aF_lookup E lit ρ σ t x ix ok
 | .mapUpdate t m k x|.insert t m k x=>aF_mapUpdate E lit ρ σ t m k x
 | .range t x=>aF_range E lit ρ σ t x
 | .next it isS=>aF_next E lit ρ σ it isS
 | .entry it=>aF_entry E lit ρ σ it
 | .typeAssert x _ t ok=>aF_typeAssert E lit ρ σ x t ok
 | .extract t ix=>aF_extract E lit ρ σ t ix
 | .call c=>aF_call E lit ρ σ c
 | .defer c=>aF_defer E lit ρ σ c
 | .panic x=>aF_panic E lit ρ σ x
 | _=>.bad
theorem aOpF_eq (E:Env) (lit:Bool) (op:Op) (ρ:ARho) (σ:AStore):aOpF E lit op ρ σ=aOp E lit op ρ σ:=by
 cases op
 case makeMap t r=>cases r<;>rfl
 case slice t x lo hi m=>cases m<;>rfl
 all_goals rfl
def AAct.putF (a:AAct) (dst:Option Tmp) (x:Option AVal):AAct:=
 @Option.rec Tmp (fun _=>AAct) a (fun d=>@AAct.rec (fun _=>AAct) (fun t n ds=>⟨T.put 20 t d x,n,ds⟩) a) dst
theorem AAct.putF_eq (a:AAct) (dst:Option Tmp) (x:Option AVal):a.putF dst x=a.put dst x:=by
 cases a; cases dst
 ·rfl
 ·rfl
def AAct.evF (G:Nat->AVal) (a:AAct) (x:Operand):Option AVal:=
 @Operand.rec (fun _=>Option AVal) (fun t=>@AAct.rec (fun _=>Option AVal) (fun s _ _=>s.get t) a) (fun v=>some (absV v)) (fun g=>some (G g)) (fun f=>some (.func (.func f) [] [])) x
theorem AAct.evF_eq (G:Nat->AVal) (a:AAct):a.evF G=a.ev G:=by
 funext x
 cases x
 ·cases a; rfl
 all_goals rfl
def xGuard (ops:Array Oper) (a:AAct):Option (Nat×Bool)->Option Bool
 | none=>some true
 | some (j,want)=>(aYield ops a j).map (·==some want)
def xRet (k:AAct->AStore->Option (List Out)) (dst:Option Tmp) (a:AAct) (r:OutE):Option (List Out):=
 match r.1 with
 | .ret v=>k (a.putF dst (some v)) r.2
 | .pan v=>some [(.pan v,a,r.2)]
def xEnter (k:AAct->AStore->Option (List Out)) (dst:Option Tmp) (a:AAct) (r:Option (List OutE)):Option (List Out):=
 @Option.rec (List OutE) (fun _=>Option (List Out)) none (fun outs=>bindO outs (xRet k dst a)) r
def xVals (k:AAct->AStore->Option (List Out)) (dst:Option Tmp) (a:AAct) (p:AVal×AStore):Option (List Out):=k (a.putF dst (some p.1)) p.2
def xRes (rd:Option Nat) (call:XCall) (k:AAct->AStore->Option (List Out)) (dst:Option Tmp) (a:AAct) (σ:AStore) (r:ARes):Option (List Out):=
 @ARes.rec (fun _=>Option (List Out))
  (fun v σ'=>k (a.putF dst (some v)) σ')
  (fun l=>bindO l (xVals k dst a))
  (fun σ'=>k (a.putF dst (some undefA)) σ')
  (fun f args=>xEnter k dst a (call f args σ))
  (fun d=>@Option.rec Nat (fun _=>Option (List Out)) (k (({a with defers:=d::a.defers}:AAct).putF dst (some undefA)) σ) (fun _=>none) rd)
  (fun v=>some [(.pan v,a,σ)])
  none none r
def xDo (E:Env) (call:XCall) (k:AAct->AStore->Option (List Out)) (o:Oper) (a:AAct) (σ:AStore) (g:Option Bool):Option (List Out):=
 @Option.rec Bool (fun _=>Option (List Out)) none
  (fun b=>@Bool.rec (fun _=>Option (List Out)) (k (a.putF o.dst (some undefA)) σ) (xRes E.rd call k o.dst a σ (aOpF E false o.op (a.evF E.G) σ)) b) g
def xOpsF (E:Env) (call:XCall) (ops:Array Oper) (l:List Oper):AAct->AStore->Option (List Out):=
 @List.rec Oper (fun _=>AAct->AStore->Option (List Out)) (fun a σ=>some [(.normal,a,σ)])
  (fun o _ k a σ=>@Bool.rec (fun _=>Option (List Out)) none (xDo E call k o a σ (xGuard ops a o.guard)) (a.fits o.dst)) l
theorem xOpsF_eq (E:Env) (call:XCall) (ops:Array Oper):∀ (l:List Oper) (a:AAct) (σ:AStore),xOpsF E call ops l a σ=xOps E call ops l a σ
  | [],a,σ=>rfl
  | o :: rest, a, σ => by
      have ih:xOpsF E call ops rest=xOps E call ops rest:=by funext a σ; exact xOpsF_eq E call ops rest a σ
      show @Bool.rec (fun _=>Option (List Out)) none (xDo E call (xOpsF E call ops rest) o a σ (xGuard ops a o.guard)) (a.fits o.dst)=_
      unfold xOps
      rw [ih]
      have hret : ∀ k, xRet k o.dst a = fun r => match r.1 with
          | .ret v=>k (a.put o.dst (some v)) r.2
          | .pan v=>some [(.pan v,a,r.2)]:=by
        intro k; funext r; unfold xRet; simp only [AAct.putF_eq]
      have hvals:∀ k,xVals k o.dst a=fun p=>k (a.put o.dst (some p.1)) p.2:=by
        intro k; funext p; simp only [xVals,AAct.putF_eq]
      cases a.fits o.dst with
      | false=>rfl
      | true=>
        simp only []
        unfold xDo xGuard
        have go : xRes E.rd call (xOps E call ops rest) o.dst a σ (aOp E false o.op (a.ev E.G) σ) = (match aOp E false o.op (a.ev E.G) σ with
            | .val v σ'=>xOps E call ops rest (a.put o.dst (some v)) σ'
            | .vals l=>bindO l fun p=>xOps E call ops rest (a.put o.dst (some p.1)) p.2
            | .skip σ'=>xOps E call ops rest (a.put o.dst (some undefA)) σ'
            | .enter f args=>
              match call f args σ with
              | none=>none
              | some outs=>bindO outs fun r=>
                match r.1 with
                | .ret v=>xOps E call ops rest (a.put o.dst (some v)) r.2
                | .pan v=>some [(.pan v,a,r.2)]
            | .dfr d=>match E.rd with
              | none=>xOps E call ops rest (({a with defers:=d::a.defers}:AAct).put o.dst (some undefA)) σ
              | some _=>none
            | .pan v=>some [(.pan v,a,σ)]
            | .recov=>none
            | .bad=>none):=by
          unfold xRes
          cases aOp E false o.op (a.ev E.G) σ with
          | vals l=>simp only [hvals]
          | enter f args=>
            simp only [xEnter]
            cases call f args σ with
            | none=>rfl
            | some outs=>simp only [hret]
          | dfr d=>simp only [AAct.putF_eq]; cases E.rd<;>rfl
          | _=>first|rfl|simp only [AAct.putF_eq]
        cases o.guard with
        | none=>
          simp only [aOpF_eq,AAct.evF_eq]
          exact go
        | some jw=>
          obtain ⟨j,want⟩:=jw
          simp only []
          cases (aYield ops a j).map (·==some want) with
          | none=>rfl
          | some b=>
            cases b with
            | false=>simp only [AAct.putF_eq]
            | true=>
              simp only [aOpF_eq,AAct.evF_eq]
              exact go
end Abs
end
