/- Part of the abstract layer; it proves no statement by itself. -/
import Derived.Test.YtkhjmhdpaikokaaGreatDoorAbsFz
import Derived.WideKeyArgs
import Derived.ChangeSame
import Derived.KernelRfl
set_option linter.unusedVariables false
set_option linter.unusedSimpArgs false
set_option linter.unusedSectionVars false
noncomputable section
namespace Abs
open Go Go.ChangeShapes
theorem okWide_notagg {P:Program} {w:World} {r:Reach} {base:Nat} {t:TypeId} {v:Value} (h:Value.okWide P w r base t v) (ht:isAggT P t=false):∀ cs,v≠.agg cs:=by
 rintro cs rfl
 unfold Value.okWide at h
 unfold isAggT at ht
 cases hu:P.underlying t with
 | none=>rw [hu] at h; simp [Cell.okWide,Cell.ok,hu] at h
 | some d=>
  rw [hu] at h ht
  cases d<;>simp only [] at h ht<;>first
   | (cases ht; done)
   | (simp [Cell.okWide,Cell.ok,hu] at h; done)
theorem okWide_agg {P:Program} {w:World} {r:Reach} {base:Nat} {t:TypeId} {v:Value} (h:Value.okWide P w r base t v) (ht:isAggT P t=true):∃ cs,v=.agg cs:=by
 unfold Value.okWide at h
 unfold isAggT at ht
 cases hu:P.underlying t with
 | none=>rw [hu] at ht; cases ht
 | some d=>
  rw [hu] at h ht
  cases d<;>simp only [] at h ht<;>first
   | (cases ht; done)
   | (obtain ⟨cs,h1,_⟩:=h; exact ⟨cs,h1⟩)
section
variable {H:Type} {enc:TypeId×Value->H} {P:Program} {w:World} {sp:Nat->Bool} {held:Bool} {ι:Inj}
end
theorem keptBut_of {w w':World} (hs:Same w w') (h:∀ (c:Nat) (o:Obj),w.heap[c]?=some o->w'.heap[c]?=some o) (may:MemPlace->Prop):w.keptBut w' may:=by
 refine ⟨hs.1,hs.2,fun i hi=>?_⟩
 obtain ⟨o,ho⟩:∃ o,w.heap[i]?=some o:=⟨w.heap[i],by simp [hi]⟩
 rw [ho,h i o ho]
 cases o<;>simp
theorem sameAt_of {w w':World} (h:∀ (c:Nat) (o:Obj),w.heap[c]?=some o->w'.heap[c]?=some o) {p:MemPlace} (hp:p.block < w.heap.size):w.sameAt w' p:=by
 have hb:w'.heap[p.block]?=w.heap[p.block]?:=by
  have:w.heap[p.block]?=some w.heap[p.block]:=by simp [hp]
  rw [this]; exact h _ _ this
 cases p with
 | cell b off=>simp only [World.sameAt,World.cell?]; simp only [MemPlace.block] at hb; rw [hb]
 | map b=>exact hb
theorem trodAll_keeps {H : Type} {enc : TypeId × Value → H} {P : Program} {W W' : World} (hl : laidOutB P = true) {sp' : Nat → Bool} : ∀ {ts : List TypeId} {vs : List Value} {ds : List (DataW H)} {ps : List MemPlace},
    (∀ t∈ts,P.readableRec t=true/\t < P.types.size)->DataW.TrodAll enc P W 0 (fun _=>true) true ts vs ds ps->(∀ p∈ps,W.sameAt W' p)->(∀ p∈ps,sp' p.block=true)->DataW.TrodAll enc P W' 0 sp' true ts vs ds ps
  | [],[],[],_,_,h,_,_=>h
  | t :: ts, v :: vs, d :: ds, _, ht, ⟨p, q, h1, h2, e⟩, hs, hsp => by
      subst e
      have ht0:=ht t (by simp)
      exact ⟨p,q,WideElems.Trod_stays hl ht0.1 ht0.2 h1 (fun x hx=>hs x (List.mem_append_left _ hx)) (fun x hx=>hsp x (List.mem_append_left _ hx)),
        trodAll_keeps hl (fun t ht'=>ht t (by simp [ht'])) h2 (fun x hx=>hs x (List.mem_append_right _ hx)) (fun x hx=>hsp x (List.mem_append_right _ hx)),rfl⟩
theorem post_keeps {H:Type} {enc:TypeId×Value->H} {P:Program} {f:Func} {s:ChangeSpec} {apart fresh handsOn:Bool} {W W':World} {args:Array Value} {v:Value} {ds:List (DataW H)} {before:List MemPlace}
  (hvars:s.vars=[]) (hW:DataW.Whole enc P f.params.toList s.vars apart W args.toList ds [] before)
  (hres:∀ (b:Nat) (sp:Nat->Bool),DataW.TrodAll enc P W' b sp handsOn f.resultTypes.toList (v.resultList f.resultTypes.size) (s.fn H (ds++[])).results [])
  (hargs:(s.fn H (ds++[])).args=ds) (hv:(s.fn H (ds++[])).vars=[])
  (hl:laidOutB P=true) (ht:(f.params.toList.all fun t=>P.readableRec t && decide (t < P.types.size))=true)
  (hs:Same W W') (hg:∀ (c:Nat) (o:Obj),W.heap[c]?=some o->W'.heap[c]?=some o):s.post enc P f apart fresh handsOn false W args v W':=by
 have hlt:=hW.lt
 have hW':=hW
 obtain ⟨p,q,hA,hV,rfl,_,_⟩:=hW
 have hq:q=[]:=by rw [hvars] at hV; exact hV
 subst hq
 refine ⟨ds,[],p++[],[],p,[],hW',hres _ _,?_,?_,keptBut_of hs hg _,fun h=>by cases h⟩
 ·rw [hargs]
  refine trodAll_keeps hl ?_ hA (fun x hx=>sameAt_of hg (hlt x (by simpa using hx))) (fun x hx=>by simpa using hlt x (by simpa using hx))
  intro t ht'
  rw [List.all_eq_true] at ht
  simpa using ht t ht'
 ·rw [hvars,hv]; rfl
end Abs
end
noncomputable section
namespace Abs
open Go
section
variable {E:Env} {lit:Bool} {ρ:ARho} {σ:AStore}
def opCV (E:Env) (σ:AStore):Option AVal->Option (List AVal)->ARes
 | some (.func (.func g) first cap),some args=>if E.fns g=true then .enter (.fn g) (first++args++cap) else if E.nes g=true then (match first++args++cap with|[x]=>.val x σ|_=>.bad) else .bad
 | some (.yld b),some args=>match σ.get b with
  | some (.loop _ _ ps _ _ _ nt _)=>if args.length=ps.size/\(ps.toList.all fun t=>Nat.blt t nt)=true/\nt < 1000000 then .enter (.yld b) args else .bad
  | _=>.bad
 | _,_=>.bad
theorem op_callt {t:Nat} {as:Array Operand} {ts:Array TypeId}:aOp E lit (.call ⟨.value (.tmp t),as,ts⟩) ρ σ=opCV E σ (ρ (.tmp t)) (allSome ρ as.toList):=by
  simp only [aOp]
  cases allSome ρ as.toList with
  | none=>cases ρ (.tmp t) with
    | none=>rfl
    | some v => cases v <;> try rfl
                rename_i fn a b; cases fn<;>rfl
  | some args=>
    cases ρ (.tmp t) with
    | none=>rfl
    | some v => cases v <;> try rfl
                rename_i fn a b; cases fn<;>rfl
theorem opCV_func {g:FuncId} {first cap args:List AVal}:opCV E σ (some (.func (.func g) first cap)) (some args)=if E.fns g=true then .enter (.fn g) (first++args++cap) else if E.nes g=true then (match first++args++cap with|[x]=>.val x σ|_=>.bad) else .bad:=rfl
def opMF (σ:AStore) (fn:Fn):Option (List AVal)->Option (List AVal)->ARes
 | some a,some b=>.val (.func fn a b) σ
 | _,_=>.bad
theorem op_makeFunc {fn:Fn} {a b:Array Operand}:aOp E lit (.makeFunc fn a b) ρ σ=opMF σ fn (allSome ρ a.toList) (allSome ρ b.toList):=by
 simp only [aOp]
 cases allSome ρ a.toList<;>cases allSome ρ b.toList<;>rfl
theorem opMF_some {fn:Fn} {a b:List AVal}:opMF σ fn (some a) (some b)=.val (.func fn a b) σ:=rfl
def opCvI (σ:AStore) (k:IntKind):Option AVal->ARes
 | some (.sc (.int _ n))=>.val (.sc (.int k (k.wrap n))) σ
 | _=>.bad
theorem op_convInt {s d:TypeId} {x:Operand} {k:IntKind} (hs:(tyA E s).isSome=true) (hd:kindD E d=some (.int k)):aOp E lit (.convert s d x) ρ σ=opCvI σ k (ρ x):=by
 unfold tyA at hs
 unfold kindD at hd
 simp only [aOp]
 cases h1:E.ty s with
 | none=>rw [h1] at hs; cases hs
 | some i=>
  cases h2:E.ty d with
  | none=>rw [h2] at hd; cases hd
  | some j=>
   rw [h2] at hd
   have hj:j.desc=.int k:=by cases hd':j.desc<;>simp_all
   cases ρ x with
   | none=>rfl
   | some v=>
    simp only [hj]
    cases v<;>try rfl
    rename_i v
    cases v<;>rfl
theorem opCvI_int {k k':IntKind} {n:Int}:opCvI σ k (some (.sc (.int k' n)))=.val (.sc (.int k (k.wrap n))) σ:=rfl
def eqL:List Bool->List AVal->List AVal->Option Bool
 | [],[],[]=>some true
 | true::ks,.sc (.int k a)::xs,.sc (.int k' b)::ys=>if k=k' then (eqL ks xs ys).map fun r=>decide (a=b) && r else none
 | false::ks,.sc (.bool a)::xs,.sc (.bool b)::ys=>(eqL ks xs ys).map fun r=>(a==b) && r
 | _,_,_=>none
def plainFs (E:Env):List Field->Nat->Option (List Bool)
 | [],_=>some []
 | fd::r,o=>match E.ty fd.type with
  | some j=>match !decide (fd.name= "_") && Nat.beq fd.offset o && !j.isA with
   | true=>match j.desc with
    | .int _=>(plainFs E r (o+1)).map (true::·)
    | .bool=>(plainFs E r (o+1)).map (false::·)
    | _=>none
   | false=>none
  | none=>none
theorem drop_cons {α:Type} {l l':List α} {x:α} {o:Nat} (h:l.drop o=x::l'):l.drop (o+1)=l'/\l[o]?=some x:=by
 refine ⟨by rw [<-List.drop_drop,h]; rfl,?_⟩
 have:=List.getElem?_drop (xs:=l) (i:=o) (j:=0)
 rw [h] at this; simpa using this.symm
theorem aEqFs_plain {d:Nat} {xs ys:List AVal}:∀ (fs:List Field) (o:Nat) (ks:List Bool) (b:Bool),plainFs E fs o=some ks->eqL ks (xs.drop o) (ys.drop o)=some b->aEqFs E (aEqIn E (d+1)) xs ys fs=some b
  | [], o, ks, b, hp, h => by
      cases hp
      unfold eqL at h
      split at h<;>first|exact h|(cases h; done)|(rename_i hc _ _; cases hc; done)|(rename_i hc _; cases hc; done)
  | fd :: r, o, ks, b, hp, h => by
      unfold plainFs at hp
      cases hj:E.ty fd.type with
      | none=>rw [hj] at hp; cases hp
      | some j=>
        rw [hj] at hp
        simp only [] at hp
        cases hb:!decide (fd.name= "_") && Nat.beq fd.offset o && !j.isA with
        | false=>rw [hb] at hp; cases hp
        | true=>
          rw [hb] at hp
          simp only [Bool.and_eq_true,Bool.not_eq_true'] at hb
          obtain ⟨⟨h1,h2⟩,h3⟩:=hb
          have h2:=Nat.eq_of_beq_eq_true h2
          have fin : ∀ (x y : AVal) (xs' ys' : List AVal) (ks' : List Bool) (q : Bool), plainFs E r (o + 1) = some ks' → xs.drop o = x :: xs' → ys.drop o = y :: ys' → aEqIn E (d + 1) fd.type x y = some q →
              (eqL ks' xs' ys').map (fun r=>q && r)=some b->aEqFs E (aEqIn E (d+1)) xs ys (fd::r)=some b:=by
            intro x y xs' ys' ks' q hk hx hy hq hr
            obtain ⟨hx1,hxo⟩:=drop_cons hx
            obtain ⟨hy1,hyo⟩:=drop_cons hy
            cases hr':eqL ks' xs' ys' with
            | none=>rw [hr'] at hr; cases hr
            | some r'=>
              rw [hr'] at hr
              simp only [Option.map_some,Option.some.injEq] at hr
              have ih:=aEqFs_plain (xs:=xs) (ys:=ys) (d:=d) r (o+1) ks' r' hk (by rw [hx1,hy1]; exact hr')
              unfold aEqFs
              have l1:loadCs j.isA j.size fd.offset xs=some x:=by rw [h3,h2]; exact hxo
              have l2:loadCs j.isA j.size fd.offset ys=some y:=by rw [h3,h2]; exact hyo
              simp only [h1,hj,l1,l2,hq]
              cases q with
              | false=>simp only [Bool.false_and] at hr; subst hr; rfl
              | true=>simp only [Bool.true_and] at hr; subst hr; exact ih
          simp only [] at hp
          cases hd:j.desc<;>rw [hd] at hp<;>simp only [] at hp<;>first|(cases hp; done)|skip
          · cases hk:plainFs E r (o+1) with
            | none=>rw [hk] at hp; cases hp
            | some ks'=>
              rw [hk] at hp
              simp only [Option.map_some,Option.some.injEq] at hp
              subst hp
              unfold eqL at h
              split at h<;>first|(rename_i hc _ _; cases hc; done)|(rename_i hc; cases hc; done)|skip
              · rename_i ks2 a xs' b' ys' hks hx hy
                cases hks
                exact fin _ _ xs' ys' ks' (a==b') hk hx hy (by simp [aEqIn,hj,hd]) h
              all_goals first|(cases h; done)|(rename_i hc _ _; cases hc; done)
          · cases hk:plainFs E r (o+1) with
            | none=>rw [hk] at hp; cases hp
            | some ks'=>
              rw [hk] at hp
              simp only [Option.map_some,Option.some.injEq] at hp
              subst hp
              unfold eqL at h
              split at h<;>first|(rename_i hc _ _; cases hc; done)|(rename_i hc; cases hc; done)|skip
              · rename_i ks2 k1 a xs' k2 b' ys' hks hx hy
                cases hks
                split at h
                · rename_i hkk
                  subst hkk
                  exact fin _ _ xs' ys' ks' (decide (a=b')) hk hx hy (by simp only [aEqIn,hj,hd,if_true]; rfl) h
                · cases h
              all_goals first|(cases h; done)|(rename_i hc _ _; cases hc; done)
def eqD (E:Env) (t:TypeId):Option (List Bool):=
 match E.ty t with
 | some i=>match i.desc with
  | .struct fs=>match E.P.stoodInHeld t || E.P.eqGuardType E.P.depth t with
   | false=>plainFs E fs.toList 0
   | true=>none
  | _=>none
 | none=>none
theorem eqD_spec {t:TypeId} {ks:List Bool} (h:eqD E t=some ks):∃ i,E.ty t=some i/\E.P.eqGuardType E.P.depth t=false/\∀ xs ys b,eqL ks xs ys=some b->aEqIn E 10000 t (.agg xs) (.agg ys)=some b:=by
 unfold eqD at h
 cases hE:E.ty t with
 | none=>rw [hE] at h; cases h
 | some i=>
  rw [hE] at h
  simp only [] at h
  cases hd:i.desc<;>rw [hd] at h<;>simp only [] at h<;>first|(cases h; done)|skip
  rename_i fs
  cases hb:E.P.stoodInHeld t || E.P.eqGuardType E.P.depth t with
  | true=>rw [hb] at h; cases h
  | false=>
   rw [hb] at h
   simp only [Bool.or_eq_false_iff] at hb
   refine ⟨i,rfl,hb.2,fun xs ys b hl=>?_⟩
   have:=aEqFs_plain (d:=9998) (xs:=xs) (ys:=ys) fs.toList 0 ks b h (by simpa using hl)
   show aEqIn E (9999+1) t (.agg xs) (.agg ys)=some b
   unfold aEqIn
   simp only [hE,hd,hb.1]
   exact this
theorem opBin_neA {t:TypeId} {cst:Bool} {xs ys:List AVal} {ks:List Bool} (h:eqD E t=some ks) {b:Bool} (hb:eqL ks xs ys=some b):opBin E σ .neq t cst (some (.agg xs)) (some (.agg ys))=.val (.sc (.bool !b)) σ:=by
 obtain ⟨i,h1,h2,h3⟩:=eqD_spec h
 simp [opBin,h1,aBin2,h2,h3 xs ys b hb,ARes.ofV]
end
theorem wrapU {x:Int} (h1:0<=x) (h2:x < 18446744073709551616):IntKind.u64.wrap x=x:=by
 have key:IntKind.u64.wrap x=x % 2 ^ 64:=by simp [IntKind.wrap,IntKind.bits,IntKind.signed]
 rw [key]; omega
attribute [go_sem] op_callt opCV_func op_makeFunc opMF_some opCvI_int
end Abs
namespace Abs
open Go
section
variable {E:Env} {f:FuncId} {args:List AVal} {K:SPred} {e:Ev} {dst:Option Nat} {σ:AStore} {v:AVal}
theorem putR_ret {K:SPred} {k:Ev->AStore->Prop}:putR E K k e dst (.ret v) σ=k (putE e dst v) σ:=rfl
theorem ACalls.use1 (h:ACalls E f args σ fun e σ'=>σ'=σ/\e=.ret v) {k:Ev->AStore->Prop} (hk:k (putE e dst v) σ):ACalls E f args σ (putR E K k e dst):=by
 refine h.mono ?_
 rintro en σ' ⟨rfl,rfl⟩
 exact hk
theorem ACalls.use1D (h:ACalls E f args σ fun e σ'=>σ'=σ/\e=.ret v) {k:Ev->Bool->AStore->Prop} {m:Nat} {recs:List SRec} (hk:k (putE e dst v) true σ):ACalls E f args σ (dRet E m K k recs e dst true σ):=by
 refine h.mono ?_
 rintro en σ' ⟨rfl,rfl⟩
 exact .inl ⟨rfl,rfl,hk⟩
end
def GivesV (E:Env) (f:FuncId) (args:List AVal) (v:AVal):Prop:=∀ σ,ACalls E f args σ fun e σ'=>σ'=σ/\e=.ret v
theorem GivesV.of {E:Env} (hG:∀ g,WF 0 (E.G g)) {f:FuncId} {args:List AVal} (ha:WFs 0 args) {v:AVal} (N:Nat)
  (h:ACalls E f args empty fun e σ0=>∃ u,e=.ret u/\frz σ0 N u=some v):GivesV E f args v:=by
 intro σ
 have:=Gives.of (P:=fun u=>u=v) hG ha N (h.mono fun e σ0 ⟨u,h1,h2⟩=>⟨u,v,h1,h2,rfl⟩) σ
 refine this.mono ?_
 rintro e σ' ⟨h1,u,rfl,h2⟩
 exact ⟨h1,h2⟩
theorem GivesV.use {E:Env} {f:FuncId} {args:List AVal} {v:AVal} (h:GivesV E f args v) {K:SPred} {k:Ev->AStore->Prop} {e:Ev} {dst:Option Nat} {σ:AStore} (hk:k (putE e dst v) σ):ACalls E f args σ (putR E K k e dst):=(h σ).use1 hk
theorem GivesV.useD {E:Env} {f:FuncId} {args:List AVal} {v:AVal} (h:GivesV E f args v) {K:SPred} {k:Ev->Bool->AStore->Prop} {e:Ev} {dst:Option Nat} {m:Nat} {recs:List SRec} {σ:AStore} (hk:k (putE e dst v) true σ):
  ACalls E f args σ (dRet E m K k recs e dst true σ):=(h σ).use1D hk
theorem sc_remU {a b:Nat} (h:b≠0):scBin .rem (.int .u64 (a:Int)) (.int .u64 (b:Int))=some (.int .u64 ((a % b:Nat):Int)):=by
 rw [sc_rem (by omega),<-Int.ofNat_tmod]
theorem sc_quoU {a b:Nat} (h:b≠0) (h2:a < 18446744073709551616):scBin .quo (.int .u64 (a:Int)) (.int .u64 (b:Int))=some (.int .u64 ((a / b:Nat):Int)):=by
 rw [sc_quo (by omega)]
 have:a / b<=a:=Nat.div_le_self a b
 have e:(a:Int).tdiv (b:Int)=((a / b:Nat):Int):=(Int.ofNat_tdiv a b).symm
 rw [e]
 generalize a / b=c at this ⊢
 rw [wrapU (by omega) (by omega)]
def resC (σ:AStore):Option AVal->Option (Bool×Nat)->Option (List AVal)->Option (List AVal)
 | some p,some (a,m),some vs=>consO (aLoad a m p σ) (some vs)
 | _,_,_=>none
theorem vResults_cell {E:Env} {σ:AStore} {e:Ev} {t:Nat} {ty:TypeId} {r:List ResultVar}:vResults E (.cell t ty::r) e σ=resC σ (look? e t) (tyA E ty) (vResults E r e σ):=by
 simp only [vResults,tyA]
 cases look? e t<;>cases E.ty ty<;>cases vResults E r e σ<;>try rfl
 rename_i p i vs
 simp only [Option.map_some,resC]
 cases aLoad i.isA i.size p σ<;>rfl
theorem resC_some {σ:AStore} {p:AVal} {a:Bool} {m:Nat} {vs:List AVal}:resC σ (some p) (some (a,m)) (some vs)=consO (aLoad a m p σ) (some vs):=rfl
attribute [go_sem] vResults_cell resC_some
end Abs
end
noncomputable section
namespace Abs
open Go
def in64 (n:Int):Prop:=-9223372036854775808<=n/\n < 9223372036854775808
abbrev SL (α:Type):=(Option Addr×Nat)×List α
section
variable {P:Program}
theorem agg_of {x:AVal} {vs:List AVal} (ha:x.isAgg=true) (h:x.cells=vs):x=.agg vs:=by
 cases x<;>first|cases ha; done|(rw [<-h]; rfl)
theorem one_of {x v:AVal} (ha:x.isAgg=false) (h:x.cells=[v]):x=v:=by
 rw [AVal.cells_one ha] at h
 simpa using h
end
end Abs
end
