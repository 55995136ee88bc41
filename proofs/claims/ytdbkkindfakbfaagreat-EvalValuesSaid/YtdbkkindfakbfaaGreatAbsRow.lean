/- Part of the abstract layer; it proves no statement by itself. -/
import Derived.Test.YtdbkkindfakbfaaGreatAbsFz
import Derived.WideKeyArgs
import Derived.ChangeSame
import Derived.KernelRfl
set_option linter.unusedVariables false
set_option linter.unusedSimpArgs false
set_option linter.unusedSectionVars false
noncomputable section
namespace Abs
open Go Go.ChangeShapes
theorem okWide_notagg {P:Program} {w:World} {r:Reach} {base:Nat} {t:TypeId} {v:Value} (h:Value.okWide P w r base t v) (ht:isAggT P t=false):∀ cs,v≠.agg cs:=by
 rintro cs rfl
 unfold Value.okWide at h
 unfold isAggT at ht
 cases hu:P.underlying t with
 | none=>rw [hu] at h; simp [Cell.okWide,Cell.ok,hu] at h
 | some d=>
  rw [hu] at h ht
  cases d<;>simp only [] at h ht<;>first
   | (cases ht; done)
   | (simp [Cell.okWide,Cell.ok,hu] at h; done)
theorem okWide_agg {P:Program} {w:World} {r:Reach} {base:Nat} {t:TypeId} {v:Value} (h:Value.okWide P w r base t v) (ht:isAggT P t=true):∃ cs,v=.agg cs:=by
 unfold Value.okWide at h
 unfold isAggT at ht
 cases hu:P.underlying t with
 | none=>rw [hu] at ht; cases ht
 | some d=>
  rw [hu] at h ht
  cases d<;>simp only [] at h ht<;>first
   | (cases ht; done)
   | (obtain ⟨cs,h1,_⟩:=h; exact ⟨cs,h1⟩)
section
variable {H:Type} {enc:TypeId×Value->H} {P:Program} {w:World} {sp:Nat->Bool} {held:Bool} {ι:Inj}
end
theorem keptBut_of {w w':World} (hs:Same w w') (h:∀ (c:Nat) (o:Obj),w.heap[c]?=some o->w'.heap[c]?=some o) (may:MemPlace->Prop):w.keptBut w' may:=by
 refine ⟨hs.1,hs.2,fun i hi=>?_⟩
 obtain ⟨o,ho⟩:∃ o,w.heap[i]?=some o:=⟨w.heap[i],by simp [hi]⟩
 rw [ho,h i o ho]
 cases o<;>simp
theorem sameAt_of {w w':World} (h:∀ (c:Nat) (o:Obj),w.heap[c]?=some o->w'.heap[c]?=some o) {p:MemPlace} (hp:p.block < w.heap.size):w.sameAt w' p:=by
 have hb:w'.heap[p.block]?=w.heap[p.block]?:=by
  have:w.heap[p.block]?=some w.heap[p.block]:=by simp [hp]
  rw [this]; exact h _ _ this
 cases p with
 | cell b off=>simp only [World.sameAt,World.cell?]; simp only [MemPlace.block] at hb; rw [hb]
 | map b=>exact hb
theorem trodAll_keeps {H : Type} {enc : TypeId × Value → H} {P : Program} {W W' : World} (hl : laidOutB P = true) {sp' : Nat → Bool} : ∀ {ts : List TypeId} {vs : List Value} {ds : List (DataW H)} {ps : List MemPlace},
    (∀ t∈ts,P.readableRec t=true/\t < P.types.size)->DataW.TrodAll enc P W 0 (fun _=>true) true ts vs ds ps->(∀ p∈ps,W.sameAt W' p)->(∀ p∈ps,sp' p.block=true)->DataW.TrodAll enc P W' 0 sp' true ts vs ds ps
  | [],[],[],_,_,h,_,_=>h
  | t :: ts, v :: vs, d :: ds, _, ht, ⟨p, q, h1, h2, e⟩, hs, hsp => by
      subst e
      have ht0:=ht t (by simp)
      exact ⟨p,q,WideElems.Trod_stays hl ht0.1 ht0.2 h1 (fun x hx=>hs x (List.mem_append_left _ hx)) (fun x hx=>hsp x (List.mem_append_left _ hx)),
        trodAll_keeps hl (fun t ht'=>ht t (by simp [ht'])) h2 (fun x hx=>hs x (List.mem_append_right _ hx)) (fun x hx=>hsp x (List.mem_append_right _ hx)),rfl⟩
theorem post_keeps {H:Type} {enc:TypeId×Value->H} {P:Program} {f:Func} {s:ChangeSpec} {apart fresh handsOn:Bool} {W W':World} {args:Array Value} {v:Value} {ds:List (DataW H)} {before:List MemPlace}
  (hvars:s.vars=[]) (hW:DataW.Whole enc P f.params.toList s.vars apart W args.toList ds [] before)
  (hres:∀ (b:Nat) (sp:Nat->Bool),DataW.TrodAll enc P W' b sp handsOn f.resultTypes.toList (v.resultList f.resultTypes.size) (s.fn H (ds++[])).results [])
  (hargs:(s.fn H (ds++[])).args=ds) (hv:(s.fn H (ds++[])).vars=[])
  (hl:laidOutB P=true) (ht:(f.params.toList.all fun t=>P.readableRec t && decide (t < P.types.size))=true)
  (hs:Same W W') (hg:∀ (c:Nat) (o:Obj),W.heap[c]?=some o->W'.heap[c]?=some o):s.post enc P f apart fresh handsOn false W args v W':=by
 have hlt:=hW.lt
 have hW':=hW
 obtain ⟨p,q,hA,hV,rfl,_,_⟩:=hW
 have hq:q=[]:=by rw [hvars] at hV; exact hV
 subst hq
 refine ⟨ds,[],p++[],[],p,[],hW',hres _ _,?_,?_,keptBut_of hs hg _,fun h=>by cases h⟩
 ·rw [hargs]
  refine trodAll_keeps hl ?_ hA (fun x hx=>sameAt_of hg (hlt x (by simpa using hx))) (fun x hx=>by simpa using hlt x (by simpa using hx))
  intro t ht'
  rw [List.all_eq_true] at ht
  simpa using ht t ht'
 ·rw [hvars,hv]; rfl
end Abs
end
noncomputable section
namespace Abs
open Go
section
variable {E:Env} {lit:Bool} {ρ:ARho} {σ:AStore}
def opCV (E:Env) (σ:AStore):Option AVal->Option (List AVal)->ARes
 | some (.func (.func g) first cap),some args=>if E.fns g=true then .enter (.fn g) (first++args++cap) else if E.nes g=true then (match first++args++cap with|[x]=>.val x σ|_=>.bad) else .bad
 | some (.yld b),some args=>match σ.get b with
  | some (.loop _ _ ps _ _ _ nt _)=>if args.length=ps.size/\(ps.toList.all fun t=>Nat.blt t nt)=true/\nt < 1000000 then .enter (.yld b) args else .bad
  | _=>.bad
 | _,_=>.bad
theorem op_callt {t:Nat} {as:Array Operand} {ts:Array TypeId}:aOp E lit (.call ⟨.value (.tmp t),as,ts⟩) ρ σ=opCV E σ (ρ (.tmp t)) (allSome ρ as.toList):=by
  simp only [aOp]
  cases allSome ρ as.toList with
  | none=>cases ρ (.tmp t) with
    | none=>rfl
    | some v => cases v <;> try rfl
                rename_i fn a b; cases fn<;>rfl
  | some args=>
    cases ρ (.tmp t) with
    | none=>rfl
    | some v => cases v <;> try rfl
                rename_i fn a b; cases fn<;>rfl
theorem opCV_func {g:FuncId} {first cap args:List AVal}:opCV E σ (some (.func (.func g) first cap)) (some args)=if E.fns g=true then .enter (.fn g) (first++args++cap) else if E.nes g=true then (match first++args++cap with|[x]=>.val x σ|_=>.bad) else .bad:=rfl
def opMF (σ:AStore) (fn:Fn):Option (List AVal)->Option (List AVal)->ARes
 | some a,some b=>.val (.func fn a b) σ
 | _,_=>.bad
theorem op_makeFunc {fn:Fn} {a b:Array Operand}:aOp E lit (.makeFunc fn a b) ρ σ=opMF σ fn (allSome ρ a.toList) (allSome ρ b.toList):=by
 simp only [aOp]
 cases allSome ρ a.toList<;>cases allSome ρ b.toList<;>rfl
theorem opMF_some {fn:Fn} {a b:List AVal}:opMF σ fn (some a) (some b)=.val (.func fn a b) σ:=rfl
end
attribute [go_sem] op_callt opCV_func op_makeFunc opMF_some
end Abs
namespace Abs
open Go
section
variable {E:Env} {f:FuncId} {args:List AVal} {K:SPred} {e:Ev} {dst:Option Nat} {σ:AStore} {v:AVal}
theorem putR_ret {K:SPred} {k:Ev->AStore->Prop}:putR E K k e dst (.ret v) σ=k (putE e dst v) σ:=rfl
theorem ACalls.use1 (h:ACalls E f args σ fun e σ'=>σ'=σ/\e=.ret v) {k:Ev->AStore->Prop} (hk:k (putE e dst v) σ):ACalls E f args σ (putR E K k e dst):=by
 refine h.mono ?_
 rintro en σ' ⟨rfl,rfl⟩
 exact hk
theorem ACalls.use1D (h:ACalls E f args σ fun e σ'=>σ'=σ/\e=.ret v) {k:Ev->Bool->AStore->Prop} {m:Nat} {recs:List SRec} (hk:k (putE e dst v) true σ):ACalls E f args σ (dRet E m K k recs e dst true σ):=by
 refine h.mono ?_
 rintro en σ' ⟨rfl,rfl⟩
 exact .inl ⟨rfl,rfl,hk⟩
end
def GivesV (E:Env) (f:FuncId) (args:List AVal) (v:AVal):Prop:=∀ σ,ACalls E f args σ fun e σ'=>σ'=σ/\e=.ret v
theorem GivesV.of {E:Env} (hG:∀ g,WF 0 (E.G g)) {f:FuncId} {args:List AVal} (ha:WFs 0 args) {v:AVal} (N:Nat)
  (h:ACalls E f args empty fun e σ0=>∃ u,e=.ret u/\frz σ0 N u=some v):GivesV E f args v:=by
 intro σ
 have:=Gives.of (P:=fun u=>u=v) hG ha N (h.mono fun e σ0 ⟨u,h1,h2⟩=>⟨u,v,h1,h2,rfl⟩) σ
 refine this.mono ?_
 rintro e σ' ⟨h1,u,rfl,h2⟩
 exact ⟨h1,h2⟩
theorem GivesV.use {E:Env} {f:FuncId} {args:List AVal} {v:AVal} (h:GivesV E f args v) {K:SPred} {k:Ev->AStore->Prop} {e:Ev} {dst:Option Nat} {σ:AStore} (hk:k (putE e dst v) σ):ACalls E f args σ (putR E K k e dst):=(h σ).use1 hk
theorem GivesV.useD {E:Env} {f:FuncId} {args:List AVal} {v:AVal} (h:GivesV E f args v) {K:SPred} {k:Ev->Bool->AStore->Prop} {e:Ev} {dst:Option Nat} {m:Nat} {recs:List SRec} {σ:AStore} (hk:k (putE e dst v) true σ):
  ACalls E f args σ (dRet E m K k recs e dst true σ):=(h σ).use1D hk
def resC (σ:AStore):Option AVal->Option (Bool×Nat)->Option (List AVal)->Option (List AVal)
 | some p,some (a,m),some vs=>consO (aLoad a m p σ) (some vs)
 | _,_,_=>none
theorem vResults_cell {E:Env} {σ:AStore} {e:Ev} {t:Nat} {ty:TypeId} {r:List ResultVar}:vResults E (.cell t ty::r) e σ=resC σ (look? e t) (tyA E ty) (vResults E r e σ):=by
 simp only [vResults,tyA]
 cases look? e t<;>cases E.ty ty<;>cases vResults E r e σ<;>try rfl
 rename_i p i vs
 simp only [Option.map_some,resC]
 cases aLoad i.isA i.size p σ<;>rfl
theorem resC_some {σ:AStore} {p:AVal} {a:Bool} {m:Nat} {vs:List AVal}:resC σ (some p) (some (a,m)) (some vs)=consO (aLoad a m p σ) (some vs):=rfl
attribute [go_sem] vResults_cell resC_some
end Abs
end
noncomputable section
namespace Abs
open Go
def in64 (n:Int):Prop:=-9223372036854775808<=n/\n < 9223372036854775808
section
variable {P:Program}
theorem agg_of {x:AVal} {vs:List AVal} (ha:x.isAgg=true) (h:x.cells=vs):x=.agg vs:=by
 cases x<;>first|cases ha; done|(rw [<-h]; rfl)
theorem one_of {x v:AVal} (ha:x.isAgg=false) (h:x.cells=[v]):x=v:=by
 rw [AVal.cells_one ha] at h
 simpa using h
end
end Abs
end
