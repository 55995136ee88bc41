/- Part of the abstract layer; it proves no statement by itself. -/
import Derived.Test.YtkhjmhdpaikokaaGreatDoorAbsV7
set_option linter.unusedVariables false
set_option linter.unusedSimpArgs false
set_option linter.unusedSectionVars false
noncomputable section
namespace Abs
open Go
def IsD (sz:Nat) (x:AVal) (els:List AVal):Prop:=(els=[]/\∃ a c,x=.sc (.slice a 0 c))\/∃ t,x=.data sz t els
section
variable {sz:Nat} {x:AVal} {els:List AVal} {σ:AStore}
theorem IsD.len (h:IsD sz x els):aLen (.slice 0) x σ=some (.sc (.int .i64 els.length)):=by
 rcases h with ⟨rfl,a,c,rfl⟩|⟨t,rfl⟩<;>rfl
theorem IsD.idx (h:IsD sz x els) {k:IntKind} {i:Nat} {v:AVal} (hv:els[i]?=some v):aIndexS sz x (.sc (.int k i)) σ=some (.iptr v.cells):=by
 have hi:i < els.length:=by
  rcases Nat.lt_or_ge i els.length with h'|h'
  ·exact h'
  ·rw [List.getElem?_eq_none h'] at hv; cases hv
 rcases h with ⟨rfl,a,c,rfl⟩|⟨t,rfl⟩
 ·simp at hi
 ·rw [aIndexS_data,aIdx_nat hi,ixData_some,hv,ixEl_some]
theorem IsD.src (h:IsD sz x els):aSrc sz x σ=some els:=by
 rcases h with ⟨rfl,a,c,rfl⟩|⟨t,rfl⟩
 ·rfl
 ·exact aSrc_data
theorem IsD.fit (h:IsD sz x els):x.fit=true:=by
 rcases h with ⟨rfl,a,c,rfl⟩|⟨t,rfl⟩<;>rfl
theorem IsD.cells (h:IsD sz x els):x.cells=[x]:=by
 rcases h with ⟨rfl,a,c,rfl⟩|⟨t,rfl⟩<;>rfl
theorem IsD.isCell (h:IsD sz x els):x.isCell=true:=by
 rcases h with ⟨rfl,a,c,rfl⟩|⟨t,rfl⟩<;>rfl
end
def Gives (E:Env) (f:FuncId) (args:List AVal) (P:AVal->Prop):Prop:=∀ σ,ACalls E f args σ fun e σ'=>σ'=σ/\∃ v,P v/\e=.ret v
theorem Gives.use {E:Env} {f:FuncId} {args:List AVal} {P:AVal->Prop} (h:Gives E f args P) {K:SPred} {k:Ev->AStore->Prop} {e:Ev} {dst:Option Nat} {σ:AStore} (hk:∀ v,P v->k (putE e dst v) σ):
  ACalls E f args σ (putR E K k e dst):=by
 refine (h σ).mono ?_
 rintro en σ' ⟨rfl,v,hv,rfl⟩
 exact hk v hv
theorem Gives.useD {E:Env} {f:FuncId} {args:List AVal} {P:AVal->Prop} (h:Gives E f args P) {K:SPred} {k:Ev->Bool->AStore->Prop} {e:Ev} {dst:Option Nat} {m:Nat} {recs:List SRec} {σ:AStore} (hk:∀ v,P v->k (putE e dst v) true σ):
  ACalls E f args σ (dRet E m K k recs e dst true σ):=by
 refine (h σ).mono ?_
 rintro en σ' ⟨rfl,v,hv,rfl⟩
 exact .inl ⟨rfl,rfl,hk v hv⟩
theorem Gives.of {E:Env} (hG:∀ g,WF 0 (E.G g)) {f:FuncId} {args:List AVal} (ha:WFs 0 args) {P:AVal->Prop} (N:Nat)
  (h:ACalls E f args empty fun e σ0=>∃ v u,e=.ret v/\frz σ0 N v=some u/\P u):Gives E f args P:=by
 intro σ
 refine (ACalls.pure hG ha h (N:=N) ?_ σ).mono ?_
 ·rintro e σ0 ⟨v,u,rfl,hf,_⟩
  exact ⟨.ret u,by simp [frzE,hf]⟩
 ·rintro e σ' ⟨rfl,e0,σ0,⟨v,u,rfl,hf,hp⟩,hz⟩
  simp only [frzE,hf,Option.some.injEq] at hz
  exact ⟨rfl,u,hp,hz.symm⟩
end Abs
namespace Abs
open Go
section
variable {E:Env} {n:Nat} {Q:SPred} {e:Ev} {σ:AStore}
theorem Z_seq_block {id:Nat} {c y:Code} (h:V E n c (blkS id (thenS (V E n y Q) Q)) e σ):Z E n (.seq (.block id c) y) Q e σ:=Z_seq (Z_block h)
theorem Z_seq_loop {ι:Type} {id:Nat} {c y:Code} (S:ι->Ev) (I:ι->AStore->Prop) (m:ι->Nat) (okS:∀ i,okT (S i)=true) (i0:ι) (h0:subE (S i0) e) (hσ:I i0 σ)
  (round:∀ i σ,I i σ->V E n c (again S I m (m i) (blkS id (thenS (V E n y Q) Q))) (S i) σ):Z E n (.seq (.block id (.loop c)) y) Q e σ:=
 Z_seq (Z_block (Z_loop S I m okS i0 h0 hσ round))
end
theorem IsD.wf {sz:Nat} {x:AVal} {els:List AVal} (h:IsD sz x els) {n:Nat} (hw:WFs n els):WF n x:=by
 rcases h with ⟨rfl,a,c,rfl⟩|⟨t,rfl⟩
 ·exact .sc _
 ·exact .data _ _ _ hw
theorem WFs.of {n:Nat}:∀ {l:List AVal},(∀ x∈l,WF n x)->WFs n l
 | [],_=>.nil
 | x::l,h=>.cons x l (h x (by simp)) (WFs.of fun y hy=>h y (by simp [hy]))
theorem WFs.map {n:Nat} {α:Type} {f:α->AVal} {l:List α} (h:∀ x,WF n (f x)):WFs n (l.map f):=WFs.of (by
 intro x hx
 simp only [List.mem_map] at hx
 obtain ⟨y,_,rfl⟩:=hx
 exact h y)
section
variable {σ:AStore} {n:Nat}
theorem frz_sc {v:Value}:frz σ (n+1) (.sc v)=some (.sc v):=rfl
def frzT:Option (List AVal)->Option AVal
 | some cs=>some (.tuple cs)
 | none=>none
theorem frz_tuple {vs:List AVal}:frz σ (n+1) (.tuple vs)=frzT (mapO (frz σ n) vs):=by
 simp only [frz]; cases mapO (frz σ n) vs<;>rfl
def frzA:Option (List AVal)->Option AVal
 | some cs=>some (.agg cs)
 | none=>none
theorem frz_agg {vs:List AVal}:frz σ (n+1) (.agg vs)=frzA (mapO (frz σ n) vs):=by
 simp only [frz]; cases mapO (frz σ n) vs<;>rfl
theorem frzA_some {cs:List AVal}:frzA (some cs)=some (.agg cs):=rfl
def frzL (sz:Nat) (t:Bool):Option (List AVal)->Option AVal
 | some cs=>some (.data sz t cs)
 | none=>none
theorem frz_data {sz:Nat} {t:Bool} {els:List AVal}:frz σ (n+1) (.data sz t els)=frzL sz t (mapO (frz σ n) els):=by
 simp only [frz]; cases mapO (frz σ n) els<;>rfl
def frzS (σ:AStore) (n o l:Nat):Option ABlk->Option AVal
 | some (.cells sz els)=>match Nat.ble (o+l) els.length with
  | true=>frzL sz false (mapO (frz σ n) ((els.drop o).take l))
  | false=>none
 | _=>none
theorem frz_slice {b o l:Nat}:frz σ (n+1) (.slice b o l)=frzS σ n o l (σ.get b):=by
 simp only [frz,frzS]
 cases σ.get b with
 | none=>rfl
 | some x=>
  cases x<;>rfl
theorem frzS_cells {o l sz:Nat} {els:List AVal} (h:o+l<=els.length):frzS σ n o l (some (.cells sz els))=frzL sz false (mapO (frz σ n) ((els.drop o).take l)):=by
 have:Nat.ble (o+l) els.length=true:=Nat.ble_eq_true_of_le h
 simp only [frzS,this]
def consM:Option AVal->Option (List AVal)->Option (List AVal)
 | some v,some vs=>some (v::vs)
 | _,_=>none
theorem mapO_nil' {f:AVal->Option AVal}:mapO f []=some []:=rfl
theorem mapO_cons' {f:AVal->Option AVal} {x:AVal} {xs:List AVal}:mapO f (x::xs)=consM (f x) (mapO f xs):=by
 simp only [mapO]; cases f x<;>cases mapO f xs<;>rfl
theorem consM_some {v:AVal} {vs:List AVal}:consM (some v) (some vs)=some (v::vs):=rfl
theorem mapO_frz {α:Type} {f:α->AVal} {N:Nat} (h:∀ x,frz σ N (f x)=some (f x)):∀ l:List α,mapO (frz σ N) (l.map f)=some (l.map f)
 | []=>rfl
 | x::l=>by simp only [List.map_cons,mapO,h x,mapO_frz h l]
end
attribute [go_sem] frz_sc frz_tuple frz_agg frzA_some frz_data frz_slice mapO_nil' mapO_cons' consM_some
end Abs
namespace Abs
open Go
theorem wrap64 {x:Int} (h1:-9223372036854775808<=x) (h2:x < 9223372036854775808):IntKind.i64.wrap x=x:=by
 have key:IntKind.i64.wrap x=if (true:Bool) && decide (2 ^ 63<=x % 2 ^ 64) then x % 2 ^ 64 - 2 ^ 64 else x % 2 ^ 64:=by
  simp [IntKind.wrap,IntKind.bits,IntKind.signed]
 rw [key]
 by_cases h:0<=x
 ·have e:x % 2 ^ 64=x:=by omega
  have:¬ (2:Int) ^ 63<=x:=by omega
  simp only [e,this,decide_false,Bool.and_false,Bool.false_eq_true,if_false]
 ·have e:x % 2 ^ 64=x+2 ^ 64:=by omega
  have:(2:Int) ^ 63<=x+2 ^ 64:=by omega
  simp only [e,this,decide_true,Bool.and_self,if_true]; omega
theorem wrapS {i:Nat} (h:i < 4611686018427387904):IntKind.i64.wrap ((i:Int)+1)=((i+1:Nat):Int):=by
 rw [wrap64 (by omega) (by omega)]; omega
end Abs
namespace Abs
open Go
def Own (σ:AStore) (sz:Nat) (v:AVal) (els:List AVal):Prop:=
 (els=[]/\v=.sc (.slice none 0 0))\/(els≠[]/\∃ b,v=.slice b 0 els.length/\σ.get b=some (.cells sz els))
section
variable {σ:AStore} {sz bytes:Nat} {v:AVal} {els xs:List AVal}
theorem Own.nil:Own σ sz (.sc (.slice none 0 0)) []:=.inl ⟨rfl,rfl⟩
theorem Own.mono (h:Own σ sz v els) {τ:AStore} (hk:∀ b x,v=.slice b 0 els.length->σ.get b=some x->τ.get b=some x):Own τ sz v els:=by
 rcases h with h|⟨h1,b,h2,h3⟩
 ·exact .inl h
 ·exact .inr ⟨h1,b,h2,hk b _ h2 h3⟩
theorem get_alloc_old {x y:ABlk} {b:Nat} (h:σ.get b=some x):(σ.alloc y).get b=some x:=by
 rw [AStore.get_alloc,if_neg (by have:=AStore.lt_of_get h; omega)]; exact h
theorem Own.alloc (h:Own σ sz v els) (y:ABlk):Own (σ.alloc y) sz v els:=h.mono fun _ _ _ hg=>get_alloc_old hg
theorem Own.append (h:Own σ sz v els) (hx:xs≠[]) (hb:(els.length+xs.length)*bytes<=140737488355328) (h1:sz≠0) (h2:bytes≠0) (hc:allCells xs=true):
  ∃ σ',aAppend sz bytes v xs σ=some (.slice σ.next 0 (els++xs).length,σ')/\Own σ' sz (.slice σ.next 0 (els++xs).length) (els++xs)/\σ'.next=σ.next+1/\
   ∀ b x,σ.get b=some x->(∀ l,v≠.slice b 0 l)->σ'.get b=some x:=by
 have hne:els++xs≠[]:=by simp [hx]
 have hp:0 < xs.length:=by cases xs<;>simp_all
 rcases h with ⟨rfl,rfl⟩|⟨he,b,rfl,hg⟩
 ·refine ⟨σ.alloc (.cells sz xs),?_,.inr ⟨hne,σ.next,rfl,?_⟩,rfl,?_⟩
  ·rw [app_nil hx (by simpa using hb) h1 h2]; simp
  ·simp [AStore.get_alloc]
  ·intro b x hgb _; exact get_alloc_old hgb
 ·refine ⟨(σ.del b).alloc (.cells sz (els++xs)),?_,.inr ⟨hne,σ.next,rfl,?_⟩,rfl,?_⟩
  ·rw [app_full hg hx hb h1 h2 hc]; simp
  ·have:(σ.del b).next=σ.next:=rfl
   rw [AStore.get_alloc,this,if_pos rfl]
  ·intro b' x hgb hv
   refine get_alloc_old ?_
   rw [AStore.get_del,if_neg ?_]
   ·exact hgb
   ·intro hc; subst hc; exact hv _ rfl
theorem Own.fit (h:Own σ sz v els):v.fit=true:=by rcases h with ⟨rfl,rfl⟩|⟨_,b,rfl,_⟩<;>rfl
theorem Own.cells (h:Own σ sz v els):v.cells=[v]:=by rcases h with ⟨rfl,rfl⟩|⟨_,b,rfl,_⟩<;>rfl
theorem Own.isCell (h:Own σ sz v els):v.isCell=true:=by rcases h with ⟨rfl,rfl⟩|⟨_,b,rfl,_⟩<;>rfl
end
end Abs
namespace Abs
open Go
theorem overlay_nil {els:List AVal} {o:Nat}:overlay els o []=els:=rfl
attribute [go_sem] overlay_nil
theorem Own.append' {σ:AStore} {sz bytes:Nat} {v:AVal} {els xs:List AVal} (h:Own σ sz v els) (hb:(els.length+xs.length)*bytes<=140737488355328) (h1:sz≠0) (h2:bytes≠0) (hc:allCells xs=true):
  ∃ v' σ',aAppend sz bytes v xs σ=some (v',σ')/\Own σ' sz v' (els++xs)/\σ.next<=σ'.next/\
   (∀ b x,σ.get b=some x->(∀ l,v≠.slice b 0 l)->σ'.get b=some x)/\∀ b,b < σ.next->(∀ l,v≠.slice b 0 l)->∀ l,v'≠.slice b 0 l:=by
 by_cases hx:xs=[]
 ·subst hx
  rcases h with ⟨rfl,rfl⟩|⟨he,b,rfl,hg⟩
  ·exact ⟨_,_,rfl,by simpa using Own.nil,Nat.le_refl _,fun _ _ h _=>h,fun _ _ h=>h⟩
  ·have hlt:=AStore.lt_of_get hg
   refine ⟨_,σ.set b (.cells sz els),?_,?_,Nat.le_refl _,?_,fun _ _ h=>h⟩
   ·rw [aAppend_slice,hg,appAt_cells,if_pos ⟨rfl,h1,h2,Nat.le_refl _,rfl⟩,if_pos (by simp)]; rfl
   ·refine .inr ⟨by simpa using he,b,by simp,?_⟩
    simp [AStore.get_set,hlt]
   ·intro b' x hx hv
    rw [AStore.get_set,if_neg]
    ·exact hx
    ·rintro ⟨rfl,_⟩; exact hv _ rfl
 ·obtain ⟨σ',g1,g2,g3,g4⟩:=h.append hx hb h1 h2 hc
  refine ⟨_,σ',g1,g2,by omega,g4,?_⟩
  intro b hb _ l hc
  cases hc
  omega
end Abs
namespace Abs
open Go
end Abs
namespace Abs
open Go
section
variable {E:Env} {n:Nat} {c:Operand} {x y z:Code} {Q:SPred} {e:Ev} {σ:AStore} {P:Prop} [Decidable P]
theorem Zs_dec (hb:evE E.G e c=some (.sc (.bool (decide P)))) (h1:P->V E n x (thenS (V E n z Q) Q) e σ) (h2:¬ P->V E n y (thenS (V E n z Q) Q) e σ):Z E n (.seq (.cond c x y) z) Q e σ:=Z_seq (Z_dec hb h1 h2)
theorem Zs_ndec (hb:evE E.G e c=some (.sc (.bool (!decide P)))) (h1:¬ P->V E n x (thenS (V E n z Q) Q) e σ) (h2:P->V E n y (thenS (V E n z Q) Q) e σ):Z E n (.seq (.cond c x y) z) Q e σ:=Z_seq (Z_ndec hb h1 h2)
end
end Abs
end
