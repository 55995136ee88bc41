/-
  Functions of the program walked: each is shown to compute a plain function (NB).
-/
import Derived.Test.YtkhjmhdpaikokaaGreatDoorN9
set_option linter.unusedSimpArgs false
set_option linter.unusedVariables false
set_option maxRecDepth 100000
set_option maxHeartbeats 16000000
noncomputable section
namespace Abs
open Go Go.Proofs
structure Stt where
 locs:List Int
 vars:List Int
def iA (x:Int):AVal:=(.sc (.int .i64 (x)))
def IsStt (s:Stt) (v:AVal):Prop:=∃ L V,v=.agg [L,V]/\(IsD 1 L (s.locs.map iA)/\s.locs.length<=281474976710656/\∀ x∈s.locs,in64 x)/\(IsD 1 V (s.vars.map iA)/\s.vars.length<=281474976710656/\∀ x∈s.vars,in64 x)
theorem wf_iA (x:Int):WF 0 (iA x):=.sc _
theorem IsStt.wf {s:Stt} {v:AVal} (h:IsStt s v):WF 0 v:=by
 obtain ⟨L,V,rfl,h1,h2⟩:=h
 exact .agg _ (.cons _ _ (h1.1.wf (WFs.map wf_iA)) (.cons _ _ (h2.1.wf (WFs.map wf_iA)) .nil))
def ckL (n:Nt) (s:Stt) (i:Nat):Bool:=match s.locs[i]?,n.procs[i]? with
 | some l,some p=>decide (0<=l) && decide (l < p.locs.length)
 | _,_=>false
def ckV (n:Nt) (s:Stt) (i:Nat):Bool:=match s.vars[i]?,n.vars[i]? with
 | some x,some v=>decide (v.lo<=x) && decide (x<=v.hi)
 | _,_=>false
def checkB (n:Nt) (s:Stt):Bool:=validB n && decide (s.locs.length=n.procs.length) && decide (s.vars.length=n.vars.length) && (List.range s.locs.length).all (ckL n s) && (List.range s.vars.length).all (ckV n s)
theorem checkC {w:WD} {n:Nt} {v:AVal} {s:Stt} {u:AVal} (h:IsNt n v) (hs:NtS n) (hu:IsStt s u):GivesV (EE w) 72 [v,u] (.sc (.int .i64 (if checkB n s then 0 else 2))):=by
 have hwf:=h.wf
 have hwu:=hu.wf
 have hVa:=fun w:WD=>validC (w:=w) h hs
 obtain ⟨SV,SC,SF,SP,fels,rfl,icl,⟨hV,lv,hvo⟩,⟨hC,lc,hco⟩,hF,hFs,lf,hP⟩:=h
 obtain ⟨L,U,rfl,⟨hL,lL,iL0⟩,⟨hU,lU,iU0⟩⟩:=hu
 have hVn:∀ σ:AStore,aLen (.slice 0) SV σ=some (.sc (.int .i64 (n.vars.length))):=fun σ=>by have:=hV.len (σ:=σ); rwa [List.length_map] at this
 have hLn:∀ σ:AStore,aLen (.slice 0) L σ=some (.sc (.int .i64 (s.locs.length))):=fun σ=>by have:=hL.len (σ:=σ); rwa [List.length_map] at this
 have hUn:∀ σ:AStore,aLen (.slice 0) U σ=some (.sc (.int .i64 (s.vars.length))):=fun σ=>by have:=hU.len (σ:=σ); rwa [List.length_map] at this
 obtain ⟨pels,hP1,hPl,hPat⟩:=hP.at'
 have hPn:∀ σ:AStore,aLen (.slice 0) SP σ=some (.sc (.int .i64 (n.procs.length))):=fun σ=>hP1.lenN hPl
 have kV:=hV.fit
 have cV:=hV.cells
 have iV:=hV.isCell
 have kC:=hC.fit
 have cC:=hC.cells
 have iC:=hC.isCell
 have kF:=hF.fit
 have cF:=hF.cells
 have iF:=hF.isCell
 have kP:=hP1.fit
 have cP:=hP1.cells
 have iP:=hP1.isCell
 have kL:=hL.fit
 have cL:=hL.cells
 have iL:=hL.isCell
 have kU:=hU.fit
 have cU:=hU.cells
 have iU:=hU.isCell
 refine GivesV.of gWF (.cons _ _ hwf (.cons _ _ hwu .nil)) 2 ?_
 refine of_72 rfl rfl rfl (by kernel_rfl) ?_
 simp -implicitDefEqProofs only [go_sem,kV,cV,iV,kC,cC,iC,kF,cF,iF,kP,cP,iP,kL,cL,iL,kU,cU,iU]
 have g0:((empty.alloc (.cells 5 [.agg [(.sc (.int .i64 (n.clocks))),SV,SC,SF,SP]])).alloc (.cells 2 [.agg [L,U]])).get 0=some (.cells 5 [.agg [(.sc (.int .i64 (n.clocks))),SV,SC,SF,SP]]):=by rw [AStore.get_alloc]; rfl
 have g1:((empty.alloc (.cells 5 [.agg [(.sc (.int .i64 (n.clocks))),SV,SC,SF,SP]])).alloc (.cells 2 [.agg [L,U]])).get 1=some (.cells 2 [.agg [L,U]]):=by rw [AStore.get_alloc]; rfl
 generalize (empty.alloc (.cells 5 [.agg [(.sc (.int .i64 (n.clocks))),SV,SC,SF,SP]])).alloc (.cells 2 [.agg [L,U]])=τ at g0 g1 ⊢
 have ret2:∀ {σ:AStore},checkB n s=false->∃ u,AEnd.ret (.sc (.int .i64 (2)))=AEnd.ret u/\frz σ 2 u=some (.sc (.int .i64 (if checkB n s then 0 else 2))):=fun h=>⟨_,rfl,by rw [h]; rfl⟩
 refine (hVa _).use ?_
 cases hv:validB n with
 | false=>
  simp only [Bool.false_eq_true,if_false,if_true]
  (repeat' first|refine vw ?_ ?_<;>intro hq|refine vz ?_|simp -implicitDefEqProofs only [go_sem,g0,g1])
  exact ret2 (by simp [checkB,hv])
 | true=>
 simp only [Bool.false_eq_true,if_false,if_true]
 have ea:decide ((s.locs.length:Int)=n.procs.length)=decide (s.locs.length=n.procs.length):=decide_eq_decide.2 (by omega)
 have eb:decide ((s.vars.length:Int)=n.vars.length)=decide (s.vars.length=n.vars.length):=decide_eq_decide.2 (by omega)
 cases hb1:decide (s.locs.length=n.procs.length) with
 | false=>
  rw [hb1] at ea
  (repeat' first|refine vw ?_ ?_<;>intro hq|refine vz ?_|simp -implicitDefEqProofs only [go_sem,g0,g1,kV,cV,iV,kC,cC,iC,kF,cF,iF,kP,cP,iP,kL,cL,iL,kU,cU,iU,hLn,hPn,ea])
  exact ret2 (by simp [checkB,of_decide_eq_false hb1])
 | true=>
 rw [hb1] at ea
 cases hb2:decide (s.vars.length=n.vars.length) with
 | false=>
  rw [hb2] at eb
  (repeat' first|refine vw ?_ ?_<;>intro hq|refine vz ?_|simp -implicitDefEqProofs only [go_sem,g0,g1,kV,cV,iV,kC,cC,iC,kF,cF,iF,kP,cP,iP,kL,cL,iL,kU,cU,iU,hLn,hPn,ea,hUn,hVn,eb])
  exact ret2 (by simp [checkB,of_decide_eq_false hb2])
 | true=>
 rw [hb2] at eb
 have q1:=of_decide_eq_true hb1
 have q2:=of_decide_eq_true hb2
 (repeat' first|refine vw ?_ ?_<;>intro hq|refine vz ?_|simp -implicitDefEqProofs only [go_sem,g0,g1,kV,cV,iV,kC,cC,iC,kF,cF,iF,kP,cP,iP,kL,cL,iL,kU,cU,iU,hLn,hPn,ea,hUn,hVn,eb])
 refine vlp (ι:=Nat) (fun i=>[(2,.ptr 0 0 0),(3,.ptr 1 0 0),(31,L),(32,(.sc (.int .i64 (s.locs.length)))),(33,(.sc (.int .i64 (i))))]) (fun i σ=>i<=s.locs.length/\σ=τ/\∀ k,k < i->ckL n s k=true) (fun i=>s.locs.length - i) (fun _=>rfl) 0 ?_ ?_ ?_
 ·exact vsu
 ·exact ⟨Nat.zero_le _,rfl,fun k hk=>absurd hk (Nat.not_lt_zero _)⟩
 rintro i σ ⟨hi,rfl,hall⟩
 simp -implicitDefEqProofs only [go_sem]
 (refine vif ?_ ?_<;>intro hlt)
 ·obtain ⟨x,hx⟩:∃ x,s.locs[i]?=some x:=⟨s.locs[i]'(by omega),by simp⟩
  have hx':(s.locs.map iA)[i]?=some (iA x):=by rw [List.getElem?_map,hx]; rfl
  have hix:=fun (σ:AStore)=>hL.idx (σ:=σ) (k:=.i64) hx'
  obtain ⟨p,hp⟩:∃ p,n.procs[i]?=some p:=⟨n.procs[i]'(by omega),by simp⟩
  obtain ⟨ev,hev,hpx⟩:=hPat i p hp
  have hip:=fun (σ:AStore)=>hP1.idx (σ:=σ) (k:=.i64) hev
  have hw:=wrapS (i:=i) (by have:=hs.pl; omega)
  have hck:ckL n s i=(decide (0<=x) && decide (x < p.locs.length)):=by simp only [ckL,hx,hp]
  obtain ⟨SL,SE,rfl,hL2,hE2,iini⟩:=hpx
  obtain ⟨lels,hL3,hLl,hLat⟩:=hL2.at'
  obtain ⟨eels,hE3,hEl,hEat⟩:=hE2.at'
  have kSL:=hL3.fit
  have cSL:=hL3.cells
  have iSL:=hL3.isCell
  have kSE:=hE3.fit
  have cSE:=hE3.cells
  have iSE:=hE3.isCell
  have hSLn:∀ σ:AStore,aLen (.slice 0) SL σ=some (.sc (.int .i64 (p.locs.length))):=fun σ=>hL3.lenN hLl
  have hno:ckL n s i=false->checkB n s=false:=fun h=>by
   cases hc:checkB n s with
   | false=>rfl
   | true=>
    simp only [checkB,Bool.and_eq_true,List.all_eq_true,List.mem_range] at hc
    rw [hc.1.2 i (by omega)] at h
    cases h
  by_cases hn:x < 0
  ·have e1:=dct hn
   (repeat' first|refine vw ?_ ?_<;>intro hq|refine vz ?_|simp -implicitDefEqProofs only [go_sem,g0,kV,cV,iV,kC,cC,iC,kF,cF,iF,kP,cP,iP,hix,iA,hip,kSL,cSL,iSL,kSE,cSE,iSE,hSLn,e1])
   exact ret2 (hno (by rw [hck,dcf (by omega)]; rfl))
  ·have e1:=dcf hn
   by_cases hm:(p.locs.length:Int)<=x
   ·have e2:=dct hm
    (repeat' first|refine vw ?_ ?_<;>intro hq|refine vz ?_|simp -implicitDefEqProofs only [go_sem,g0,kV,cV,iV,kC,cC,iC,kF,cF,iF,kP,cP,iP,hix,iA,hip,kSL,cSL,iSL,kSE,cSE,iSE,hSLn,e1,e2])
    exact ret2 (hno (by rw [hck,dcf (p:=x < _) (by omega)]; simp))
   ·have e2:=dcf hm
    (repeat' first|refine vw ?_ ?_<;>intro hq|refine vz ?_|simp -implicitDefEqProofs only [go_sem,g0,kV,cV,iV,kC,cC,iC,kF,cF,iF,kP,cP,iP,hix,iA,hip,kSL,cSL,iSL,kSE,cSE,iSE,hSLn,e1,e2,hw])
    refine ⟨i+1,vom,⟨vom,rfl,fun k hk=>?_⟩,vsu⟩
    by_cases hki:k=i
    ·subst hki
     rw [hck,dct (by omega),dct (by omega)]; rfl
    ·exact hall k (by omega)
 obtain rfl:i=s.locs.length:=by omega
 (repeat' first|refine vw ?_ ?_<;>intro hq|refine vz ?_|simp -implicitDefEqProofs only [go_sem,g1,kU,cU,iU,hUn,kL,cL,iL])
 refine vlp (ι:=Nat) (fun i=>[(2,.ptr 0 0 0),(3,.ptr 1 0 0),(53,U),(54,(.sc (.int .i64 (s.vars.length)))),(55,(.sc (.int .i64 (i))))]) (fun i σ'=>i<=s.vars.length/\σ'=σ/\∀ k,k < i->ckV n s k=true) (fun i=>s.vars.length - i) (fun _=>rfl) 0 ?_ ?_ ?_
 ·exact vsu
 ·exact ⟨Nat.zero_le _,rfl,fun k hk=>absurd hk (Nat.not_lt_zero _)⟩
 clear hlt
 rintro i σ ⟨hi,rfl,hall2⟩
 simp -implicitDefEqProofs only [go_sem]
 (refine vif ?_ ?_<;>intro hlt)
 ·obtain ⟨x,hx⟩:∃ x,s.vars[i]?=some x:=⟨s.vars[i]'(by omega),by simp⟩
  have hx':(s.vars.map iA)[i]?=some (iA x):=by rw [List.getElem?_map,hx]; rfl
  have hix:=fun (σ:AStore)=>hU.idx (σ:=σ) (k:=.i64) hx'
  obtain ⟨p,hp⟩:∃ p,n.vars[i]?=some p:=⟨n.vars[i]'(by omega),by simp⟩
  have hp':(n.vars.map vrA)[i]?=some (vrA p):=by rw [List.getElem?_map,hp]; rfl
  have hip:=fun (σ:AStore)=>hV.idx (σ:=σ) (k:=.i64) hp'
  have hw:=wrapS (i:=i) (by have:=hs.fl; omega)
  have hck:ckV n s i=(decide (p.lo<=x) && decide (x<=p.hi)):=by simp only [ckV,hx,hp]
  obtain ⟨nm,lo,hi',ini⟩:=p
  have hno:ckV n s i=false->checkB n s=false:=fun h=>by
   cases hc:checkB n s with
   | false=>rfl
   | true=>
    simp only [checkB,Bool.and_eq_true,List.all_eq_true,List.mem_range] at hc
    rw [hc.2 i (by omega)] at h
    cases h
  simp only at hck
  by_cases hn:x < lo
  ·have e1:=dct hn
   (repeat' first|refine vw ?_ ?_<;>intro hq|refine vz ?_|simp -implicitDefEqProofs only [go_sem,g0,kV,cV,iV,kC,cC,iC,kF,cF,iF,kP,cP,iP,hix,iA,hip,vrA,sA,e1])
   exact ret2 (hno (by rw [hck,dcf (by omega)]; rfl))
  ·have e1:=dcf hn
   by_cases hm:hi' < x
   ·have e2:=dct hm
    (repeat' first|refine vw ?_ ?_<;>intro hq|refine vz ?_|simp -implicitDefEqProofs only [go_sem,g0,kV,cV,iV,kC,cC,iC,kF,cF,iF,kP,cP,iP,hix,iA,hip,vrA,sA,e1,e2])
    exact ret2 (hno (by rw [hck,dcf (p:=x<=_) (by omega)]; simp))
   ·have e2:=dcf hm
    (repeat' first|refine vw ?_ ?_<;>intro hq|refine vz ?_|simp -implicitDefEqProofs only [go_sem,g0,kV,cV,iV,kC,cC,iC,kF,cF,iF,kP,cP,iP,hix,iA,hip,vrA,sA,e1,e2,hw])
    refine ⟨i+1,vom,⟨vom,rfl,fun k hk=>?_⟩,vsu⟩
    by_cases hki:k=i
    ·subst hki
     rw [hck,dct (by omega),dct (by omega)]; rfl
    ·exact hall2 k (by omega)
 obtain rfl:i=s.vars.length:=by omega
 have hc:checkB n s=true:=by
  simp only [checkB,Bool.and_eq_true,List.all_eq_true,List.mem_range]
  exact ⟨⟨⟨⟨hv,hb1⟩,hb2⟩,hall⟩,hall2⟩
 (repeat' first|refine vw ?_ ?_<;>intro hq|refine vz ?_|simp -implicitDefEqProofs only [go_sem])
 exact ⟨_,rfl,by rw [hc]; rfl⟩
theorem begunN {w:WD} {σ:AStore} {n:Nt} {SV SC SF SP:AVal} (h:IsNt n (.agg [(.sc (.int .i64 (n.clocks))),SV,SC,SF,SP])) (hvl:n.vars.length<=1000000):
  ACalls (EE w) 60 [.agg [(.sc (.int .i64 (n.clocks))),SV,SC,SF,SP]] σ fun en σ'=>∃ b A,en=.ret (.ptr b 0 0)/\σ'.get b=some (.cells 6 [.agg [(.sc (.int .i64 (n.clocks))),SV,SC,SF,SP,A]])/\σ.next<=b/\KeepS σ σ'/\Own σ' 1 A ((n.vars.map Vr.nm).map sA):=by
 obtain ⟨SV',SC',SF',SP',fels,he,icl,⟨hV,lv,hvo⟩,⟨hC,lc,hco⟩,hF,hFs,lf,hP⟩:=h
 simp only [AVal.agg.injEq,List.cons.injEq,and_true,true_and] at he
 obtain ⟨rfl,rfl,rfl,rfl⟩:=he
 have hVn:∀ σ:AStore,aLen (.slice 0) SV σ=some (.sc (.int .i64 (n.vars.length))):=fun σ=>by have:=hV.len (σ:=σ); rwa [List.length_map] at this
 obtain ⟨pels,hP1,hPl,hPat⟩:=hP.at'
 have kV:=hV.fit
 have cV:=hV.cells
 have iV:=hV.isCell
 have kC:=hC.fit
 have cC:=hC.cells
 have iC:=hC.isCell
 have kF:=hF.fit
 have cF:=hF.cells
 have iF:=hF.isCell
 have kP:=hP1.fit
 have cP:=hP1.cells
 have iP:=hP1.isCell
 refine of_60 rfl rfl rfl (by kernel_rfl) ?_
 have z1:σ.next < σ.next+1:=Nat.lt_succ_self _
 have z2:¬ (σ.next=σ.next+1):=by omega
 simp -implicitDefEqProofs only [go_sem,kV,cV,iV,kC,cC,iC,kF,cF,iF,kP,cP,iP,hVn,z1,z2]
 (try (repeat' first|refine vw ?_ ?_<;>intro hq|refine vz ?_|simp -implicitDefEqProofs only [go_sem,kV,cV,iV,kC,cC,iC,kF,cF,iF,kP,cP,iP,hVn,z1,z2]))
 have hk0:KeepS σ ((σ.alloc (.cells 5 [.agg [(.sc (.int .i64 (n.clocks))),SV,SC,SF,SP]])).alloc (.cells 6 [.agg [(.sc (.int .i64 (n.clocks))),SV,SC,SF,SP,(.sc (.slice none 0 0))]])):=(KeepS.alloc _ _).trans (KeepS.alloc _ _)
 have g9:((σ.alloc (.cells 5 [.agg [(.sc (.int .i64 (n.clocks))),SV,SC,SF,SP]])).alloc (.cells 6 [.agg [(.sc (.int .i64 (n.clocks))),SV,SC,SF,SP,(.sc (.slice none 0 0))]])).get (σ.next+1)=some (.cells 6 [.agg [(.sc (.int .i64 (n.clocks))),SV,SC,SF,SP,(.sc (.slice none 0 0))]]):=by rw [AStore.get_alloc]; exact if_pos rfl
 generalize (σ.alloc (.cells 5 [.agg [(.sc (.int .i64 (n.clocks))),SV,SC,SF,SP]])).alloc (.cells 6 [.agg [(.sc (.int .i64 (n.clocks))),SV,SC,SF,SP,(.sc (.slice none 0 0))]])=τ at hk0 g9 ⊢
 refine vlp (ι:=Nat) (fun j=>[(3,.ptr (σ.next+1) 0 0),(10,SV),(11,(.sc (.int .i64 (n.vars.length)))),(12,(.sc (.int .i64 (j))))]) (fun j τ=>j<=n.vars.length/\KeepS σ τ/\∃ A,τ.get (σ.next+1)=some (.cells 6 [.agg [(.sc (.int .i64 (n.clocks))),SV,SC,SF,SP,A]])/\Own τ 1 A (((n.vars.take j).map Vr.nm).map sA)/\∀ c l,A=.slice c 0 l->σ.next+2<=c) (fun j=>n.vars.length - j) (fun _=>rfl) 0 ?_ ?_ ?_
 ·exact vsu
 ·exact ⟨Nat.zero_le _,hk0,(.sc (.slice none 0 0)),g9,Own.nil,by intro c l h; cases h⟩
 clear hk0 g9
 rintro j τ ⟨hj,hk,A,g9,hA,hAc⟩
 have kA:=hA.fit
 have cA:=hA.cells
 have iA:=hA.isCell
 simp -implicitDefEqProofs only [go_sem]
 (refine vif ?_ ?_<;>intro hlt)
 ·obtain ⟨x,hx⟩:∃ x,n.vars[j]?=some x:=⟨n.vars[j]'(by omega),by simp⟩
  have hx':(n.vars.map vrA)[j]?=some (vrA x):=by rw [List.getElem?_map,hx]; rfl
  have hix:=fun (σ:AStore)=>hV.idx (σ:=σ) (k:=.i64) hx'
  have hw:=wrapS (i:=j) (by omega)
  have htk:(n.vars.take (j+1)).map Vr.nm=(n.vars.take j).map Vr.nm++[x.nm]:=by rw [List.take_add_one,hx]; simp
  obtain ⟨nm,lo,hi,ini⟩:=x
  have hel:(((n.vars.take j).map Vr.nm).map sA).length=j:=by simp; omega
  have hnn:=AStore.lt_of_get g9
  (repeat' first|refine vw ?_ ?_<;>intro hq|refine vz ?_|simp -implicitDefEqProofs only [go_sem,hix,vrA,sA])
  have gx:((τ.alloc (.cells 4 [.agg [.sc (.string ⟨#[]⟩),(.sc (.int .i64 (0))),(.sc (.int .i64 (0))),(.sc (.int .i64 (0)))]])).set τ.next (.cells 4 [.agg [.sc (.string nm),(.sc (.int .i64 (lo))),(.sc (.int .i64 (hi))),(.sc (.int .i64 (ini)))]])).get τ.next=some (.cells 4 [.agg [.sc (.string nm),(.sc (.int .i64 (lo))),(.sc (.int .i64 (hi))),(.sc (.int .i64 (ini)))]]):=by rw [AStore.get_set,if_pos ⟨rfl,by simp only [alloc_next]; omega⟩]
  have g9':=get_al (y:=.cells 4 [.agg [.sc (.string ⟨#[]⟩),(.sc (.int .i64 (0))),(.sc (.int .i64 (0))),(.sc (.int .i64 (0)))]]) (z:=.cells 4 [.agg [.sc (.string nm),(.sc (.int .i64 (lo))),(.sc (.int .i64 (hi))),(.sc (.int .i64 (ini)))]]) g9
  have hA':=hA.al (.cells 4 [.agg [.sc (.string ⟨#[]⟩),(.sc (.int .i64 (0))),(.sc (.int .i64 (0))),(.sc (.int .i64 (0)))]]) (.cells 4 [.agg [.sc (.string nm),(.sc (.int .i64 (lo))),(.sc (.int .i64 (hi))),(.sc (.int .i64 (ini)))]])
  have hk':KeepS τ ((τ.alloc (.cells 4 [.agg [.sc (.string ⟨#[]⟩),(.sc (.int .i64 (0))),(.sc (.int .i64 (0))),(.sc (.int .i64 (0)))]])).set τ.next (.cells 4 [.agg [.sc (.string nm),(.sc (.int .i64 (lo))),(.sc (.int .i64 (hi))),(.sc (.int .i64 (ini)))]])):=(KeepS.alloc τ _).set (Nat.le_refl _) _
  have hnx:((τ.alloc (.cells 4 [.agg [.sc (.string ⟨#[]⟩),(.sc (.int .i64 (0))),(.sc (.int .i64 (0))),(.sc (.int .i64 (0)))]])).set τ.next (.cells 4 [.agg [.sc (.string nm),(.sc (.int .i64 (lo))),(.sc (.int .i64 (hi))),(.sc (.int .i64 (ini)))]])).next=τ.next+1:=rfl
  generalize (τ.alloc (.cells 4 [.agg [.sc (.string ⟨#[]⟩),(.sc (.int .i64 (0))),(.sc (.int .i64 (0))),(.sc (.int .i64 (0)))]])).set τ.next (.cells 4 [.agg [.sc (.string nm),(.sc (.int .i64 (lo))),(.sc (.int .i64 (hi))),(.sc (.int .i64 (ini)))]])=τ' at gx g9' hA' hk' hnx ⊢
  obtain ⟨σ',a1,a2,a3,a4⟩:=hA'.append (bytes:=16) (xs:=[.sc (.string nm)]) (by simp) (by rw [hel]; simp; omega) (by decide) (by decide) rfl
  rw [show (((n.vars.take j).map Vr.nm).map sA++[AVal.sc (.string nm)]).length=j+1 by rw [List.length_append,hel]; rfl] at a1 a2
  have p9:=a4 _ _ g9' (fun l hl=>by have:=hAc _ _ hl; omega)
  have hAx:∀ l,A≠.slice τ.next 0 l:=by
   intro l hl
   rcases hA with ⟨_,h1⟩|⟨_,b,h1,h2⟩
   ·rw [h1] at hl; cases hl
   ·rw [h1] at hl; cases hl; have:=AStore.lt_of_get h2; omega
  have px:=a4 _ _ gx (fun l hl=>hAx l hl)
  have hz1:τ'.next < τ'.next+1:=Nat.lt_succ_self _
  have hz2:σ.next+1 < σ'.next:=by omega
  ((try (refine Z_seq ?_; (try simp -implicitDefEqProofs only [go_sem]))); refine Z_draw (by kernel_rfl) [0,1,2,3,4,5,6,7,8,9,10,11] [(11,2047),(10,1023),(9,511),(8,254),(7,96),(6,32),(5,0),(4,14),(3,6),(2,2),(1,0),(0,0)] (by kernel_rfl) (by kernel_rfl) ?_)
  simp -implicitDefEqProofs only [go_sem,g9',gx,a1,p9,px,kA,cA,iA,kV,cV,iV,kC,cC,iC,kF,cF,iF,kP,cP,iP,hz1,hz2]
  (repeat' first|refine vw ?_ ?_<;>intro hq|refine vz ?_|simp -implicitDefEqProofs only [go_sem,g9',gx,a1,p9,px,kA,cA,iA,kV,cV,iV,kC,cC,iC,kF,cF,iF,kP,cP,iP,hz1,hz2,hw])
  refine ⟨j+1,vom,⟨by omega,⟨by simp only [set_next]; have:=hk.1; have:=hk'.1; omega,fun c y hg=>?_⟩,.slice τ'.next 0 (j+1),?_,?_,?_⟩,vsu⟩
  ·have hcl:=AStore.lt_of_get hg
   rw [AStore.get_set,if_neg (by omega)]
   exact a4 _ _ (hk'.2 _ _ (hk.2 _ _ hg)) (fun l hl=>by have:=hAc _ _ hl; omega)
  ·rw [AStore.get_set,if_pos ⟨rfl,hz2⟩]
  ·rw [htk,List.map_append]
   refine a2.mono fun c y hc hg=>?_
   injection hc with hc
   rw [AStore.get_set,if_neg (by omega)]; exact hg
  ·intro c l hc
   injection hc with hc
   omega
 ·obtain rfl:j=n.vars.length:=by omega
  rw [List.take_length] at hA
  (repeat' first|refine vw ?_ ?_<;>intro hq|refine vz ?_|simp -implicitDefEqProofs only [go_sem])
  exact ⟨_,A,rfl,g9,vom,hk,hA⟩
theorem begunC {w:WD} {σ:AStore} {n:Nt} {SV SC SF SP:AVal} (h:IsNt n (.agg [(.sc (.int .i64 (n.clocks))),SV,SC,SF,SP])) (hvl:n.vars.length<=1000000):
  ACalls (EE w) 60 [.agg [(.sc (.int .i64 (n.clocks))),SV,SC,SF,SP]] σ fun en σ'=>∃ b A,en=.ret (.ptr b 0 0)/\σ'.get b=some (.cells 6 [.agg [(.sc (.int .i64 (n.clocks))),SV,SC,SF,SP,A]])/\σ.next<=b/\KeepS σ σ':=
 (begunN h hvl).mono fun _ _ ⟨b,A,h1,h2,h3,h4,_⟩=>⟨b,A,h1,h2,h3,h4⟩
/-- What holds where a process stands. -/
def stI (n:Nt) (s:Stt) (j:Nat):List Cn:=match s.locs[j]?,n.procs[j]? with
 | some l,some p=>(match p.locs[l.toNat]? with
  | some y=>y.inv
  | none=>[])
 | _,_=>[]
def invsB (n:Nt) (s:Stt):List Cn:=(List.range n.procs.length).flatMap (stI n s)
theorem range_flat {α:Type} (f:Nat->List α) (j:Nat):(List.range (j+1)).flatMap f=(List.range j).flatMap f++f j:=by
 rw [List.range_succ,List.flatMap_append]
 simp
theorem flat_len {α:Type} (f:Nat->List α) (k:Nat) (h:∀ j,(f j).length<=k):∀ j,((List.range j).flatMap f).length<=k*j
 | 0=>by simp
 | j+1=>by
  rw [range_flat,List.length_append,Nat.mul_succ]
  have:=flat_len f k h j
  have:=h j
  omega
theorem valid_inv {n:Nt} (hv:validB n=true) {p:Pr} (hp:p∈n.procs) {y:Lc} (hy:y∈p.locs):y.inv.length<=16:=by
 simp only [validB,Bool.and_eq_true,List.all_eq_true] at hv
 have h1:=hv.2 p hp
 simp only [prB,Bool.and_eq_true,List.all_eq_true] at h1
 have h2:=h1.1.2 y hy
 simp only [lcB,cnsB,Bool.and_eq_true,decide_eq_true_eq] at h2
 exact h2.1.2.1
theorem valid_procs {n:Nt} (hv:validB n=true):n.procs.length<=6/\n.vars.length<=16/\0<=n.clocks/\n.clocks<=8:=by
 simp only [validB,hdB,Bool.and_eq_true,Bool.not_eq_true',Bool.or_eq_false_iff,decide_eq_false_iff_not] at hv
 obtain ⟨⟨⟨⟨⟨⟨⟨h1,h2⟩,h3⟩,h4⟩,h5⟩,h6⟩,_⟩,_⟩:=hv
 omega
theorem stI_len {n:Nt} (hv:validB n=true) (s:Stt) (j:Nat):(stI n s j).length<=16:=by
 unfold stI
 split
 ·rename_i l p h1 h2
  split
  ·rename_i y hy
   exact valid_inv hv (List.mem_of_getElem? h2) (List.mem_of_getElem? hy)
  ·simp
 ·simp
theorem check_loc {n:Nt} {s:Stt} (hc:checkB n s=true) {j:Nat} {p:Pr} (hp:n.procs[j]?=some p):∃ m:Nat,s.locs[j]?=some (m:Int)/\∃ y,p.locs[m]?=some y/\stI n s j=y.inv:=by
 simp only [checkB,Bool.and_eq_true,List.all_eq_true,List.mem_range,decide_eq_true_eq] at hc
 have hj:j < n.procs.length:=(List.getElem?_eq_some_iff.1 hp).1
 have h1:=hc.1.2 j (by rw [hc.1.1.1.2]; exact hj)
 unfold ckL at h1
 rw [hp] at h1
 cases hl:s.locs[j]? with
 | none=>rw [hl] at h1; simp at h1
 | some l=>
  rw [hl] at h1
  simp only [Bool.and_eq_true,decide_eq_true_eq] at h1
  obtain ⟨m,rfl⟩:∃ m:Nat,l=m:=⟨l.toNat,vom⟩
  have hm:m < p.locs.length:=by omega
  refine ⟨m,rfl,p.locs[m],by simp,?_⟩
  unfold stI
  rw [hl,hp]
  simp [hm]
theorem allCells_cn (l:List Cn):allCells (l.map cnA)=true:=by
 unfold allCells
 rw [List.all_eq_true]
 intro x hx
 obtain ⟨y,_,rfl⟩:=List.mem_map.1 hx
 rfl
theorem invariantC {w:WD} {σ:AStore} {b:Nat} {n:Nt} {s:Stt} {SV SC SF SP A u:AVal} (h:IsNt n (.agg [(.sc (.int .i64 (n.clocks))),SV,SC,SF,SP])) (hs:NtS n) (hu:IsStt s u) (hc:checkB n s=true) (hb:σ.get b=some (.cells 6 [.agg [(.sc (.int .i64 (n.clocks))),SV,SC,SF,SP,A]])):
  ACalls (EE w) 73 [.ptr b 0 0,u] σ fun en σ'=>∃ S r,en=.ret (.tuple [S,(.sc (.int .i64 (r)))])/\Own σ' 4 S ((invsB n s).map cnA)/\KeepS σ σ':=by
 obtain ⟨SV',SC',SF',SP',fels,he,icl,⟨hV,lv,hvo⟩,⟨hC,lc,hco⟩,hF,hFs,lf,hP⟩:=h
 simp only [AVal.agg.injEq,List.cons.injEq,and_true,true_and] at he
 obtain ⟨rfl,rfl,rfl,rfl⟩:=he
 obtain ⟨L,U,rfl,⟨hL,lL,iL0⟩,⟨hU,lU,iU0⟩⟩:=hu
 have hv:validB n=true:=by
  simp only [checkB,Bool.and_eq_true] at hc
  exact hc.1.1.1.1
 have hp6:=(valid_procs hv).1
 obtain ⟨pels,hP1,hPl,hPat⟩:=hP.at'
 have hPn:∀ σ:AStore,aLen (.slice 0) SP σ=some (.sc (.int .i64 (n.procs.length))):=fun σ=>hP1.lenN hPl
 have kP:=hP1.fit
 have cP:=hP1.cells
 have iP:=hP1.isCell
 have kL:=hL.fit
 have cL:=hL.cells
 have iL:=hL.isCell
 have kU:=hU.fit
 have cU:=hU.cells
 have iU:=hU.isCell
 have hbl:=AStore.lt_of_get hb
 have gb:∀ y,(σ.alloc y).get b=some (.cells 6 [.agg [(.sc (.int .i64 (n.clocks))),SV,SC,SF,SP,A]]):=fun y=>get_alloc_old hb
 refine of_73 rfl rfl rfl (by kernel_rfl) ?_
 simp -implicitDefEqProofs only [go_sem,kL,cL,iL,kU,cU,iU,gb,kP,cP,iP,hPn]
 (try (repeat' first|refine vw ?_ ?_<;>intro hq|refine vz ?_|simp -implicitDefEqProofs only [go_sem,kL,cL,iL,kU,cU,iU,gb,kP,cP,iP,hPn]))
 have hk0:KeepS σ (σ.alloc (.cells 2 [.agg [L,U]])):=KeepS.alloc _ _
 have g0:(σ.alloc (.cells 2 [.agg [L,U]])).get σ.next=some (.cells 2 [.agg [L,U]]):=by rw [AStore.get_alloc]; exact if_pos rfl
 generalize σ.alloc (.cells 2 [.agg [L,U]])=τ at hk0 g0 ⊢
 refine vlp (ι:=AVal×Int×Nat) (fun p=>[(3,.ptr σ.next 0 0),(4,p.1),(5,(.sc (.int .i64 (p.2.1)))),(13,SP),(14,(.sc (.int .i64 (n.procs.length)))),(15,(.sc (.int .i64 (p.2.2))))]) (fun p τ=>p.2.2<=n.procs.length/\KeepS σ τ/\τ.get σ.next=some (.cells 2 [.agg [L,U]])/\Own τ 4 p.1 (((List.range p.2.2).flatMap (stI n s)).map cnA)/\∀ c l,p.1=.slice c 0 l->σ.next+1<=c) (fun p=>n.procs.length - p.2.2) (fun _=>rfl) ((.sc (.slice none 0 0)),0,0) ?_ ?_ ?_
 ·exact vsu
 ·exact ⟨Nat.zero_le _,hk0,g0,by simpa using Own.nil,by intro c l h; cases h⟩
 clear hk0 g0
 rintro ⟨S,r,j⟩ τ ⟨hj,hk,g0,hS,hSc⟩
 simp only at hj hk g0 hS hSc
 have kS:=hS.fit
 have cS:=hS.cells
 have iS:=hS.isCell
 simp -implicitDefEqProofs only [go_sem]
 (refine vif ?_ ?_<;>intro hlt)
 ·obtain ⟨p,hp⟩:∃ p,n.procs[j]?=some p:=⟨n.procs[j]'(by omega),by simp⟩
  obtain ⟨ev,hev,hpx⟩:=hPat j p hp
  have hip:=fun (σ:AStore)=>hP1.idx (σ:=σ) (k:=.i64) hev
  have hw:=wrapS (i:=j) (by omega)
  obtain ⟨m,hm,y,hy,hst⟩:=check_loc hc hp
  have hm':(s.locs.map iA)[j]?=some (iA m):=by rw [List.getElem?_map,hm]; rfl
  have hil:=fun (σ:AStore)=>hL.idx (σ:=σ) (k:=.i64) hm'
  obtain ⟨SL,SE,rfl,hL2,hE2,iini⟩:=hpx
  obtain ⟨lels,hL3,hLl,hLat⟩:=hL2.at'
  obtain ⟨eels,hE3,hEl,hEat⟩:=hE2.at'
  have kSL:=hL3.fit
  have cSL:=hL3.cells
  have iSL:=hL3.isCell
  have kSE:=hE3.fit
  have cSE:=hE3.cells
  have iSE:=hE3.isCell
  obtain ⟨ey,hey,hyv⟩:=hLat m y hy
  have hiy:=fun (σ:AStore)=>hL3.idx (σ:=σ) (k:=.i64) hey
  obtain ⟨G,rfl,hG,iy1,iy2⟩:=hyv
  have kG:=hG.1.fit
  have cG:=hG.1.cells
  have iG:=hG.1.isCell
  have sG:∀ σ:AStore,aSrc 4 G σ=some (y.inv.map cnA):=fun σ=>hG.1.src
  have hnn:=AStore.lt_of_get g0
  (repeat' first|refine vw ?_ ?_<;>intro hq|refine vz ?_|simp -implicitDefEqProofs only [go_sem,hip,kSL,cSL,iSL,kSE,cSE,iSE])
  have gx:((τ.alloc (.cells 3 [.agg [(.sc (.int .i64 (0))),(.sc (.slice none 0 0)),(.sc (.slice none 0 0))]])).set τ.next (.cells 3 [.agg [(.sc (.int .i64 (p.ini))),SL,SE]])).get τ.next=some (.cells 3 [.agg [(.sc (.int .i64 (p.ini))),SL,SE]]):=by rw [AStore.get_set,if_pos ⟨rfl,by simp only [alloc_next]; omega⟩]
  have g0':=get_al (y:=.cells 3 [.agg [(.sc (.int .i64 (0))),(.sc (.slice none 0 0)),(.sc (.slice none 0 0))]]) (z:=.cells 3 [.agg [(.sc (.int .i64 (p.ini))),SL,SE]]) g0
  have hS':=hS.al (.cells 3 [.agg [(.sc (.int .i64 (0))),(.sc (.slice none 0 0)),(.sc (.slice none 0 0))]]) (.cells 3 [.agg [(.sc (.int .i64 (p.ini))),SL,SE]])
  have hk':KeepS τ ((τ.alloc (.cells 3 [.agg [(.sc (.int .i64 (0))),(.sc (.slice none 0 0)),(.sc (.slice none 0 0))]])).set τ.next (.cells 3 [.agg [(.sc (.int .i64 (p.ini))),SL,SE]])):=(KeepS.alloc τ _).set (Nat.le_refl _) _
  have hnx:((τ.alloc (.cells 3 [.agg [(.sc (.int .i64 (0))),(.sc (.slice none 0 0)),(.sc (.slice none 0 0))]])).set τ.next (.cells 3 [.agg [(.sc (.int .i64 (p.ini))),SL,SE]])).next=τ.next+1:=rfl
  generalize (τ.alloc (.cells 3 [.agg [(.sc (.int .i64 (0))),(.sc (.slice none 0 0)),(.sc (.slice none 0 0))]])).set τ.next (.cells 3 [.agg [(.sc (.int .i64 (p.ini))),SL,SE]])=τ' at gx g0' hS' hk' hnx ⊢
  ((try (refine Z_seq ?_; (try simp -implicitDefEqProofs only [go_sem]))); refine Z_draw (by kernel_rfl) [0,1,2,3,4,5,6,7,8,9,10] [(10,1023),(9,0),(8,255),(7,127),(6,60),(5,28),(4,0),(3,4),(2,0),(1,1),(0,0)] (by kernel_rfl) (by kernel_rfl) ?_)
  have hS2:=hS'.al (.cells 3 [.agg [(.sc (.int .i64 (0))),(.sc (.slice none 0 0)),(.sc (.int .i64 (0)))]]) (.cells 3 [.agg [(.sc (.int .i64 (y.kind))),G,(.sc (.int .i64 (y.rate)))]])
  have gy:((τ'.alloc (.cells 3 [.agg [(.sc (.int .i64 (0))),(.sc (.slice none 0 0)),(.sc (.int .i64 (0)))]])).set τ'.next (.cells 3 [.agg [(.sc (.int .i64 (y.kind))),G,(.sc (.int .i64 (y.rate)))]])).get τ'.next=some (.cells 3 [.agg [(.sc (.int .i64 (y.kind))),G,(.sc (.int .i64 (y.rate)))]]):=by rw [AStore.get_set,if_pos ⟨rfl,by simp only [alloc_next]; omega⟩]
  have hle:(((List.range j).flatMap (stI n s)).map cnA).length<=16*j:=by rw [List.length_map]; exact flat_len _ 16 (stI_len hv s) j
  have hly:(y.inv.map cnA).length<=16:=by rw [List.length_map,<-hst]; exact stI_len hv s j
  obtain ⟨S',σ',a1,a2,a3,a4,a5⟩:=hS2.append' (bytes:=24) (xs:=y.inv.map cnA) (by omega) (by decide) (by decide) (allCells_cn _)
  have gy2:=a4 _ _ gy (fun l hl=>by
   rcases hS with ⟨_,h1⟩|⟨_,c,h1,h2⟩
   ·rw [h1] at hl; cases hl
   ·rw [h1] at hl; cases hl; have:=AStore.lt_of_get h2; omega)
  have hz1:τ'.next < τ'.next+1:=Nat.lt_succ_self _
  have hz2:¬ σ.next=τ'.next:=by omega
  have hz3:¬ τ.next=τ'.next:=by omega
  simp -implicitDefEqProofs only [go_sem,g0',gx,gy,hil,iA,hiy,kL,cL,iL,kU,cU,iU,kSL,cSL,iSL,kSE,cSE,iSE,kG,cG,iG,sG,hz1,hz2,hz3,kS,cS,iS]
  (try (repeat' first|refine vw ?_ ?_<;>intro hq|refine vz ?_|simp -implicitDefEqProofs only [go_sem,g0',gx,gy,gy2,hil,iA,hiy,kL,cL,iL,kU,cU,iU,kSL,cSL,iSL,kSE,cSE,iSE,kG,cG,iG,sG,hz1,hz2,hz3,kS,cS,iS,a1,hw]))
  have hq:∀ c,c<=σ.next->∀ l,S≠.slice c 0 l:=fun c hcl l hl=>by have:=hSc _ _ hl; omega
  refine ⟨(S',IntKind.i64.wrap (r+y.rate),j+1),vom,⟨vom,⟨?_,fun c x hg=>?_⟩,a4 _ _ (get_al g0') (hq _ (Nat.le_refl _)),?_,fun c l hcl=>?_⟩,vsu⟩
  ·have h1:=hk.1
   have h2:τ'.next<=σ'.next:=by
    have:=a3
    simp only [set_next,alloc_next] at this
    omega
   omega
  ·have hcl:=AStore.lt_of_get hg
   exact a4 _ _ (get_al (hk'.2 _ _ (hk.2 _ _ hg))) (hq _ (by omega))
  ·dsimp only
   rw [range_flat,List.map_append,hst]
   exact a2
  ·dsimp only at hcl
   refine Decidable.byContradiction fun hn=>?_
   exact a5 c (by simp only [set_next,alloc_next]; omega) (hq c (by omega)) l hcl
 ·obtain rfl:j=n.procs.length:=by omega
  (repeat' first|refine vw ?_ ?_<;>intro hq|refine vz ?_|simp -implicitDefEqProofs only [go_sem])
  exact ⟨S,r,rfl,hS,hk⟩
theorem frz_cns {σ:AStore} (l:List Cn) {M:Nat} (hM:2<=M):mapO (Abs.frz σ M) (l.map cnA)=some (l.map cnA):=by
 obtain ⟨M,rfl⟩:∃ k,M=k+2:=⟨M - 2,vom⟩
 induction l with
 | nil=>rfl
 | cons p ps ih=>rw [List.map_cons,mapO_cons',ih]; rfl
theorem invarC {w:WD} {n:Nt} {s:Stt} {v u:AVal} (h:IsNt n v) (hs:NtS n) (hu:IsStt s u):
  Gives (EE w) 32 [v,u] fun r=>(checkB n s=false/\r=.tuple [(.sc (.slice none 0 0)),(.sc (.int .i64 (2)))])\/(checkB n s=true/\∃ S,r=.tuple [S,(.sc (.int .i64 (0)))]/\IsD 4 S ((invsB n s).map cnA)):=by
 have hwf:=h.wf
 have hwu:=hu.wf
 have hCk:=fun w:WD=>checkC (w:=w) h hs hu
 have hIv:=fun (w:WD) (σ:AStore) (b:Nat) (SV SC SF SP A:AVal) (he:v=.agg [(.sc (.int .i64 (n.clocks))),SV,SC,SF,SP]) (hc:checkB n s=true) (hb:σ.get b=some (.cells 6 [.agg [(.sc (.int .i64 (n.clocks))),SV,SC,SF,SP,A]]))=>invariantC (w:=w) (he ▸ h) hs hu hc hb
 have hBg:=fun (w:WD) (σ:AStore) (SV SC SF SP:AVal) (he:v=.agg [(.sc (.int .i64 (n.clocks))),SV,SC,SF,SP]) (hl:n.vars.length<=1000000)=>begunC (w:=w) (σ:=σ) (he ▸ h) hl
 obtain ⟨SV,SC,SF,SP,fels,rfl,icl,⟨hV,lv,hvo⟩,⟨hC,lc,hco⟩,hF,hFs,lf,hP⟩:=h
 obtain ⟨L,U,rfl,⟨hL,lL,iL0⟩,⟨hU,lU,iU0⟩⟩:=hu
 obtain ⟨pels,hP1,hPl,hPat⟩:=hP.at'
 have kV:=hV.fit
 have cV:=hV.cells
 have iV:=hV.isCell
 have kC:=hC.fit
 have cC:=hC.cells
 have iC:=hC.isCell
 have kF:=hF.fit
 have cF:=hF.cells
 have iF:=hF.isCell
 have kP:=hP1.fit
 have cP:=hP1.cells
 have iP:=hP1.isCell
 have kL:=hL.fit
 have cL:=hL.cells
 have iL:=hL.isCell
 have kU:=hU.fit
 have cU:=hU.cells
 have iU:=hU.isCell
 refine Gives.of gWF (.cons _ _ hwf (.cons _ _ hwu .nil)) 4 ?_
 refine of_32 rfl rfl rfl (by kernel_rfl) ?_
 simp -implicitDefEqProofs only [go_sem,kV,cV,iV,kC,cC,iC,kF,cF,iF,kP,cP,iP,kL,cL,iL,kU,cU,iU]
 have g0:((empty.alloc (.cells 5 [.agg [(.sc (.int .i64 (n.clocks))),SV,SC,SF,SP]])).alloc (.cells 2 [.agg [L,U]])).get 0=some (.cells 5 [.agg [(.sc (.int .i64 (n.clocks))),SV,SC,SF,SP]]):=by rw [AStore.get_alloc]; rfl
 have g1:((empty.alloc (.cells 5 [.agg [(.sc (.int .i64 (n.clocks))),SV,SC,SF,SP]])).alloc (.cells 2 [.agg [L,U]])).get 1=some (.cells 2 [.agg [L,U]]):=by rw [AStore.get_alloc]; rfl
 generalize (empty.alloc (.cells 5 [.agg [(.sc (.int .i64 (n.clocks))),SV,SC,SF,SP]])).alloc (.cells 2 [.agg [L,U]])=τ at g0 g1 ⊢
 refine (hCk _).use ?_
 cases hc:checkB n s with
 | false=>
  simp only [Bool.false_eq_true,if_false,if_true]
  (repeat' first|refine vw ?_ ?_<;>intro hq|refine vz ?_|simp -implicitDefEqProofs only [go_sem,g0,g1])
  exact ⟨_,_,rfl,rfl,.inl rfl⟩
 | true=>
  have hv:validB n=true:=by
   simp only [checkB,Bool.and_eq_true] at hc
   exact hc.1.1.1.1
  have hvl:=(valid_procs hv).2.1
  simp only [if_true]
  (repeat' first|refine vw ?_ ?_<;>intro hq|refine vz ?_|simp -implicitDefEqProofs only [go_sem,g0,g1])
  ((try (refine Z_seq ?_; (try simp -implicitDefEqProofs only [go_sem]))); refine Z_draw (by kernel_rfl) [0,2,1,3,4,5,6,7,8] [(8,255),(7,63),(6,31),(5,31),(4,15),(3,7),(1,1),(2,0),(0,0)] (by kernel_rfl) (by kernel_rfl) ?_)
  simp -implicitDefEqProofs only [go_sem,g0,g1,kV,cV,iV,kC,cC,iC,kF,cF,iF,kP,cP,iP,kL,cL,iL,kU,cU,iU]
  refine (hBg _ _ SV SC SF SP rfl (by omega)).mono ?_
  rintro _ τ1 ⟨b,A,rfl,gb,hbl,k1⟩
  have g01:=k1.2 _ _ g0
  have g11:=k1.2 _ _ g1
  refine .inr ?_
  simp -implicitDefEqProofs only [go_sem,g01,g11,kV,cV,iV,kC,cC,iC,kF,cF,iF,kP,cP,iP,kL,cL,iL,kU,cU,iU]
  refine (hIv _ _ b SV SC SF SP A rfl hc gb).mono ?_
  rintro _ τ2 ⟨S,r,rfl,hS,k2⟩
  have g02:=k2.2 _ _ g01
  have g12:=k2.2 _ _ g11
  refine .inr ?_
  simp -implicitDefEqProofs only [go_sem,g02,g12,kV,cV,iV,kC,cC,iC,kF,cF,iF,kP,cP,iP,kL,cL,iL,kU,cU,iU]
  rcases hS with ⟨h1,rfl⟩|⟨_,c,rfl,h2⟩
  ·exact ⟨_,_,rfl,rfl,.inr ⟨_,rfl,by rw [h1]; exact .inl ⟨rfl,_,_,rfl⟩⟩⟩
  ·refine ⟨_,.tuple [.data 4 false ((invsB n s).map cnA),(.sc (.int .i64 (0)))],rfl,?_,.inr ⟨_,rfl,.inr ⟨_,rfl⟩⟩⟩
   have e1:frz τ2 3 (.slice c 0 ((invsB n s).map cnA).length)=some (.data 4 false ((invsB n s).map cnA)):=by
    rw [frz_slice,h2,frzS_cells (by simp),List.drop_zero,List.take_of_length_le (Nat.le_refl _),frz_cns _ (Nat.le_refl _)]; rfl
   rw [frz_tuple,mapO_cons',e1]
   rfl
def exprP (x:Ex) (d:Nat) (r:AVal):Prop:=∃ m:Nat,r=(.sc (.int .i64 (m)))/\m<=1000*(42 - d)/\(m < 1000->nodesE x<=m)
theorem exprC {w:WD}:∀ (k:Nat) {x:Ex} {v:AVal} (d:Nat),d+k=41->IsEx x v->Gives (EE w) 20 [v,(.sc (.int .i64 (d)))] (exprP x d):=by
 intro k
 induction k generalizing w with
 | zero=>
  intro x v d hd h
  obtain rfl:d=41:=by omega
  have hwf:=h.wf
  obtain ⟨k,nm,i,l⟩:=x
  simp only [IsEx] at h
  obtain ⟨S,els,rfl,hS,hx,hk,hi,hn,hl⟩:=h
  have kS:=hS.fit
  have cS:=hS.cells
  have iS:=hS.isCell
  refine Gives.of gWF (.cons _ _ hwf (.cons _ _ (.sc _) .nil)) 1 ?_
  refine of_20 rfl rfl rfl (by kernel_rfl) ?_
  have e1:decide ((40:Int) < ((41:Nat):Int))=true:=rfl
  simp -implicitDefEqProofs only [go_sem,kS,cS,iS,e1]
  (try (repeat' first|refine vw ?_ ?_<;>intro hq|refine vz ?_|simp -implicitDefEqProofs only [go_sem,kS,cS,iS,e1]))
  exact ⟨_,_,rfl,rfl,1000,rfl,by decide,fun h=>absurd h (by decide)⟩
 | succ k ih=>
  intro x v d hd h
  have hwf:=h.wf
  obtain ⟨kk,nm,ii,l⟩:=x
  simp only [IsEx] at h
  obtain ⟨S,els,rfl,hS,hx,hk,hi,hn,hl⟩:=h
  have hlen:=hx.len
  have hSn:=fun σ:AStore=>hS.lenN hlen (σ:=σ)
  have kS:=hS.fit
  have cS:=hS.cells
  have iS:=hS.isCell
  refine Gives.of gWF (.cons _ _ hwf (.cons _ _ (.sc _) .nil)) 1 ?_
  refine of_20 rfl rfl rfl (by kernel_rfl) ?_
  have e1:decide ((40:Int) < (d:Int))=false:=dcf (by omega)
  have hwd:=wrapS (i:=d) (by omega)
  simp -implicitDefEqProofs only [go_sem,kS,cS,iS,e1]
  (try (repeat' first|refine vw ?_ ?_<;>intro hq|refine vz ?_|simp -implicitDefEqProofs only [go_sem,kS,cS,iS,e1]))
  have g0:(empty.alloc (.cells 4 [.agg [(.sc (.int .i64 (kk))),.sc (.string nm),(.sc (.int .i64 (ii))),S]])).get 0=some (.cells 4 [.agg [(.sc (.int .i64 (kk))),.sc (.string nm),(.sc (.int .i64 (ii))),S]]):=by rw [AStore.get_alloc]; rfl
  generalize empty.alloc (.cells 4 [.agg [(.sc (.int .i64 (kk))),.sc (.string nm),(.sc (.int .i64 (ii))),S]])=τ at g0 ⊢
  refine vlp (ι:=Nat×Nat) (fun p=>[(1,(.sc (.int .i64 (d)))),(2,.ptr 0 0 0),(5,(.sc (.int .i64 (p.1)))),(6,(.sc (.int .i64 (p.2))))]) (fun p σ=>σ=τ/\p.2<=l.length/\p.1<=1000*(42 - d)/\(p.1 < 1000->1+nodesEs (l.take p.2)<=p.1)) (fun p=>l.length - p.2) (fun _=>rfl) (1,0) ?_ ?_ ?_
  ·exact vsu
  ·exact ⟨rfl,Nat.zero_le _,vom,fun _=>by simp [nodesEs]⟩
  rintro ⟨m,i⟩ σ ⟨rfl,hi2,hm,hn2⟩
  simp only at hi2 hm hn2
  by_cases hil:i < l.length
  ·have q1:decide ((i:Int) < (l.length:Int))=true:=dct (by omega)
   by_cases hml:m < 1000
   ·have q2:decide ((m:Int) < 1000)=true:=dct (by omega)
    obtain ⟨y,hy⟩:∃ y,l[i]?=some y:=⟨l[i]'hil,by simp⟩
    obtain ⟨e,he,hye⟩:=hx.at hy
    have hix:=fun (σ:AStore)=>hS.idx (σ:=σ) (k:=.i64) he
    have hwi:=wrapS (i:=i) (by omega)
    obtain ⟨a1,a2,a3,a4,rfl⟩:∃ a b c f,e=.agg [a,b,c,f]:=by
     obtain ⟨k1,n1,i1,l1⟩:=y
     simp only [IsEx] at hye
     obtain ⟨S1,els1,rfl,_⟩:=hye
     exact ⟨_,_,_,_,rfl⟩
    obtain ⟨c1,c2,c3⟩:=hye.isA.facts
    simp -implicitDefEqProofs only [go_sem,g0,kS,cS,iS,hSn,q1,q2]
    (repeat' first|refine vw ?_ ?_<;>intro hq|refine vz ?_|simp -implicitDefEqProofs only [go_sem,g0,kS,cS,iS,hSn,q1,q2,hix,hwd,c1,c2,c3])
    refine (ih (d+1) (by omega) hye).use fun r hr=>?_
    obtain ⟨m1,rfl,hb1,hb2⟩:=hr
    have hwm:IntKind.i64.wrap ((m:Int)+(m1:Int))=((m+m1:Nat):Int):=by rw [wrap64 (by omega) (by omega)]; omega
    (repeat' first|refine vw ?_ ?_<;>intro hq|refine vz ?_|simp -implicitDefEqProofs only [go_sem,hwm,hwi])
    refine ⟨(m+m1,i+1),vom,⟨rfl,vom,vom,fun hlt=>?_⟩,vsu⟩
    dsimp only at hlt ⊢
    rw [nodesEs_take hy]
    have:=hn2 hml
    have:=hb2 (by omega)
    omega
   ·have q2:decide ((m:Int) < 1000)=false:=dcf (by omega)
    simp -implicitDefEqProofs only [go_sem,g0,kS,cS,iS,hSn,q1,q2]
    (repeat' first|refine vw ?_ ?_<;>intro hq|refine vz ?_|simp -implicitDefEqProofs only [go_sem,g0,kS,cS,iS,hSn,q1,q2])
    exact ⟨_,_,rfl,rfl,m,rfl,hm,fun h=>absurd h hml⟩
  ·obtain rfl:i=l.length:=by omega
   have q1:decide ((l.length:Int) < (l.length:Int))=false:=dcf (by omega)
   simp -implicitDefEqProofs only [go_sem,g0,kS,cS,iS,hSn,q1]
   (repeat' first|refine vw ?_ ?_<;>intro hq|refine vz ?_|simp -implicitDefEqProofs only [go_sem,g0,kS,cS,iS,hSn,q1])
   rw [List.take_length] at hn2
   exact ⟨_,_,rfl,rfl,m,rfl,hm,fun h=>by simp only [nodesE]; exact hn2 h⟩
structure LgE (y:Eg):Prop where
 gd:y.gd.length<=120
 ss:y.ss.length<=120
 rs:y.rs.length<=120
 cd:nodesE y.cd<=120
 sx:∀ s∈y.ss,nodesE s.e<=120
structure LgP (p:Pr):Prop where
 ll:p.locs.length<=8
 le:p.egs.length<=14
 iv:∀ y∈p.locs,y.inv.length<=120
 eg:∀ y∈p.egs,LgE y
structure Lg (n:Nt):Prop where
 cl:n.clocks<=20
 vl:n.vars.length<=4
 fl:n.funcs.length=0
 ch:n.chans.length<=8
 pl:n.procs.length<=4
 pr:∀ p∈n.procs,LgP p
def largeP (n:Nt) (r:AVal):Prop:=r=(.sc (.bool (true)))\/(r=(.sc (.bool (false)))/\Lg n)
theorem mem_ofN {α:Type} {l:List α} {P:α->Prop} (h:∀ k,k < l.length->∀ y,l[k]?=some y->P y):∀ y∈l,P y:=fun y hy=>by
 obtain ⟨k,hk,rfl⟩:=List.mem_iff_getElem.1 hy
 exact h k hk _ (List.getElem?_eq_getElem hk)
theorem at_succ {α:Type} {l:List α} {P:α->Prop} {j:Nat} {x:α} (h:∀ k,k < j->∀ y,l[k]?=some y->P y) (hx:l[j]?=some x) (hp:P x):∀ k,k < j+1->∀ y,l[k]?=some y->P y:=fun k hk y hy=>by
 by_cases hkj:k=j
 ·subst hkj
  rw [hx] at hy
  cases hy
  exact hp
 ·exact h k (by omega) y hy
theorem largeC {w:WD} {n:Nt} {v:AVal} (h:IsNt n v):Gives (EE w) 6 [v] (largeP n):=by
 have hwf:=h.wf
 obtain ⟨SV,SC,SF,SP,fels,rfl,icl,⟨hV,lv,hvo⟩,⟨hC,lc,hco⟩,hF,hFs,lf,hP⟩:=h
 have hVn:∀ σ:AStore,aLen (.slice 0) SV σ=some (.sc (.int .i64 (n.vars.length))):=fun σ=>by have:=hV.len (σ:=σ); rwa [List.length_map] at this
 have hCn:∀ σ:AStore,aLen (.slice 0) SC σ=some (.sc (.int .i64 (n.chans.length))):=fun σ=>by have:=hC.len (σ:=σ); rwa [List.length_map] at this
 have hFn:∀ σ:AStore,aLen (.slice 0) SF σ=some (.sc (.int .i64 (n.funcs.length))):=fun σ=>hF.lenN hFs.len
 obtain ⟨pels,hP1,hPl,hPat⟩:=hP.at'
 have hPn:∀ σ:AStore,aLen (.slice 0) SP σ=some (.sc (.int .i64 (n.procs.length))):=fun σ=>hP1.lenN hPl
 have kV:=hV.fit
 have cV:=hV.cells
 have iV:=hV.isCell
 have kC:=hC.fit
 have cC:=hC.cells
 have iC:=hC.isCell
 have kF:=hF.fit
 have cF:=hF.cells
 have iF:=hF.isCell
 have kP:=hP1.fit
 have cP:=hP1.cells
 have iP:=hP1.isCell
 refine Gives.of gWF (.cons _ _ hwf .nil) 1 ?_
 refine of_6 rfl rfl rfl (by kernel_rfl) ?_
 have g0:(empty.alloc (.cells 5 [.agg [(.sc (.int .i64 (n.clocks))),SV,SC,SF,SP]])).get 0=some (.cells 5 [.agg [(.sc (.int .i64 (n.clocks))),SV,SC,SF,SP]]):=by rw [AStore.get_alloc]; rfl
 have yes:∀ {σ:AStore},∃ u v,AEnd.ret (.sc (.bool (true)))=AEnd.ret u/\frz σ 1 u=some v/\largeP n v:=⟨_,_,rfl,rfl,.inl rfl⟩
 simp -implicitDefEqProofs only [go_sem,kV,cV,iV,kC,cC,iC,kF,cF,iF,kP,cP,iP]
 (try generalize empty.alloc (.cells 5 [.agg [(.sc (.int .i64 (n.clocks))),SV,SC,SF,SP]])=τ at g0 ⊢)
 by_cases h1:20 < n.clocks
 ·have q1:decide ((20:Int) < n.clocks)=true:=dct h1
  (repeat' first|refine vw ?_ ?_<;>intro hq|refine vz ?_|simp -implicitDefEqProofs only [go_sem,g0,kV,cV,iV,kC,cC,iC,kF,cF,iF,kP,cP,iP,hVn,hFn,hCn,hPn,q1])
  exact yes
 have q1:decide ((20:Int) < n.clocks)=false:=dcf h1
 by_cases h2:4 < n.vars.length
 ·have q2:decide ((4:Int) < n.vars.length)=true:=dct (by omega)
  (repeat' first|refine vw ?_ ?_<;>intro hq|refine vz ?_|simp -implicitDefEqProofs only [go_sem,g0,kV,cV,iV,kC,cC,iC,kF,cF,iF,kP,cP,iP,hVn,hFn,hCn,hPn,q1,q2])
  exact yes
 have q2:decide ((4:Int) < n.vars.length)=false:=dcf (by omega)
 by_cases h3:0 < n.funcs.length
 ·have q3:decide ((0:Int) < n.funcs.length)=true:=dct (by omega)
  (repeat' first|refine vw ?_ ?_<;>intro hq|refine vz ?_|simp -implicitDefEqProofs only [go_sem,g0,kV,cV,iV,kC,cC,iC,kF,cF,iF,kP,cP,iP,hVn,hFn,hCn,hPn,q1,q2,q3])
  exact yes
 have q3:decide ((0:Int) < n.funcs.length)=false:=dcf (by omega)
 by_cases h4:8 < n.chans.length
 ·have q4:decide ((8:Int) < n.chans.length)=true:=dct (by omega)
  (repeat' first|refine vw ?_ ?_<;>intro hq|refine vz ?_|simp -implicitDefEqProofs only [go_sem,g0,kV,cV,iV,kC,cC,iC,kF,cF,iF,kP,cP,iP,hVn,hFn,hCn,hPn,q1,q2,q3,q4])
  exact yes
 have q4:decide ((8:Int) < n.chans.length)=false:=dcf (by omega)
 by_cases h5:4 < n.procs.length
 ·have q5:decide ((4:Int) < n.procs.length)=true:=dct (by omega)
  (repeat' first|refine vw ?_ ?_<;>intro hq|refine vz ?_|simp -implicitDefEqProofs only [go_sem,g0,kV,cV,iV,kC,cC,iC,kF,cF,iF,kP,cP,iP,hVn,hFn,hCn,hPn,q1,q2,q3,q4,q5])
  exact yes
 have q5:decide ((4:Int) < n.procs.length)=false:=dcf (by omega)
 (repeat' first|refine vw ?_ ?_<;>intro hq|refine vz ?_|simp -implicitDefEqProofs only [go_sem,g0,kV,cV,iV,kC,cC,iC,kF,cF,iF,kP,cP,iP,hVn,hFn,hCn,hPn,q1,q2,q3,q4,q5])
 refine vlp (ι:=Nat×Nat×Nat) (fun p=>[(1,.ptr 0 0 0),(3,(.sc (.int .i64 (p.1)))),(4,(.sc (.int .i64 (p.2.1)))),(5,(.sc (.int .i64 (p.2.2))))]) (fun p σ=>σ.get 0=some (.cells 5 [.agg [(.sc (.int .i64 (n.clocks))),SV,SC,SF,SP]])/\p.2.2<=n.procs.length/\p.1<=14/\p.2.1<=1125899906842624*(64*p.2.2)/\(p.2.1<=120->∀ k,k < p.2.2->∀ x,n.procs[k]?=some x->LgP x)) (fun p=>n.procs.length - p.2.2) (fun _=>rfl) (0,0,0) ?_ ?_ ?_
 ·exact vsu
 ·exact ⟨g0,Nat.zero_le _,Nat.zero_le _,Nat.zero_le _,fun _ k hk=>absurd hk (Nat.not_lt_zero _)⟩
 clear g0
 rintro ⟨e,m,i⟩ σ ⟨g0,hi,he,hm,hall⟩
 simp only at hi he hm hall
 have hi4:n.procs.length<=4:=by omega
 by_cases hil:i < n.procs.length
 ·have hq:decide ((i:Int) < (n.procs.length:Int))=true:=dct (by omega)
  obtain ⟨p,hp⟩:∃ p,n.procs[i]?=some p:=⟨n.procs[i]'hil,by simp⟩
  obtain ⟨ev,hev,hpx⟩:=hPat i p hp
  have hix:=fun (σ:AStore)=>hP1.idx (σ:=σ) (k:=.i64) hev
  have hwi:=wrapS (i:=i) (by omega)
  obtain ⟨SL,SE,rfl,hL,hE,iini⟩:=hpx
  have hll:=hL.choose_spec.2.2.1
  have hel:=hE.choose_spec.2.2.1
  obtain ⟨lels,hL1,hLl,hLat⟩:=hL.at'
  obtain ⟨eels,hE1,hEl,hEat⟩:=hE.at'
  have kL:=hL1.fit
  have cL:=hL1.cells
  have iL:=hL1.isCell
  have kE:=hE1.fit
  have cE:=hE1.cells
  have iE:=hE1.isCell
  have hLn:∀ σ:AStore,aLen (.slice 0) SL σ=some (.sc (.int .i64 (p.locs.length))):=fun σ=>hL1.lenN hLl
  have hEn:∀ σ:AStore,aLen (.slice 0) SE σ=some (.sc (.int .i64 (p.egs.length))):=fun σ=>hE1.lenN hEl
  have gx:∀ y z,((σ.alloc y).set σ.next z).get σ.next=some z:=fun y z=>by rw [AStore.get_set,if_pos ⟨rfl,by simp only [alloc_next]; omega⟩]
  have g0':∀ y z,((σ.alloc y).set σ.next z).get 0=some (.cells 5 [.agg [(.sc (.int .i64 (n.clocks))),SV,SC,SF,SP]]):=fun y z=>get_al g0
  have hwe:IntKind.i64.wrap ((e:Int)+(p.egs.length:Int))=((e+p.egs.length:Nat):Int):=by rw [wrap64 (by omega) (by omega)]; omega
  by_cases ha:8 < p.locs.length
  ·have q6:decide ((8:Int) < (p.locs.length:Int))=true:=dct (by omega)
   simp -implicitDefEqProofs only [go_sem,g0,kP,cP,iP,kV,cV,iV,kC,cC,iC,kF,cF,iF,hPn,hq]
   (repeat' first|refine vw ?_ ?_<;>intro hq|refine vz ?_|simp -implicitDefEqProofs only [go_sem,g0,g0',gx,kP,cP,iP,kV,cV,iV,kC,cC,iC,kF,cF,iF,hPn,hq,hix,kL,cL,iL,kE,cE,iE,hLn,hEn,hwe,q6])
   exact yes
  have q6:decide ((8:Int) < (p.locs.length:Int))=false:=dcf (by omega)
  by_cases hb:14 < e+p.egs.length
  ·have q7:decide ((14:Int) < ((e+p.egs.length:Nat):Int))=true:=dct (by omega)
   simp -implicitDefEqProofs only [go_sem,g0,kP,cP,iP,kV,cV,iV,kC,cC,iC,kF,cF,iF,hPn,hq]
   (repeat' first|refine vw ?_ ?_<;>intro hq|refine vz ?_|simp -implicitDefEqProofs only [go_sem,g0,g0',gx,kP,cP,iP,kV,cV,iV,kC,cC,iC,kF,cF,iF,hPn,hq,hix,kL,cL,iL,kE,cE,iE,hLn,hEn,hwe,q6,q7])
   exact yes
  have q7:decide ((14:Int) < ((e+p.egs.length:Nat):Int))=false:=dcf (by omega)
  simp -implicitDefEqProofs only [go_sem,g0,kP,cP,iP,kV,cV,iV,kC,cC,iC,kF,cF,iF,hPn,hq]
  (repeat' first|refine vw ?_ ?_<;>intro hq|refine vz ?_|simp -implicitDefEqProofs only [go_sem,g0,g0',gx,kP,cP,iP,kV,cV,iV,kC,cC,iC,kF,cF,iF,hPn,hq,hix,kL,cL,iL,kE,cE,iE,hLn,hEn,hwe,q6,q7])
  have gp:=gx (.cells 3 [.agg [(.sc (.int .i64 (0))),(.sc (.slice none 0 0)),(.sc (.slice none 0 0))]]) (.cells 3 [.agg [(.sc (.int .i64 (p.ini))),SL,SE]])
  have g00:=g0' (.cells 3 [.agg [(.sc (.int .i64 (0))),(.sc (.slice none 0 0)),(.sc (.slice none 0 0))]]) (.cells 3 [.agg [(.sc (.int .i64 (p.ini))),SL,SE]])
  generalize hc6:σ.next=c6 at gp g00 ⊢
  generalize (σ.alloc (.cells 3 [.agg [(.sc (.int .i64 (0))),(.sc (.slice none 0 0)),(.sc (.slice none 0 0))]])).set c6 (.cells 3 [.agg [(.sc (.int .i64 (p.ini))),SL,SE]])=τ at gp g00 ⊢
  clear g0 g0' gx
  refine vlp (ι:=Nat×Nat) (fun q=>[(1,.ptr 0 0 0),(3,(.sc (.int .i64 (((e+p.egs.length:Nat):Int))))),(4,(.sc (.int .i64 (q.1)))),(5,(.sc (.int .i64 (i)))),(6,.ptr c6 0 0),(7,(.sc (.int .i64 (q.2))))]) (fun q σ=>σ.get 0=some (.cells 5 [.agg [(.sc (.int .i64 (n.clocks))),SV,SC,SF,SP]])/\σ.get c6=some (.cells 3 [.agg [(.sc (.int .i64 (p.ini))),SL,SE]])/\q.2<=p.locs.length/\m<=q.1/\q.1<=1125899906842624*(64*i+q.2)/\(q.1<=120->∀ k,k < q.2->∀ y,p.locs[k]?=some y->y.inv.length<=120)) (fun q=>p.locs.length - q.2) (fun _=>rfl) (m,0) ?_ ?_ ?_
  ·exact vsu
  ·exact ⟨g00,gp,Nat.zero_le _,Nat.le_refl _,by simpa using hm,fun _ k hk=>absurd hk (Nat.not_lt_zero _)⟩
  clear g00 gp
  rintro ⟨m1,j⟩ σ ⟨g0,gp,hj,hmm,hm1,hal1⟩
  simp only at hj hmm hm1 hal1
  by_cases hjl:j < p.locs.length
  ·have hq2:decide ((j:Int) < (p.locs.length:Int))=true:=dct (by omega)
   obtain ⟨y,hy⟩:∃ y,p.locs[j]?=some y:=⟨p.locs[j]'hjl,by simp⟩
   obtain ⟨ey,hey,hyv⟩:=hLat j y hy
   have hiy:=fun (σ:AStore)=>hL1.idx (σ:=σ) (k:=.i64) hey
   have hwj:=wrapS (i:=j) (by omega)
   obtain ⟨G,rfl,hG,iy1,iy2⟩:=hyv
   have kG:=hG.1.fit
   have cG:=hG.1.cells
   have iG:=hG.1.isCell
   have hgl:=hG.2.1
   have hGn:∀ σ:AStore,aLen (.slice 0) G σ=some (.sc (.int .i64 (y.inv.length))):=fun σ=>by have:=hG.1.len (σ:=σ); rwa [List.length_map] at this
   have hwm:IntKind.i64.wrap ((m1:Int)+(y.inv.length:Int))=((m1+y.inv.length:Nat):Int):=by rw [wrap64 (by omega) (by omega)]; omega
   simp -implicitDefEqProofs only [go_sem,gp,kL,cL,iL,kE,cE,iE,hLn,hq2]
   (repeat' first|refine vw ?_ ?_<;>intro hq|refine vz ?_|simp -implicitDefEqProofs only [go_sem,g0,gp,kL,cL,iL,kE,cE,iE,hLn,hq2,hiy,kG,cG,iG,hGn,hwm,hwj])
   refine ⟨(m1+y.inv.length,j+1),vom,⟨g0,gp,vom,vom,vom,fun h=>?_⟩,vsu⟩
   dsimp only at h ⊢
   exact at_succ (hal1 (by omega)) hy (by omega)
  obtain rfl:j=p.locs.length:=by omega
  have hq2:decide ((p.locs.length:Int) < (p.locs.length:Int))=false:=dcf (by omega)
  simp -implicitDefEqProofs only [go_sem,gp,kL,cL,iL,kE,cE,iE,hLn,hq2]
  (repeat' first|refine vw ?_ ?_<;>intro hq|refine vz ?_|simp -implicitDefEqProofs only [go_sem,g0,gp,kL,cL,iL,kE,cE,iE,hLn,hq2])
  have hbi:m1<=1125899906842624*(64*i+8):=by omega
  refine vlp (ι:=Nat×Nat) (fun q=>[(1,.ptr 0 0 0),(3,(.sc (.int .i64 (((e+p.egs.length:Nat):Int))))),(4,(.sc (.int .i64 (q.1)))),(5,(.sc (.int .i64 (i)))),(6,.ptr c6 0 0),(8,(.sc (.int .i64 (q.2))))]) (fun q σ=>σ.get 0=some (.cells 5 [.agg [(.sc (.int .i64 (n.clocks))),SV,SC,SF,SP]])/\σ.get c6=some (.cells 3 [.agg [(.sc (.int .i64 (p.ini))),SL,SE]])/\q.2<=p.egs.length/\m1<=q.1/\q.1<=1125899906842624*(64*i+8+q.2)/\(q.1<=120->∀ k,k < q.2->∀ y,p.egs[k]?=some y->LgE y)) (fun q=>p.egs.length - q.2) (fun _=>rfl) (m1,0) ?_ ?_ ?_
  ·exact vsu
  ·exact ⟨g0,gp,Nat.zero_le _,Nat.le_refl _,by simpa using hbi,fun _ k hk=>absurd hk (Nat.not_lt_zero _)⟩
  clear g0 gp
  rintro ⟨m2,q⟩ σ ⟨g0,gp,hq3,hm2,hm3,hal2⟩
  simp only at hq3 hm2 hm3 hal2
  by_cases hql:q < p.egs.length
  ·have hq4:decide ((q:Int) < (p.egs.length:Int))=true:=dct (by omega)
   obtain ⟨y,hy⟩:∃ y,p.egs[q]?=some y:=⟨p.egs[q]'hql,by simp⟩
   obtain ⟨ey,hey,hyv⟩:=hEat q y hy
   have hiy:=fun (σ:AStore)=>hE1.idx (σ:=σ) (k:=.i64) hey
   have hwq:=wrapS (i:=q) (by omega)
   obtain ⟨G,a,a2,a3,a4,SS,SR,rfl,hG,hEx,hSs,hR,i1,i2,i3,i4,i5⟩:=hyv
   have kG:=hG.1.fit
   have cG:=hG.1.cells
   have iG:=hG.1.isCell
   have hgl:=hG.2.1
   have hrl:=hR.2.1
   have hsl:=hSs.choose_spec.2.2.1
   obtain ⟨sels,hS1,hSl,hSat⟩:=hSs.at'
   have kSS:=hS1.fit
   have cSS:=hS1.cells
   have iSS:=hS1.isCell
   have kR:=hR.1.fit
   have cR:=hR.1.cells
   have iR:=hR.1.isCell
   have hGn:∀ σ:AStore,aLen (.slice 0) G σ=some (.sc (.int .i64 (y.gd.length))):=fun σ=>by have:=hG.1.len (σ:=σ); rwa [List.length_map] at this
   have hSn:∀ σ:AStore,aLen (.slice 0) SS σ=some (.sc (.int .i64 (y.ss.length))):=fun σ=>hS1.lenN hSl
   have hRn:∀ σ:AStore,aLen (.slice 0) SR σ=some (.sc (.int .i64 (y.rs.length))):=fun σ=>by have:=hR.1.len (σ:=σ); rwa [List.length_map] at this
   obtain ⟨kk,nn,ii,rfl,rfl,rfl,kX,cX,iX⟩:∃ (kk:Int) (nn:ByteArray) (ii:Int),a=(.sc (.int .i64 (kk)))/\a2=.sc (.string nn)/\a3=(.sc (.int .i64 (ii)))/\a4.fit=true/\a4.cells=[a4]/\a4.isCell=true:=by
    have hEy:=hEx
    generalize y.cd=cd at hEy
    obtain ⟨k,nm,i,l⟩:=cd
    simp only [IsEx] at hEy
    obtain ⟨S,els,he,hS,_⟩:=hEy
    simp only [AVal.agg.injEq,List.cons.injEq,and_true] at he
    obtain ⟨rfl,rfl,rfl,rfl⟩:=he
    exact ⟨_,_,_,rfl,rfl,rfl,hS.fit,hS.cells,hS.isCell⟩
   have gx:∀ y z,((σ.alloc y).set σ.next z).get σ.next=some z:=fun y z=>by rw [AStore.get_set,if_pos ⟨rfl,by simp only [alloc_next]; omega⟩]
   have g0':∀ y z,((σ.alloc y).set σ.next z).get 0=some (.cells 5 [.agg [(.sc (.int .i64 (n.clocks))),SV,SC,SF,SP]]):=fun y z=>get_al g0
   have gp':∀ y z,((σ.alloc y).set σ.next z).get c6=some (.cells 3 [.agg [(.sc (.int .i64 (p.ini))),SL,SE]]):=fun y z=>get_al gp
   simp -implicitDefEqProofs only [go_sem,gp,kL,cL,iL,kE,cE,iE,hEn,hq4]
   (repeat' first|refine vw ?_ ?_<;>intro hq|refine vz ?_|simp -implicitDefEqProofs only [go_sem,g0,gp,gp',gx,kL,cL,iL,kE,cE,iE,hEn,hq4,hiy,kX,cX,iX,kG,cG,iG,kSS,cSS,iSS,kR,cR,iR])
   have gq:=gx (.cells 13 [.agg [(.sc (.int .i64 (0))),(.sc (.int .i64 (0))),(.sc (.slice none 0 0)),(.sc (.int .i64 (0))),.sc (.string ⟨#[]⟩),(.sc (.int .i64 (0))),(.sc (.slice none 0 0)),(.sc (.int .i64 (0))),(.sc (.bool (false))),(.sc (.slice none 0 0)),(.sc (.slice none 0 0)),(.sc (.int .i64 (0))),(.sc (.int .i64 (0)))]]) (.cells 13 [.agg [(.sc (.int .i64 (y.fr))),(.sc (.int .i64 (y.to))),G,(.sc (.int .i64 (kk))),.sc (.string nn),(.sc (.int .i64 (ii))),a4,(.sc (.int .i64 (y.ch))),(.sc (.bool (y.snd))),SS,SR,(.sc (.int .i64 (y.cost))),(.sc (.int .i64 (y.kind)))]])
   have gpq:=gp' (.cells 13 [.agg [(.sc (.int .i64 (0))),(.sc (.int .i64 (0))),(.sc (.slice none 0 0)),(.sc (.int .i64 (0))),.sc (.string ⟨#[]⟩),(.sc (.int .i64 (0))),(.sc (.slice none 0 0)),(.sc (.int .i64 (0))),(.sc (.bool (false))),(.sc (.slice none 0 0)),(.sc (.slice none 0 0)),(.sc (.int .i64 (0))),(.sc (.int .i64 (0)))]]) (.cells 13 [.agg [(.sc (.int .i64 (y.fr))),(.sc (.int .i64 (y.to))),G,(.sc (.int .i64 (kk))),.sc (.string nn),(.sc (.int .i64 (ii))),a4,(.sc (.int .i64 (y.ch))),(.sc (.bool (y.snd))),SS,SR,(.sc (.int .i64 (y.cost))),(.sc (.int .i64 (y.kind)))]])
   have g0q:=g0' (.cells 13 [.agg [(.sc (.int .i64 (0))),(.sc (.int .i64 (0))),(.sc (.slice none 0 0)),(.sc (.int .i64 (0))),.sc (.string ⟨#[]⟩),(.sc (.int .i64 (0))),(.sc (.slice none 0 0)),(.sc (.int .i64 (0))),(.sc (.bool (false))),(.sc (.slice none 0 0)),(.sc (.slice none 0 0)),(.sc (.int .i64 (0))),(.sc (.int .i64 (0)))]]) (.cells 13 [.agg [(.sc (.int .i64 (y.fr))),(.sc (.int .i64 (y.to))),G,(.sc (.int .i64 (kk))),.sc (.string nn),(.sc (.int .i64 (ii))),a4,(.sc (.int .i64 (y.ch))),(.sc (.bool (y.snd))),SS,SR,(.sc (.int .i64 (y.cost))),(.sc (.int .i64 (y.kind)))]])
   generalize hc9:σ.next=c9 at gq gpq g0q ⊢
   generalize (σ.alloc (.cells 13 [.agg [(.sc (.int .i64 (0))),(.sc (.int .i64 (0))),(.sc (.slice none 0 0)),(.sc (.int .i64 (0))),.sc (.string ⟨#[]⟩),(.sc (.int .i64 (0))),(.sc (.slice none 0 0)),(.sc (.int .i64 (0))),(.sc (.bool (false))),(.sc (.slice none 0 0)),(.sc (.slice none 0 0)),(.sc (.int .i64 (0))),(.sc (.int .i64 (0)))]])).set c9 (.cells 13 [.agg [(.sc (.int .i64 (y.fr))),(.sc (.int .i64 (y.to))),G,(.sc (.int .i64 (kk))),.sc (.string nn),(.sc (.int .i64 (ii))),a4,(.sc (.int .i64 (y.ch))),(.sc (.bool (y.snd))),SS,SR,(.sc (.int .i64 (y.cost))),(.sc (.int .i64 (y.kind)))]])=τ2 at gq gpq g0q ⊢
   clear g0 g0' gx gp' gp
   have w1:IntKind.i64.wrap ((m2:Int)+(y.gd.length:Int))=((m2+y.gd.length:Nat):Int):=by rw [wrap64 (by omega) (by omega)]; omega
   have w2:IntKind.i64.wrap (((m2+y.gd.length:Nat):Int)+(y.ss.length:Int))=((m2+y.gd.length+y.ss.length:Nat):Int):=by rw [wrap64 (by omega) (by omega)]; omega
   have w3:IntKind.i64.wrap (((m2+y.gd.length+y.ss.length:Nat):Int)+(y.rs.length:Int))=((m2+y.gd.length+y.ss.length+y.rs.length:Nat):Int):=by rw [wrap64 (by omega) (by omega)]; omega
   ((try (refine Z_seq ?_; (try simp -implicitDefEqProofs only [go_sem]))); refine Z_draw (by kernel_rfl) [0,1,2,3,4,5,6,7,8,9,10,11,12,13,14,15,16,17] [(17,131071),(16,65535),(15,24576),(14,8192),(13,0),(12,4095),(11,1536),(10,512),(9,0),(8,255),(7,96),(6,32),(5,0),(4,15),(3,6),(2,2),(1,0),(0,0)] (by kernel_rfl) (by kernel_rfl) ?_)
   simp -implicitDefEqProofs only [go_sem,gq,kX,cX,iX,kG,cG,iG,kSS,cSS,iSS,kR,cR,iR,hGn,hSn,hRn,w1,w2,w3]
   refine (exprC 41 0 (by omega) hEx).useD fun r hr=>?_
   obtain ⟨m4,rfl,hb4,hc4⟩:=hr
   have w4:IntKind.i64.wrap (((m2+y.gd.length+y.ss.length+y.rs.length:Nat):Int)+(m4:Int))=((m2+y.gd.length+y.ss.length+y.rs.length+m4:Nat):Int):=by rw [wrap64 (by omega) (by omega)]; omega
   simp -implicitDefEqProofs only [go_sem,w1,w2,w3,w4]
   (repeat' first|refine vw ?_ ?_<;>intro hq|refine vz ?_|simp -implicitDefEqProofs only [go_sem,gq,kX,cX,iX,kG,cG,iG,kSS,cSS,iSS,kR,cR,iR,hGn,hSn,hRn,w1,w2,w3,w4])
   obtain ⟨m5,hm5⟩:∃ m5,m5=m2+y.gd.length+y.ss.length+y.rs.length+m4:=⟨_,rfl⟩
   rw [<-hm5]
   have hm5b:m5<=1125899906842624*(64*i+8+(q+1)):=by omega
   refine vlp (ι:=Nat×Nat) (fun r=>[(1,.ptr 0 0 0),(3,(.sc (.int .i64 (((e+p.egs.length:Nat):Int))))),(4,(.sc (.int .i64 (r.1)))),(5,(.sc (.int .i64 (i)))),(6,.ptr c6 0 0),(8,(.sc (.int .i64 (q)))),(9,.ptr c9 0 0),(10,(.sc (.int .i64 (r.2))))]) (fun r σ=>σ.get 0=some (.cells 5 [.agg [(.sc (.int .i64 (n.clocks))),SV,SC,SF,SP]])/\σ.get c6=some (.cells 3 [.agg [(.sc (.int .i64 (p.ini))),SL,SE]])/\σ.get c9=some (.cells 13 [.agg [(.sc (.int .i64 (y.fr))),(.sc (.int .i64 (y.to))),G,(.sc (.int .i64 (kk))),.sc (.string nn),(.sc (.int .i64 (ii))),a4,(.sc (.int .i64 (y.ch))),(.sc (.bool (y.snd))),SS,SR,(.sc (.int .i64 (y.cost))),(.sc (.int .i64 (y.kind)))]])/\r.2<=y.ss.length/\m5<=r.1/\r.1<=1125899906842624*(64*i+8+(q+1))/\(r.1<=120->∀ k,k < r.2->∀ s,y.ss[k]?=some s->nodesE s.e<=120)) (fun r=>y.ss.length - r.2) (fun _=>rfl) (m5,0) ?_ ?_ ?_
   ·exact vsu
   ·exact ⟨g0q,gpq,gq,Nat.zero_le _,Nat.le_refl _,hm5b,fun _ k hk=>absurd hk (Nat.not_lt_zero _)⟩
   clear g0q gpq gq
   rintro ⟨m6,z⟩ σ ⟨g0,gp,gq,hz,hm6,hm7,hal3⟩
   simp only at hz hm6 hm7 hal3
   have fin:m6<=120->z=y.ss.length->LgE y:=fun h hzl=>by
    subst hzl
    exact ⟨vom,vom,vom,by have:=hc4 (by omega); omega,mem_ofN (hal3 h)⟩
   by_cases hzl:z < y.ss.length
   ·have q9:decide ((z:Int) < (y.ss.length:Int))=true:=dct (by omega)
    by_cases hml:m6<=120
    ·have qa:decide ((m6:Int)<=120)=true:=dct (by omega)
     obtain ⟨s,hs⟩:∃ s,y.ss[z]?=some s:=⟨y.ss[z]'hzl,by simp⟩
     obtain ⟨es,hes,hsv⟩:=hSat z s hs
     have his:=fun (σ:AStore)=>hS1.idx (σ:=σ) (k:=.i64) hes
     have hwz:=wrapS (i:=z) (by omega)
     obtain ⟨za,rfl,hZe,_⟩:=hsv
     obtain ⟨zk,zn,zi,zS,rfl,kZ,cZ,iZ⟩:∃ (zk:Int) (zn:ByteArray) (zi:Int) (zS:AVal),za=[(.sc (.int .i64 (zk))),.sc (.string zn),(.sc (.int .i64 (zi))),zS]/\zS.fit=true/\zS.cells=[zS]/\zS.isCell=true:=by
      have hEy:=hZe
      generalize s.e=cd at hEy
      obtain ⟨k,nm,i,l⟩:=cd
      simp only [IsEx] at hEy
      obtain ⟨S,els,he,hS,_⟩:=hEy
      simp only [AVal.agg.injEq] at he
      exact ⟨_,_,_,_,he,hS.fit,hS.cells,hS.isCell⟩
     simp -implicitDefEqProofs only [go_sem,gq,kX,cX,iX,kG,cG,iG,kSS,cSS,iSS,kR,cR,iR,hSn,q9,qa]
     (repeat' first|refine vw ?_ ?_<;>intro hq|refine vz ?_|simp -implicitDefEqProofs only [go_sem,gq,kX,cX,iX,kG,cG,iG,kSS,cSS,iSS,kR,cR,iR,hSn,q9,qa,his,kZ,cZ,iZ])
     refine (exprC 41 0 (by omega) hZe).use fun r hr=>?_
     obtain ⟨m8,rfl,hb8,hc8⟩:=hr
     have w8:IntKind.i64.wrap ((m6:Int)+(m8:Int))=((m6+m8:Nat):Int):=by rw [wrap64 (by omega) (by omega)]; omega
     (repeat' first|refine vw ?_ ?_<;>intro hq|refine vz ?_|simp -implicitDefEqProofs only [go_sem,w8,hwz])
     refine ⟨(m6+m8,z+1),vom,⟨g0,gp,gq,vom,vom,vom,fun h=>?_⟩,vsu⟩
     dsimp only at h ⊢
     exact at_succ (hal3 (by omega)) hs (by have:=hc8 (by omega); omega)
    ·have qa:decide ((m6:Int)<=120)=false:=dcf (by omega)
     simp -implicitDefEqProofs only [go_sem,gq,kX,cX,iX,kG,cG,iG,kSS,cSS,iSS,kR,cR,iR,hSn,q9,qa]
     (repeat' first|refine vw ?_ ?_<;>intro hq|refine vz ?_|simp -implicitDefEqProofs only [go_sem,gq,kX,cX,iX,kG,cG,iG,kSS,cSS,iSS,kR,cR,iR,hSn,q9,qa,hwq])
     refine ⟨(m6,q+1),vom,⟨g0,gp,vom,vom,vom,fun h=>?_⟩,vsu⟩
     dsimp only at h
     omega
   ·have q9:decide ((z:Int) < (y.ss.length:Int))=false:=dcf (by omega)
    simp -implicitDefEqProofs only [go_sem,gq,kX,cX,iX,kG,cG,iG,kSS,cSS,iSS,kR,cR,iR,hSn,q9]
    (repeat' first|refine vw ?_ ?_<;>intro hq|refine vz ?_|simp -implicitDefEqProofs only [go_sem,gq,kX,cX,iX,kG,cG,iG,kSS,cSS,iSS,kR,cR,iR,hSn,q9,hwq])
    refine ⟨(m6,q+1),vom,⟨g0,gp,vom,vom,vom,fun h=>?_⟩,vsu⟩
    dsimp only at h ⊢
    exact at_succ (hal2 (by omega)) hy (fin h (by omega))
  obtain rfl:q=p.egs.length:=by omega
  have hq4:decide ((p.egs.length:Int) < (p.egs.length:Int))=false:=dcf (by omega)
  simp -implicitDefEqProofs only [go_sem,gp,kL,cL,iL,kE,cE,iE,hEn,hq4]
  (repeat' first|refine vw ?_ ?_<;>intro hq|refine vz ?_|simp -implicitDefEqProofs only [go_sem,g0,gp,kL,cL,iL,kE,cE,iE,hEn,hq4,hwi])
  refine ⟨(e+p.egs.length,m2,i+1),vom,⟨g0,vom,vom,vom,fun h=>?_⟩,vsu⟩
  dsimp only at h ⊢
  exact at_succ (hall (by omega)) hp ⟨vom,vom,mem_ofN (hal1 (by omega)),mem_ofN (hal2 h)⟩
 ·obtain rfl:i=n.procs.length:=by omega
  have hq:decide ((n.procs.length:Int) < (n.procs.length:Int))=false:=dcf (by omega)
  by_cases hb:120 < m
  ·have q8:decide ((120:Int) < (m:Int))=true:=dct (by omega)
   simp -implicitDefEqProofs only [go_sem,g0,kP,cP,iP,kV,cV,iV,kC,cC,iC,kF,cF,iF,hPn,hq]
   (repeat' first|refine vw ?_ ?_<;>intro hq|refine vz ?_|simp -implicitDefEqProofs only [go_sem,g0,kP,cP,iP,kV,cV,iV,kC,cC,iC,kF,cF,iF,hPn,hq,q8])
   exact yes
  ·have q8:decide ((120:Int) < (m:Int))=false:=dcf (by omega)
   simp -implicitDefEqProofs only [go_sem,g0,kP,cP,iP,kV,cV,iV,kC,cC,iC,kF,cF,iF,hPn,hq]
   (repeat' first|refine vw ?_ ?_<;>intro hq|refine vz ?_|simp -implicitDefEqProofs only [go_sem,g0,kP,cP,iP,kV,cV,iV,kC,cC,iC,kF,cF,iF,hPn,hq,q8])
   exact ⟨_,_,rfl,rfl,.inr ⟨rfl,vom,vom,vom,vom,vom,mem_ofN (hall (by omega))⟩⟩
theorem Lg.nts {n:Nt} (h:Lg n):NtS n where
 pl:=by have:=h.pl; omega
 ll:=fun p hp=>by have:=(h.pr p hp).ll; have:=(h.pr p hp).le; omega
 lc:=fun p hp=>⟨fun y hy=>by have:=(h.pr p hp).iv y hy; omega,fun y hy=>by have:=((h.pr p hp).eg y hy).ss; have:=((h.pr p hp).eg y hy).rs; omega⟩
 fs:=by
  have h1:=h.fl
  cases hf:n.funcs with
  | nil=>decide
  | cons a b=>rw [hf] at h1; simp at h1
 fl:=by have:=h.fl; omega
 cd:=fun p hp x hx=>⟨by have:=((h.pr p hp).eg x hx).cd; omega,fun s hs=>by have:=((h.pr p hp).eg x hx).sx s hs; omega⟩
end Abs
end
