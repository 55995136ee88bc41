/-
  Functions of the program walked: each is shown to compute a plain function (NB).
-/
import Derived.Test.YthedompojmncpaaGreatN9
noncomputable section
namespace Abs
set_option linter.unusedSimpArgs false
set_option linter.unusedVariables false
set_option maxRecDepth 100000
set_option maxHeartbeats 16000000
open Go Go.Proofs
structure Stt where
 locs:List Int
 vars:List Int
def iA (x:Int):AVal:=(.sc (.int .i64 (x)))
def IsStt (s:Stt) (v:AVal):Prop:=∃ L V,v=.agg [L,V]/\(IsD 1 L (s.locs.map iA)/\s.locs.length<=281474976710656/\∀ x∈s.locs,in64 x)/\(IsD 1 V (s.vars.map iA)/\s.vars.length<=281474976710656/\∀ x∈s.vars,in64 x)
theorem wf_iA (x:Int):WF 0 (iA x):=.sc _
theorem IsStt.wf {s:Stt} {v:AVal} (h:IsStt s v):WF 0 v:=by
 obtain ⟨L,V,rfl,h1,h2⟩:=h
 exact .agg _ (.cons _ _ (h1.1.wf (WFs.map wf_iA)) (.cons _ _ (h2.1.wf (WFs.map wf_iA)) .nil))
def ckL (n:Nt) (s:Stt) (i:Nat):Bool:=match s.locs[i]?,n.procs[i]? with
 | some l,some p=>decide (0<=l) && decide (l < p.locs.length)
 | _,_=>false
def ckV (n:Nt) (s:Stt) (i:Nat):Bool:=match s.vars[i]?,n.vars[i]? with
 | some x,some v=>decide (v.lo<=x) && decide (x<=v.hi)
 | _,_=>false
def checkB (n:Nt) (s:Stt):Bool:=validB n && decide (s.locs.length=n.procs.length) && decide (s.vars.length=n.vars.length) && (List.range s.locs.length).all (ckL n s) && (List.range s.vars.length).all (ckV n s)
theorem checkC {w:WD} {n:Nt} {v:AVal} {s:Stt} {u:AVal} (h:IsNt n v) (hs:NtS n) (hu:IsStt s u):GivesV (EE w) 44 [v,u] (.sc (.int .i64 (if checkB n s then 0 else 2))):=by
 have hwf:=h.wf
 have hwu:=hu.wf
 have hVa:=fun w:WD=>validC (w:=w) h hs
 obtain ⟨SV,SC,SF,SP,fels,rfl,icl,⟨hV,lv,hvo⟩,⟨hC,lc,hco⟩,hF,hFs,lf,hP⟩:=h
 obtain ⟨L,U,rfl,⟨hL,lL,iL0⟩,⟨hU,lU,iU0⟩⟩:=hu
 have hVn:∀ σ:AStore,aLen (.slice 0) SV σ=some (.sc (.int .i64 (n.vars.length))):=fun σ=>by have:=hV.len (σ:=σ); rwa [List.length_map] at this
 have hLn:∀ σ:AStore,aLen (.slice 0) L σ=some (.sc (.int .i64 (s.locs.length))):=fun σ=>by have:=hL.len (σ:=σ); rwa [List.length_map] at this
 have hUn:∀ σ:AStore,aLen (.slice 0) U σ=some (.sc (.int .i64 (s.vars.length))):=fun σ=>by have:=hU.len (σ:=σ); rwa [List.length_map] at this
 obtain ⟨pels,hP1,hPl,hPat⟩:=hP.at'
 have hPn:∀ σ:AStore,aLen (.slice 0) SP σ=some (.sc (.int .i64 (n.procs.length))):=fun σ=>hP1.lenN hPl
 have kV:=hV.fit
 have cV:=hV.cells
 have iV:=hV.isCell
 have kC:=hC.fit
 have cC:=hC.cells
 have iC:=hC.isCell
 have kF:=hF.fit
 have cF:=hF.cells
 have iF:=hF.isCell
 have kP:=hP1.fit
 have cP:=hP1.cells
 have iP:=hP1.isCell
 have kL:=hL.fit
 have cL:=hL.cells
 have iL:=hL.isCell
 have kU:=hU.fit
 have cU:=hU.cells
 have iU:=hU.isCell
 refine GivesV.of (fun _=>.sc _) (.cons _ _ hwf (.cons _ _ hwu .nil)) 2 ?_
 refine of_44 rfl rfl rfl (by kernel_rfl) ?_
 simp -implicitDefEqProofs only [go_sem,kV,cV,iV,kC,cC,iC,kF,cF,iF,kP,cP,iP,kL,cL,iL,kU,cU,iU]
 have g0:((empty.alloc (.cells 5 [.agg [(.sc (.int .i64 (n.clocks))),SV,SC,SF,SP]])).alloc (.cells 2 [.agg [L,U]])).get 0=some (.cells 5 [.agg [(.sc (.int .i64 (n.clocks))),SV,SC,SF,SP]]):=by rw [AStore.get_alloc]; rfl
 have g1:((empty.alloc (.cells 5 [.agg [(.sc (.int .i64 (n.clocks))),SV,SC,SF,SP]])).alloc (.cells 2 [.agg [L,U]])).get 1=some (.cells 2 [.agg [L,U]]):=by rw [AStore.get_alloc]; rfl
 generalize (empty.alloc (.cells 5 [.agg [(.sc (.int .i64 (n.clocks))),SV,SC,SF,SP]])).alloc (.cells 2 [.agg [L,U]])=τ at g0 g1 ⊢
 have ret2:∀ {σ:AStore},checkB n s=false->∃ u,AEnd.ret (.sc (.int .i64 (2)))=AEnd.ret u/\frz σ 2 u=some (.sc (.int .i64 (if checkB n s then 0 else 2))):=fun h=>⟨_,rfl,by rw [h]; rfl⟩
 refine (hVa _).use ?_
 cases hv:validB n with
 | false=>
  simp only [Bool.false_eq_true,if_false,if_true]
  (repeat' first|(refine vy ?_ ?_<;>rintro ⟨hd,hq⟩<;>first|(exfalso; omega)|simp -implicitDefEqProofs only [go_sem,hd]|skip)|refine vz ?_|simp -implicitDefEqProofs only [go_sem,g0,g1])
  exact ret2 (by simp [checkB,hv])
 | true=>
 simp only [Bool.false_eq_true,if_false,if_true]
 have ea:decide ((s.locs.length:Int)=n.procs.length)=decide (s.locs.length=n.procs.length):=decide_eq_decide.2 (by omega)
 have eb:decide ((s.vars.length:Int)=n.vars.length)=decide (s.vars.length=n.vars.length):=decide_eq_decide.2 (by omega)
 cases hb1:decide (s.locs.length=n.procs.length) with
 | false=>
  rw [hb1] at ea
  (repeat' first|(refine vy ?_ ?_<;>rintro ⟨hd,hq⟩<;>first|(exfalso; omega)|simp -implicitDefEqProofs only [go_sem,hd]|skip)|refine vz ?_|simp -implicitDefEqProofs only [go_sem,g0,g1,kV,cV,iV,kC,cC,iC,kF,cF,iF,kP,cP,iP,kL,cL,iL,kU,cU,iU,hLn,hPn,ea])
  exact ret2 (by simp [checkB,of_decide_eq_false hb1])
 | true=>
 rw [hb1] at ea
 cases hb2:decide (s.vars.length=n.vars.length) with
 | false=>
  rw [hb2] at eb
  (repeat' first|(refine vy ?_ ?_<;>rintro ⟨hd,hq⟩<;>first|(exfalso; omega)|simp -implicitDefEqProofs only [go_sem,hd]|skip)|refine vz ?_|simp -implicitDefEqProofs only [go_sem,g0,g1,kV,cV,iV,kC,cC,iC,kF,cF,iF,kP,cP,iP,kL,cL,iL,kU,cU,iU,hLn,hPn,ea,hUn,hVn,eb])
  exact ret2 (by simp [checkB,of_decide_eq_false hb2])
 | true=>
 rw [hb2] at eb
 have q1:=of_decide_eq_true hb1
 have q2:=of_decide_eq_true hb2
 (repeat' first|(refine vy ?_ ?_<;>rintro ⟨hd,hq⟩<;>first|(exfalso; omega)|simp -implicitDefEqProofs only [go_sem,hd]|skip)|refine vz ?_|simp -implicitDefEqProofs only [go_sem,g0,g1,kV,cV,iV,kC,cC,iC,kF,cF,iF,kP,cP,iP,kL,cL,iL,kU,cU,iU,hLn,hPn,ea,hUn,hVn,eb])
 refine vlp (ι:=Nat) (fun i=>[(2,.ptr 0 0 0),(3,.ptr 1 0 0),(31,L),(32,(.sc (.int .i64 (s.locs.length)))),(33,(.sc (.int .i64 (i))))]) (fun i σ=>i<=s.locs.length/\σ=τ/\∀ k,k < i->ckL n s k=true) (fun i=>s.locs.length - i) (fun _=>rfl) 0 ?_ ?_ ?_
 ·(repeat' (first|exact trivial|refine ⟨rfl,?_⟩))
 ·exact ⟨Nat.zero_le _,rfl,fun k hk=>absurd hk (Nat.not_lt_zero _)⟩
 rintro i σ ⟨hi,rfl,hall⟩
 simp -implicitDefEqProofs only [go_sem]
 ((first|refine vz2 ?_ ?_|refine vz3 ?_ ?_)<;>intro hlt)
 ·obtain ⟨x,hx⟩:∃ x,s.locs[i]?=some x:=⟨s.locs[i]'(by omega),by simp⟩
  have hx':(s.locs.map iA)[i]?=some (iA x):=by rw [List.getElem?_map,hx]; rfl
  have hix:=fun (σ:AStore)=>hL.idx (σ:=σ) (k:=.i64) hx'
  obtain ⟨p,hp⟩:∃ p,n.procs[i]?=some p:=⟨n.procs[i]'(by omega),by simp⟩
  obtain ⟨ev,hev,hpx⟩:=hPat i p hp
  have hip:=fun (σ:AStore)=>hP1.idx (σ:=σ) (k:=.i64) hev
  have hw:=wrapS (i:=i) (by have:=hs.pl; omega)
  have hck:ckL n s i=(decide (0<=x) && decide (x < p.locs.length)):=by simp only [ckL,hx,hp]
  obtain ⟨SL,SE,rfl,hL2,hE2,iini⟩:=hpx
  obtain ⟨lels,hL3,hLl,hLat⟩:=hL2.at'
  obtain ⟨eels,hE3,hEl,hEat⟩:=hE2.at'
  have kSL:=hL3.fit
  have cSL:=hL3.cells
  have iSL:=hL3.isCell
  have kSE:=hE3.fit
  have cSE:=hE3.cells
  have iSE:=hE3.isCell
  have hSLn:∀ σ:AStore,aLen (.slice 0) SL σ=some (.sc (.int .i64 (p.locs.length))):=fun σ=>hL3.lenN hLl
  have hno:ckL n s i=false->checkB n s=false:=fun h=>by
   cases hc:checkB n s with
   | false=>rfl
   | true=>
    simp only [checkB,Bool.and_eq_true,List.all_eq_true,List.mem_range] at hc
    rw [hc.1.2 i (by omega)] at h
    cases h
  by_cases hn:x < 0
  ·have e1:=dct hn
   (repeat' first|(refine vy ?_ ?_<;>rintro ⟨hd,hq⟩<;>first|(exfalso; omega)|simp -implicitDefEqProofs only [go_sem,hd]|skip)|refine vz ?_|simp -implicitDefEqProofs only [go_sem,g0,kV,cV,iV,kC,cC,iC,kF,cF,iF,kP,cP,iP,hix,iA,hip,kSL,cSL,iSL,kSE,cSE,iSE,hSLn,e1])
   exact ret2 (hno (by rw [hck,dcf (by omega)]; rfl))
  ·have e1:=dcf hn
   by_cases hm:(p.locs.length:Int)<=x
   ·have e2:=dct hm
    (repeat' first|(refine vy ?_ ?_<;>rintro ⟨hd,hq⟩<;>first|(exfalso; omega)|simp -implicitDefEqProofs only [go_sem,hd]|skip)|refine vz ?_|simp -implicitDefEqProofs only [go_sem,g0,kV,cV,iV,kC,cC,iC,kF,cF,iF,kP,cP,iP,hix,iA,hip,kSL,cSL,iSL,kSE,cSE,iSE,hSLn,e1,e2])
    exact ret2 (hno (by rw [hck,dcf (p:=x < _) (by omega)]; simp))
   ·have e2:=dcf hm
    (repeat' first|(refine vy ?_ ?_<;>rintro ⟨hd,hq⟩<;>first|(exfalso; omega)|simp -implicitDefEqProofs only [go_sem,hd]|skip)|refine vz ?_|simp -implicitDefEqProofs only [go_sem,g0,kV,cV,iV,kC,cC,iC,kF,cF,iF,kP,cP,iP,hix,iA,hip,kSL,cSL,iSL,kSE,cSE,iSE,hSLn,e1,e2,hw])
    refine ⟨i+1,by dsimp only; omega,⟨by omega,rfl,fun k hk=>?_⟩,by (repeat' (first|exact trivial|refine ⟨rfl,?_⟩))⟩
    by_cases hki:k=i
    ·subst hki
     rw [hck,dct (by omega),dct (by omega)]; rfl
    ·exact hall k (by omega)
 obtain rfl:i=s.locs.length:=by omega
 (repeat' first|(refine vy ?_ ?_<;>rintro ⟨hd,hq⟩<;>first|(exfalso; omega)|simp -implicitDefEqProofs only [go_sem,hd]|skip)|refine vz ?_|simp -implicitDefEqProofs only [go_sem,g1,kU,cU,iU,hUn,kL,cL,iL])
 refine vlp (ι:=Nat) (fun i=>[(2,.ptr 0 0 0),(3,.ptr 1 0 0),(53,U),(54,(.sc (.int .i64 (s.vars.length)))),(55,(.sc (.int .i64 (i))))]) (fun i σ'=>i<=s.vars.length/\σ'=σ/\∀ k,k < i->ckV n s k=true) (fun i=>s.vars.length - i) (fun _=>rfl) 0 ?_ ?_ ?_
 ·(repeat' (first|exact trivial|refine ⟨rfl,?_⟩))
 ·exact ⟨Nat.zero_le _,rfl,fun k hk=>absurd hk (Nat.not_lt_zero _)⟩
 clear hlt
 rintro i σ ⟨hi,rfl,hall2⟩
 simp -implicitDefEqProofs only [go_sem]
 ((first|refine vz2 ?_ ?_|refine vz3 ?_ ?_)<;>intro hlt)
 ·obtain ⟨x,hx⟩:∃ x,s.vars[i]?=some x:=⟨s.vars[i]'(by omega),by simp⟩
  have hx':(s.vars.map iA)[i]?=some (iA x):=by rw [List.getElem?_map,hx]; rfl
  have hix:=fun (σ:AStore)=>hU.idx (σ:=σ) (k:=.i64) hx'
  obtain ⟨p,hp⟩:∃ p,n.vars[i]?=some p:=⟨n.vars[i]'(by omega),by simp⟩
  have hp':(n.vars.map vrA)[i]?=some (vrA p):=by rw [List.getElem?_map,hp]; rfl
  have hip:=fun (σ:AStore)=>hV.idx (σ:=σ) (k:=.i64) hp'
  have hw:=wrapS (i:=i) (by have:=hs.fl; omega)
  have hck:ckV n s i=(decide (p.lo<=x) && decide (x<=p.hi)):=by simp only [ckV,hx,hp]
  obtain ⟨nm,lo,hi',ini⟩:=p
  have hno:ckV n s i=false->checkB n s=false:=fun h=>by
   cases hc:checkB n s with
   | false=>rfl
   | true=>
    simp only [checkB,Bool.and_eq_true,List.all_eq_true,List.mem_range] at hc
    rw [hc.2 i (by omega)] at h
    cases h
  simp only at hck
  by_cases hn:x < lo
  ·have e1:=dct hn
   (repeat' first|(refine vy ?_ ?_<;>rintro ⟨hd,hq⟩<;>first|(exfalso; omega)|simp -implicitDefEqProofs only [go_sem,hd]|skip)|refine vz ?_|simp -implicitDefEqProofs only [go_sem,g0,kV,cV,iV,kC,cC,iC,kF,cF,iF,kP,cP,iP,hix,iA,hip,vrA,sA,e1])
   exact ret2 (hno (by rw [hck,dcf (by omega)]; rfl))
  ·have e1:=dcf hn
   by_cases hm:hi' < x
   ·have e2:=dct hm
    (repeat' first|(refine vy ?_ ?_<;>rintro ⟨hd,hq⟩<;>first|(exfalso; omega)|simp -implicitDefEqProofs only [go_sem,hd]|skip)|refine vz ?_|simp -implicitDefEqProofs only [go_sem,g0,kV,cV,iV,kC,cC,iC,kF,cF,iF,kP,cP,iP,hix,iA,hip,vrA,sA,e1,e2])
    exact ret2 (hno (by rw [hck,dcf (p:=x<=_) (by omega)]; simp))
   ·have e2:=dcf hm
    (repeat' first|(refine vy ?_ ?_<;>rintro ⟨hd,hq⟩<;>first|(exfalso; omega)|simp -implicitDefEqProofs only [go_sem,hd]|skip)|refine vz ?_|simp -implicitDefEqProofs only [go_sem,g0,kV,cV,iV,kC,cC,iC,kF,cF,iF,kP,cP,iP,hix,iA,hip,vrA,sA,e1,e2,hw])
    refine ⟨i+1,by dsimp only; omega,⟨by omega,rfl,fun k hk=>?_⟩,by (repeat' (first|exact trivial|refine ⟨rfl,?_⟩))⟩
    by_cases hki:k=i
    ·subst hki
     rw [hck,dct (by omega),dct (by omega)]; rfl
    ·exact hall2 k (by omega)
 obtain rfl:i=s.vars.length:=by omega
 have hc:checkB n s=true:=by
  simp only [checkB,Bool.and_eq_true,List.all_eq_true,List.mem_range]
  exact ⟨⟨⟨⟨hv,hb1⟩,hb2⟩,hall⟩,hall2⟩
 (repeat' first|(refine vy ?_ ?_<;>rintro ⟨hd,hq⟩<;>first|(exfalso; omega)|simp -implicitDefEqProofs only [go_sem,hd]|skip)|refine vz ?_|simp -implicitDefEqProofs only [go_sem])
 exact ⟨_,rfl,by rw [hc]; rfl⟩
theorem begunC {w:WD} {σ:AStore} {n:Nt} {SV SC SF SP:AVal} (h:IsNt n (.agg [(.sc (.int .i64 (n.clocks))),SV,SC,SF,SP])) (hvl:n.vars.length<=1000000):
  ACalls (EE w) 45 [.agg [(.sc (.int .i64 (n.clocks))),SV,SC,SF,SP]] σ fun en σ'=>∃ b A,en=.ret (.ptr b 0 0)/\σ'.get b=some (.cells 6 [.agg [(.sc (.int .i64 (n.clocks))),SV,SC,SF,SP,A]])/\σ.next<=b/\KeepS σ σ':=by
 obtain ⟨SV',SC',SF',SP',fels,he,icl,⟨hV,lv,hvo⟩,⟨hC,lc,hco⟩,hF,hFs,lf,hP⟩:=h
 simp only [AVal.agg.injEq,List.cons.injEq,and_true,true_and] at he
 obtain ⟨rfl,rfl,rfl,rfl⟩:=he
 have hVn:∀ σ:AStore,aLen (.slice 0) SV σ=some (.sc (.int .i64 (n.vars.length))):=fun σ=>by have:=hV.len (σ:=σ); rwa [List.length_map] at this
 obtain ⟨pels,hP1,hPl,hPat⟩:=hP.at'
 have kV:=hV.fit
 have cV:=hV.cells
 have iV:=hV.isCell
 have kC:=hC.fit
 have cC:=hC.cells
 have iC:=hC.isCell
 have kF:=hF.fit
 have cF:=hF.cells
 have iF:=hF.isCell
 have kP:=hP1.fit
 have cP:=hP1.cells
 have iP:=hP1.isCell
 refine of_45 rfl rfl rfl (by kernel_rfl) ?_
 have z1:σ.next < σ.next+1:=Nat.lt_succ_self _
 have z2:¬ (σ.next=σ.next+1):=by omega
 simp -implicitDefEqProofs only [go_sem,kV,cV,iV,kC,cC,iC,kF,cF,iF,kP,cP,iP,hVn,z1,z2]
 (try (repeat' first|(refine vy ?_ ?_<;>rintro ⟨hd,hq⟩<;>first|(exfalso; omega)|simp -implicitDefEqProofs only [go_sem,hd]|skip)|refine vz ?_|simp -implicitDefEqProofs only [go_sem,kV,cV,iV,kC,cC,iC,kF,cF,iF,kP,cP,iP,hVn,z1,z2]))
 have hk0:KeepS σ ((σ.alloc (.cells 5 [.agg [(.sc (.int .i64 (n.clocks))),SV,SC,SF,SP]])).alloc (.cells 6 [.agg [(.sc (.int .i64 (n.clocks))),SV,SC,SF,SP,(.sc (.slice none 0 0))]])):=(KeepS.alloc _ _).trans (KeepS.alloc _ _)
 have g9:((σ.alloc (.cells 5 [.agg [(.sc (.int .i64 (n.clocks))),SV,SC,SF,SP]])).alloc (.cells 6 [.agg [(.sc (.int .i64 (n.clocks))),SV,SC,SF,SP,(.sc (.slice none 0 0))]])).get (σ.next+1)=some (.cells 6 [.agg [(.sc (.int .i64 (n.clocks))),SV,SC,SF,SP,(.sc (.slice none 0 0))]]):=by rw [AStore.get_alloc]; exact if_pos rfl
 generalize (σ.alloc (.cells 5 [.agg [(.sc (.int .i64 (n.clocks))),SV,SC,SF,SP]])).alloc (.cells 6 [.agg [(.sc (.int .i64 (n.clocks))),SV,SC,SF,SP,(.sc (.slice none 0 0))]])=τ at hk0 g9 ⊢
 refine vlp (ι:=Nat) (fun j=>[(3,.ptr (σ.next+1) 0 0),(10,SV),(11,(.sc (.int .i64 (n.vars.length)))),(12,(.sc (.int .i64 (j))))]) (fun j τ=>j<=n.vars.length/\KeepS σ τ/\∃ A,τ.get (σ.next+1)=some (.cells 6 [.agg [(.sc (.int .i64 (n.clocks))),SV,SC,SF,SP,A]])/\Own τ 1 A (((n.vars.take j).map Vr.nm).map sA)/\∀ c l,A=.slice c 0 l->σ.next+2<=c) (fun j=>n.vars.length - j) (fun _=>rfl) 0 ?_ ?_ ?_
 ·(repeat' (first|exact trivial|refine ⟨rfl,?_⟩))
 ·exact ⟨Nat.zero_le _,hk0,(.sc (.slice none 0 0)),g9,Own.nil,by intro c l h; cases h⟩
 clear hk0 g9
 rintro j τ ⟨hj,hk,A,g9,hA,hAc⟩
 have kA:=hA.fit
 have cA:=hA.cells
 have iA:=hA.isCell
 simp -implicitDefEqProofs only [go_sem]
 ((first|refine vz2 ?_ ?_|refine vz3 ?_ ?_)<;>intro hlt)
 ·obtain ⟨x,hx⟩:∃ x,n.vars[j]?=some x:=⟨n.vars[j]'(by omega),by simp⟩
  have hx':(n.vars.map vrA)[j]?=some (vrA x):=by rw [List.getElem?_map,hx]; rfl
  have hix:=fun (σ:AStore)=>hV.idx (σ:=σ) (k:=.i64) hx'
  have hw:=wrapS (i:=j) (by omega)
  have htk:(n.vars.take (j+1)).map Vr.nm=(n.vars.take j).map Vr.nm++[x.nm]:=by rw [List.take_add_one,hx]; simp
  obtain ⟨nm,lo,hi,ini⟩:=x
  have hel:(((n.vars.take j).map Vr.nm).map sA).length=j:=by simp; omega
  have hnn:=AStore.lt_of_get g9
  (repeat' first|(refine vy ?_ ?_<;>rintro ⟨hd,hq⟩<;>first|(exfalso; omega)|simp -implicitDefEqProofs only [go_sem,hd]|skip)|refine vz ?_|simp -implicitDefEqProofs only [go_sem,hix,vrA,sA])
  have gx:((τ.alloc (.cells 4 [.agg [.sc (.string ⟨#[]⟩),(.sc (.int .i64 (0))),(.sc (.int .i64 (0))),(.sc (.int .i64 (0)))]])).set τ.next (.cells 4 [.agg [.sc (.string nm),(.sc (.int .i64 (lo))),(.sc (.int .i64 (hi))),(.sc (.int .i64 (ini)))]])).get τ.next=some (.cells 4 [.agg [.sc (.string nm),(.sc (.int .i64 (lo))),(.sc (.int .i64 (hi))),(.sc (.int .i64 (ini)))]]):=by rw [AStore.get_set,if_pos ⟨rfl,by simp only [alloc_next]; omega⟩]
  have g9':=get_al (y:=.cells 4 [.agg [.sc (.string ⟨#[]⟩),(.sc (.int .i64 (0))),(.sc (.int .i64 (0))),(.sc (.int .i64 (0)))]]) (z:=.cells 4 [.agg [.sc (.string nm),(.sc (.int .i64 (lo))),(.sc (.int .i64 (hi))),(.sc (.int .i64 (ini)))]]) g9
  have hA':=hA.al (.cells 4 [.agg [.sc (.string ⟨#[]⟩),(.sc (.int .i64 (0))),(.sc (.int .i64 (0))),(.sc (.int .i64 (0)))]]) (.cells 4 [.agg [.sc (.string nm),(.sc (.int .i64 (lo))),(.sc (.int .i64 (hi))),(.sc (.int .i64 (ini)))]])
  have hk':KeepS τ ((τ.alloc (.cells 4 [.agg [.sc (.string ⟨#[]⟩),(.sc (.int .i64 (0))),(.sc (.int .i64 (0))),(.sc (.int .i64 (0)))]])).set τ.next (.cells 4 [.agg [.sc (.string nm),(.sc (.int .i64 (lo))),(.sc (.int .i64 (hi))),(.sc (.int .i64 (ini)))]])):=(KeepS.alloc τ _).set (Nat.le_refl _) _
  have hnx:((τ.alloc (.cells 4 [.agg [.sc (.string ⟨#[]⟩),(.sc (.int .i64 (0))),(.sc (.int .i64 (0))),(.sc (.int .i64 (0)))]])).set τ.next (.cells 4 [.agg [.sc (.string nm),(.sc (.int .i64 (lo))),(.sc (.int .i64 (hi))),(.sc (.int .i64 (ini)))]])).next=τ.next+1:=rfl
  generalize (τ.alloc (.cells 4 [.agg [.sc (.string ⟨#[]⟩),(.sc (.int .i64 (0))),(.sc (.int .i64 (0))),(.sc (.int .i64 (0)))]])).set τ.next (.cells 4 [.agg [.sc (.string nm),(.sc (.int .i64 (lo))),(.sc (.int .i64 (hi))),(.sc (.int .i64 (ini)))]])=τ' at gx g9' hA' hk' hnx ⊢
  obtain ⟨σ',a1,a2,a3,a4⟩:=hA'.append (bytes:=16) (xs:=[.sc (.string nm)]) (by simp) (by rw [hel]; simp; omega) (by decide) (by decide) rfl
  rw [show (((n.vars.take j).map Vr.nm).map sA++[AVal.sc (.string nm)]).length=j+1 by rw [List.length_append,hel]; rfl] at a1 a2
  have p9:=a4 _ _ g9' (fun l hl=>by have:=hAc _ _ hl; omega)
  have hAx:∀ l,A≠.slice τ.next 0 l:=by
   intro l hl
   rcases hA with ⟨_,h1⟩|⟨_,b,h1,h2⟩
   ·rw [h1] at hl; cases hl
   ·rw [h1] at hl; cases hl; have:=AStore.lt_of_get h2; omega
  have px:=a4 _ _ gx (fun l hl=>hAx l hl)
  have hz1:τ'.next < τ'.next+1:=Nat.lt_succ_self _
  have hz2:σ.next+1 < σ'.next:=by omega
  ((try (refine Z_seq ?_; (try simp -implicitDefEqProofs only [go_sem]))); refine Z_draw (by kernel_rfl) [0,1,2,3,4,5,6,7,8,9,10,11] [(11,2047),(10,1023),(9,511),(8,254),(7,96),(6,32),(5,0),(4,14),(3,6),(2,2),(1,0),(0,0)] (by kernel_rfl) (by kernel_rfl) ?_)
  simp -implicitDefEqProofs only [go_sem,g9',gx,a1,p9,px,kA,cA,iA,kV,cV,iV,kC,cC,iC,kF,cF,iF,kP,cP,iP,hz1,hz2]
  (repeat' first|(refine vy ?_ ?_<;>rintro ⟨hd,hq⟩<;>first|(exfalso; omega)|simp -implicitDefEqProofs only [go_sem,hd]|skip)|refine vz ?_|simp -implicitDefEqProofs only [go_sem,g9',gx,a1,p9,px,kA,cA,iA,kV,cV,iV,kC,cC,iC,kF,cF,iF,kP,cP,iP,hz1,hz2,hw])
  refine ⟨j+1,by dsimp only; omega,⟨by omega,⟨by simp only [set_next]; have:=hk.1; have:=hk'.1; omega,fun c y hg=>?_⟩,.slice τ'.next 0 (j+1),?_,?_,?_⟩,by (repeat' (first|exact trivial|refine ⟨rfl,?_⟩))⟩
  ·have hcl:=AStore.lt_of_get hg
   rw [AStore.get_set,if_neg (by omega)]
   exact a4 _ _ (hk'.2 _ _ (hk.2 _ _ hg)) (fun l hl=>by have:=hAc _ _ hl; omega)
  ·rw [AStore.get_set,if_pos ⟨rfl,hz2⟩]
  ·rw [htk,List.map_append]
   refine a2.mono fun c y hc hg=>?_
   injection hc with hc
   rw [AStore.get_set,if_neg (by omega)]; exact hg
  ·intro c l hc
   injection hc with hc
   omega
 ·(repeat' first|(refine vy ?_ ?_<;>rintro ⟨hd,hq⟩<;>first|(exfalso; omega)|simp -implicitDefEqProofs only [go_sem,hd]|skip)|refine vz ?_|simp -implicitDefEqProofs only [go_sem])
  exact ⟨_,A,rfl,g9,by omega,hk⟩
/-- What holds where a process stands. -/
def stI (n:Nt) (s:Stt) (j:Nat):List Cn:=match s.locs[j]?,n.procs[j]? with
 | some l,some p=>(match p.locs[l.toNat]? with
  | some y=>y.inv
  | none=>[])
 | _,_=>[]
def invsB (n:Nt) (s:Stt):List Cn:=(List.range n.procs.length).flatMap (stI n s)
theorem range_flat {α:Type} (f:Nat->List α) (j:Nat):(List.range (j+1)).flatMap f=(List.range j).flatMap f++f j:=by
 rw [List.range_succ,List.flatMap_append]
 simp
theorem flat_len {α:Type} (f:Nat->List α) (k:Nat) (h:∀ j,(f j).length<=k):∀ j,((List.range j).flatMap f).length<=k*j
 | 0=>by simp
 | j+1=>by
  rw [range_flat,List.length_append,Nat.mul_succ]
  have:=flat_len f k h j
  have:=h j
  omega
theorem valid_inv {n:Nt} (hv:validB n=true) {p:Pr} (hp:p∈n.procs) {y:Lc} (hy:y∈p.locs):y.inv.length<=16:=by
 simp only [validB,Bool.and_eq_true,List.all_eq_true] at hv
 have h1:=hv.2 p hp
 simp only [prB,Bool.and_eq_true,List.all_eq_true] at h1
 have h2:=h1.1.2 y hy
 simp only [lcB,cnsB,Bool.and_eq_true,decide_eq_true_eq] at h2
 exact h2.1.2.1
theorem valid_procs {n:Nt} (hv:validB n=true):n.procs.length<=6/\n.vars.length<=16/\0<=n.clocks/\n.clocks<=8:=by
 simp only [validB,hdB,Bool.and_eq_true,Bool.not_eq_true',Bool.or_eq_false_iff,decide_eq_false_iff_not] at hv
 obtain ⟨⟨⟨⟨⟨⟨⟨h1,h2⟩,h3⟩,h4⟩,h5⟩,h6⟩,_⟩,_⟩:=hv
 omega
theorem stI_len {n:Nt} (hv:validB n=true) (s:Stt) (j:Nat):(stI n s j).length<=16:=by
 unfold stI
 split
 ·rename_i l p h1 h2
  split
  ·rename_i y hy
   exact valid_inv hv (List.mem_of_getElem? h2) (List.mem_of_getElem? hy)
  ·simp
 ·simp
theorem check_loc {n:Nt} {s:Stt} (hc:checkB n s=true) {j:Nat} {p:Pr} (hp:n.procs[j]?=some p):∃ m:Nat,s.locs[j]?=some (m:Int)/\∃ y,p.locs[m]?=some y/\stI n s j=y.inv:=by
 simp only [checkB,Bool.and_eq_true,List.all_eq_true,List.mem_range,decide_eq_true_eq] at hc
 have hj:j < n.procs.length:=(List.getElem?_eq_some_iff.1 hp).1
 have h1:=hc.1.2 j (by rw [hc.1.1.1.2]; exact hj)
 unfold ckL at h1
 rw [hp] at h1
 cases hl:s.locs[j]? with
 | none=>rw [hl] at h1; simp at h1
 | some l=>
  rw [hl] at h1
  simp only [Bool.and_eq_true,decide_eq_true_eq] at h1
  obtain ⟨m,rfl⟩:∃ m:Nat,l=m:=⟨l.toNat,by omega⟩
  have hm:m < p.locs.length:=by omega
  refine ⟨m,rfl,p.locs[m],by simp,?_⟩
  unfold stI
  rw [hl,hp]
  simp [hm]
theorem allCells_cn (l:List Cn):allCells (l.map cnA)=true:=by
 unfold allCells
 rw [List.all_eq_true]
 intro x hx
 obtain ⟨y,_,rfl⟩:=List.mem_map.1 hx
 rfl
theorem invariantC {w:WD} {σ:AStore} {b:Nat} {n:Nt} {s:Stt} {SV SC SF SP A u:AVal} (h:IsNt n (.agg [(.sc (.int .i64 (n.clocks))),SV,SC,SF,SP])) (hs:NtS n) (hu:IsStt s u) (hc:checkB n s=true) (hb:σ.get b=some (.cells 6 [.agg [(.sc (.int .i64 (n.clocks))),SV,SC,SF,SP,A]])):
  ACalls (EE w) 46 [.ptr b 0 0,u] σ fun en σ'=>∃ S r,en=.ret (.tuple [S,(.sc (.int .i64 (r)))])/\Own σ' 4 S ((invsB n s).map cnA)/\KeepS σ σ':=by
 obtain ⟨SV',SC',SF',SP',fels,he,icl,⟨hV,lv,hvo⟩,⟨hC,lc,hco⟩,hF,hFs,lf,hP⟩:=h
 simp only [AVal.agg.injEq,List.cons.injEq,and_true,true_and] at he
 obtain ⟨rfl,rfl,rfl,rfl⟩:=he
 obtain ⟨L,U,rfl,⟨hL,lL,iL0⟩,⟨hU,lU,iU0⟩⟩:=hu
 have hv:validB n=true:=by
  simp only [checkB,Bool.and_eq_true] at hc
  exact hc.1.1.1.1
 have hp6:=(valid_procs hv).1
 obtain ⟨pels,hP1,hPl,hPat⟩:=hP.at'
 have hPn:∀ σ:AStore,aLen (.slice 0) SP σ=some (.sc (.int .i64 (n.procs.length))):=fun σ=>hP1.lenN hPl
 have kP:=hP1.fit
 have cP:=hP1.cells
 have iP:=hP1.isCell
 have kL:=hL.fit
 have cL:=hL.cells
 have iL:=hL.isCell
 have kU:=hU.fit
 have cU:=hU.cells
 have iU:=hU.isCell
 have hbl:=AStore.lt_of_get hb
 have gb:∀ y,(σ.alloc y).get b=some (.cells 6 [.agg [(.sc (.int .i64 (n.clocks))),SV,SC,SF,SP,A]]):=fun y=>get_alloc_old hb
 refine of_46 rfl rfl rfl (by kernel_rfl) ?_
 simp -implicitDefEqProofs only [go_sem,kL,cL,iL,kU,cU,iU,gb,kP,cP,iP,hPn]
 (try (repeat' first|(refine vy ?_ ?_<;>rintro ⟨hd,hq⟩<;>first|(exfalso; omega)|simp -implicitDefEqProofs only [go_sem,hd]|skip)|refine vz ?_|simp -implicitDefEqProofs only [go_sem,kL,cL,iL,kU,cU,iU,gb,kP,cP,iP,hPn]))
 have hk0:KeepS σ (σ.alloc (.cells 2 [.agg [L,U]])):=KeepS.alloc _ _
 have g0:(σ.alloc (.cells 2 [.agg [L,U]])).get σ.next=some (.cells 2 [.agg [L,U]]):=by rw [AStore.get_alloc]; exact if_pos rfl
 generalize σ.alloc (.cells 2 [.agg [L,U]])=τ at hk0 g0 ⊢
 refine vlp (ι:=AVal×Int×Nat) (fun p=>[(3,.ptr σ.next 0 0),(4,p.1),(5,(.sc (.int .i64 (p.2.1)))),(13,SP),(14,(.sc (.int .i64 (n.procs.length)))),(15,(.sc (.int .i64 (p.2.2))))]) (fun p τ=>p.2.2<=n.procs.length/\KeepS σ τ/\τ.get σ.next=some (.cells 2 [.agg [L,U]])/\Own τ 4 p.1 (((List.range p.2.2).flatMap (stI n s)).map cnA)/\∀ c l,p.1=.slice c 0 l->σ.next+1<=c) (fun p=>n.procs.length - p.2.2) (fun _=>rfl) ((.sc (.slice none 0 0)),0,0) ?_ ?_ ?_
 ·(repeat' (first|exact trivial|refine ⟨rfl,?_⟩))
 ·exact ⟨Nat.zero_le _,hk0,g0,by simpa using Own.nil,by intro c l h; cases h⟩
 clear hk0 g0
 rintro ⟨S,r,j⟩ τ ⟨hj,hk,g0,hS,hSc⟩
 simp only at hj hk g0 hS hSc
 have kS:=hS.fit
 have cS:=hS.cells
 have iS:=hS.isCell
 simp -implicitDefEqProofs only [go_sem]
 ((first|refine vz2 ?_ ?_|refine vz3 ?_ ?_)<;>intro hlt)
 ·obtain ⟨p,hp⟩:∃ p,n.procs[j]?=some p:=⟨n.procs[j]'(by omega),by simp⟩
  obtain ⟨ev,hev,hpx⟩:=hPat j p hp
  have hip:=fun (σ:AStore)=>hP1.idx (σ:=σ) (k:=.i64) hev
  have hw:=wrapS (i:=j) (by omega)
  obtain ⟨m,hm,y,hy,hst⟩:=check_loc hc hp
  have hm':(s.locs.map iA)[j]?=some (iA m):=by rw [List.getElem?_map,hm]; rfl
  have hil:=fun (σ:AStore)=>hL.idx (σ:=σ) (k:=.i64) hm'
  obtain ⟨SL,SE,rfl,hL2,hE2,iini⟩:=hpx
  obtain ⟨lels,hL3,hLl,hLat⟩:=hL2.at'
  obtain ⟨eels,hE3,hEl,hEat⟩:=hE2.at'
  have kSL:=hL3.fit
  have cSL:=hL3.cells
  have iSL:=hL3.isCell
  have kSE:=hE3.fit
  have cSE:=hE3.cells
  have iSE:=hE3.isCell
  obtain ⟨ey,hey,hyv⟩:=hLat m y hy
  have hiy:=fun (σ:AStore)=>hL3.idx (σ:=σ) (k:=.i64) hey
  obtain ⟨G,rfl,hG,iy1,iy2⟩:=hyv
  have kG:=hG.1.fit
  have cG:=hG.1.cells
  have iG:=hG.1.isCell
  have sG:∀ σ:AStore,aSrc 4 G σ=some (y.inv.map cnA):=fun σ=>hG.1.src
  have hnn:=AStore.lt_of_get g0
  (repeat' first|(refine vy ?_ ?_<;>rintro ⟨hd,hq⟩<;>first|(exfalso; omega)|simp -implicitDefEqProofs only [go_sem,hd]|skip)|refine vz ?_|simp -implicitDefEqProofs only [go_sem,hip,kSL,cSL,iSL,kSE,cSE,iSE])
  have gx:((τ.alloc (.cells 3 [.agg [(.sc (.int .i64 (0))),(.sc (.slice none 0 0)),(.sc (.slice none 0 0))]])).set τ.next (.cells 3 [.agg [(.sc (.int .i64 (p.ini))),SL,SE]])).get τ.next=some (.cells 3 [.agg [(.sc (.int .i64 (p.ini))),SL,SE]]):=by rw [AStore.get_set,if_pos ⟨rfl,by simp only [alloc_next]; omega⟩]
  have g0':=get_al (y:=.cells 3 [.agg [(.sc (.int .i64 (0))),(.sc (.slice none 0 0)),(.sc (.slice none 0 0))]]) (z:=.cells 3 [.agg [(.sc (.int .i64 (p.ini))),SL,SE]]) g0
  have hS':=hS.al (.cells 3 [.agg [(.sc (.int .i64 (0))),(.sc (.slice none 0 0)),(.sc (.slice none 0 0))]]) (.cells 3 [.agg [(.sc (.int .i64 (p.ini))),SL,SE]])
  have hk':KeepS τ ((τ.alloc (.cells 3 [.agg [(.sc (.int .i64 (0))),(.sc (.slice none 0 0)),(.sc (.slice none 0 0))]])).set τ.next (.cells 3 [.agg [(.sc (.int .i64 (p.ini))),SL,SE]])):=(KeepS.alloc τ _).set (Nat.le_refl _) _
  have hnx:((τ.alloc (.cells 3 [.agg [(.sc (.int .i64 (0))),(.sc (.slice none 0 0)),(.sc (.slice none 0 0))]])).set τ.next (.cells 3 [.agg [(.sc (.int .i64 (p.ini))),SL,SE]])).next=τ.next+1:=rfl
  generalize (τ.alloc (.cells 3 [.agg [(.sc (.int .i64 (0))),(.sc (.slice none 0 0)),(.sc (.slice none 0 0))]])).set τ.next (.cells 3 [.agg [(.sc (.int .i64 (p.ini))),SL,SE]])=τ' at gx g0' hS' hk' hnx ⊢
  ((try (refine Z_seq ?_; (try simp -implicitDefEqProofs only [go_sem]))); refine Z_draw (by kernel_rfl) [0,1,2,3,4,5,6,7,8,9,10] [(10,1023),(9,0),(8,255),(7,127),(6,60),(5,28),(4,0),(3,4),(2,0),(1,1),(0,0)] (by kernel_rfl) (by kernel_rfl) ?_)
  have hS2:=hS'.al (.cells 3 [.agg [(.sc (.int .i64 (0))),(.sc (.slice none 0 0)),(.sc (.int .i64 (0)))]]) (.cells 3 [.agg [(.sc (.int .i64 (y.kind))),G,(.sc (.int .i64 (y.rate)))]])
  have gy:((τ'.alloc (.cells 3 [.agg [(.sc (.int .i64 (0))),(.sc (.slice none 0 0)),(.sc (.int .i64 (0)))]])).set τ'.next (.cells 3 [.agg [(.sc (.int .i64 (y.kind))),G,(.sc (.int .i64 (y.rate)))]])).get τ'.next=some (.cells 3 [.agg [(.sc (.int .i64 (y.kind))),G,(.sc (.int .i64 (y.rate)))]]):=by rw [AStore.get_set,if_pos ⟨rfl,by simp only [alloc_next]; omega⟩]
  have hle:(((List.range j).flatMap (stI n s)).map cnA).length<=16*j:=by rw [List.length_map]; exact flat_len _ 16 (stI_len hv s) j
  have hly:(y.inv.map cnA).length<=16:=by rw [List.length_map,<-hst]; exact stI_len hv s j
  obtain ⟨S',σ',a1,a2,a3,a4,a5⟩:=hS2.append' (bytes:=24) (xs:=y.inv.map cnA) (by omega) (by decide) (by decide) (allCells_cn _)
  have gy2:=a4 _ _ gy (fun l hl=>by
   rcases hS with ⟨_,h1⟩|⟨_,c,h1,h2⟩
   ·rw [h1] at hl; cases hl
   ·rw [h1] at hl; cases hl; have:=AStore.lt_of_get h2; omega)
  have hz1:τ'.next < τ'.next+1:=Nat.lt_succ_self _
  have hz2:¬ σ.next=τ'.next:=by omega
  have hz3:¬ τ.next=τ'.next:=by omega
  simp -implicitDefEqProofs only [go_sem,g0',gx,gy,hil,iA,hiy,kL,cL,iL,kU,cU,iU,kSL,cSL,iSL,kSE,cSE,iSE,kG,cG,iG,sG,hz1,hz2,hz3,kS,cS,iS]
  (try (repeat' first|(refine vy ?_ ?_<;>rintro ⟨hd,hq⟩<;>first|(exfalso; omega)|simp -implicitDefEqProofs only [go_sem,hd]|skip)|refine vz ?_|simp -implicitDefEqProofs only [go_sem,g0',gx,gy,gy2,hil,iA,hiy,kL,cL,iL,kU,cU,iU,kSL,cSL,iSL,kSE,cSE,iSE,kG,cG,iG,sG,hz1,hz2,hz3,kS,cS,iS,a1,hw]))
  have hq:∀ c,c<=σ.next->∀ l,S≠.slice c 0 l:=fun c hcl l hl=>by have:=hSc _ _ hl; omega
  refine ⟨(S',IntKind.i64.wrap (r+y.rate),j+1),by dsimp only; omega,⟨by dsimp only; omega,⟨?_,fun c x hg=>?_⟩,a4 _ _ (get_al g0') (hq _ (Nat.le_refl _)),?_,fun c l hcl=>?_⟩,by (repeat' (first|exact trivial|refine ⟨rfl,?_⟩))⟩
  ·have h1:=hk.1
   have h2:τ'.next<=σ'.next:=by
    have:=a3
    simp only [set_next,alloc_next] at this
    omega
   omega
  ·have hcl:=AStore.lt_of_get hg
   exact a4 _ _ (get_al (hk'.2 _ _ (hk.2 _ _ hg))) (hq _ (by omega))
  ·dsimp only
   rw [range_flat,List.map_append,hst]
   exact a2
  ·dsimp only at hcl
   refine Decidable.byContradiction fun hn=>?_
   exact a5 c (by simp only [set_next,alloc_next]; omega) (hq c (by omega)) l hcl
 ·obtain rfl:j=n.procs.length:=by omega
  (repeat' first|(refine vy ?_ ?_<;>rintro ⟨hd,hq⟩<;>first|(exfalso; omega)|simp -implicitDefEqProofs only [go_sem,hd]|skip)|refine vz ?_|simp -implicitDefEqProofs only [go_sem])
  exact ⟨S,r,rfl,hS,hk⟩
theorem frz_cns {σ:AStore} (l:List Cn) {M:Nat} (hM:2<=M):mapO (Abs.frz σ M) (l.map cnA)=some (l.map cnA):=by
 obtain ⟨M,rfl⟩:∃ k,M=k+2:=⟨M - 2,by omega⟩
 induction l with
 | nil=>rfl
 | cons p ps ih=>rw [List.map_cons,mapO_cons',ih]; rfl
theorem invarC {w:WD} {n:Nt} {s:Stt} {v u:AVal} (h:IsNt n v) (hs:NtS n) (hu:IsStt s u):
  Gives (EE w) 22 [v,u] fun r=>(checkB n s=false/\r=.tuple [(.sc (.slice none 0 0)),(.sc (.int .i64 (2)))])\/(checkB n s=true/\∃ S,r=.tuple [S,(.sc (.int .i64 (0)))]/\IsD 4 S ((invsB n s).map cnA)):=by
 have hwf:=h.wf
 have hwu:=hu.wf
 have hCk:=fun w:WD=>checkC (w:=w) h hs hu
 have hIv:=fun (w:WD) (σ:AStore) (b:Nat) (SV SC SF SP A:AVal) (he:v=.agg [(.sc (.int .i64 (n.clocks))),SV,SC,SF,SP]) (hc:checkB n s=true) (hb:σ.get b=some (.cells 6 [.agg [(.sc (.int .i64 (n.clocks))),SV,SC,SF,SP,A]]))=>invariantC (w:=w) (he ▸ h) hs hu hc hb
 have hBg:=fun (w:WD) (σ:AStore) (SV SC SF SP:AVal) (he:v=.agg [(.sc (.int .i64 (n.clocks))),SV,SC,SF,SP]) (hl:n.vars.length<=1000000)=>begunC (w:=w) (σ:=σ) (he ▸ h) hl
 obtain ⟨SV,SC,SF,SP,fels,rfl,icl,⟨hV,lv,hvo⟩,⟨hC,lc,hco⟩,hF,hFs,lf,hP⟩:=h
 obtain ⟨L,U,rfl,⟨hL,lL,iL0⟩,⟨hU,lU,iU0⟩⟩:=hu
 obtain ⟨pels,hP1,hPl,hPat⟩:=hP.at'
 have kV:=hV.fit
 have cV:=hV.cells
 have iV:=hV.isCell
 have kC:=hC.fit
 have cC:=hC.cells
 have iC:=hC.isCell
 have kF:=hF.fit
 have cF:=hF.cells
 have iF:=hF.isCell
 have kP:=hP1.fit
 have cP:=hP1.cells
 have iP:=hP1.isCell
 have kL:=hL.fit
 have cL:=hL.cells
 have iL:=hL.isCell
 have kU:=hU.fit
 have cU:=hU.cells
 have iU:=hU.isCell
 refine Gives.of (fun _=>.sc _) (.cons _ _ hwf (.cons _ _ hwu .nil)) 4 ?_
 refine of_22 rfl rfl rfl (by kernel_rfl) ?_
 simp -implicitDefEqProofs only [go_sem,kV,cV,iV,kC,cC,iC,kF,cF,iF,kP,cP,iP,kL,cL,iL,kU,cU,iU]
 have g0:((empty.alloc (.cells 5 [.agg [(.sc (.int .i64 (n.clocks))),SV,SC,SF,SP]])).alloc (.cells 2 [.agg [L,U]])).get 0=some (.cells 5 [.agg [(.sc (.int .i64 (n.clocks))),SV,SC,SF,SP]]):=by rw [AStore.get_alloc]; rfl
 have g1:((empty.alloc (.cells 5 [.agg [(.sc (.int .i64 (n.clocks))),SV,SC,SF,SP]])).alloc (.cells 2 [.agg [L,U]])).get 1=some (.cells 2 [.agg [L,U]]):=by rw [AStore.get_alloc]; rfl
 generalize (empty.alloc (.cells 5 [.agg [(.sc (.int .i64 (n.clocks))),SV,SC,SF,SP]])).alloc (.cells 2 [.agg [L,U]])=τ at g0 g1 ⊢
 refine (hCk _).use ?_
 cases hc:checkB n s with
 | false=>
  simp only [Bool.false_eq_true,if_false,if_true]
  (repeat' first|(refine vy ?_ ?_<;>rintro ⟨hd,hq⟩<;>first|(exfalso; omega)|simp -implicitDefEqProofs only [go_sem,hd]|skip)|refine vz ?_|simp -implicitDefEqProofs only [go_sem,g0,g1])
  exact ⟨_,_,rfl,rfl,.inl rfl⟩
 | true=>
  have hv:validB n=true:=by
   simp only [checkB,Bool.and_eq_true] at hc
   exact hc.1.1.1.1
  have hvl:=(valid_procs hv).2.1
  simp only [if_true]
  (repeat' first|(refine vy ?_ ?_<;>rintro ⟨hd,hq⟩<;>first|(exfalso; omega)|simp -implicitDefEqProofs only [go_sem,hd]|skip)|refine vz ?_|simp -implicitDefEqProofs only [go_sem,g0,g1])
  ((try (refine Z_seq ?_; (try simp -implicitDefEqProofs only [go_sem]))); refine Z_draw (by kernel_rfl) [0,2,1,3,4,5,6,7,8] [(8,255),(7,63),(6,31),(5,31),(4,15),(3,7),(1,1),(2,0),(0,0)] (by kernel_rfl) (by kernel_rfl) ?_)
  simp -implicitDefEqProofs only [go_sem,g0,g1,kV,cV,iV,kC,cC,iC,kF,cF,iF,kP,cP,iP,kL,cL,iL,kU,cU,iU]
  refine (hBg _ _ SV SC SF SP rfl (by omega)).mono ?_
  rintro _ τ1 ⟨b,A,rfl,gb,hbl,k1⟩
  have g01:=k1.2 _ _ g0
  have g11:=k1.2 _ _ g1
  refine .inr ?_
  simp -implicitDefEqProofs only [go_sem,g01,g11,kV,cV,iV,kC,cC,iC,kF,cF,iF,kP,cP,iP,kL,cL,iL,kU,cU,iU]
  refine (hIv _ _ b SV SC SF SP A rfl hc gb).mono ?_
  rintro _ τ2 ⟨S,r,rfl,hS,k2⟩
  have g02:=k2.2 _ _ g01
  have g12:=k2.2 _ _ g11
  refine .inr ?_
  simp -implicitDefEqProofs only [go_sem,g02,g12,kV,cV,iV,kC,cC,iC,kF,cF,iF,kP,cP,iP,kL,cL,iL,kU,cU,iU]
  rcases hS with ⟨h1,rfl⟩|⟨_,c,rfl,h2⟩
  ·exact ⟨_,_,rfl,rfl,.inr ⟨_,rfl,by rw [h1]; exact .inl ⟨rfl,_,_,rfl⟩⟩⟩
  ·refine ⟨_,.tuple [.data 4 false ((invsB n s).map cnA),(.sc (.int .i64 (0)))],rfl,?_,.inr ⟨_,rfl,.inr ⟨_,rfl⟩⟩⟩
   have e1:frz τ2 3 (.slice c 0 ((invsB n s).map cnA).length)=some (.data 4 false ((invsB n s).map cnA)):=by
    rw [frz_slice,h2,frzS_cells (by simp),List.drop_zero,List.take_of_length_le (Nat.le_refl _),frz_cns _ (Nat.le_refl _)]; rfl
   rw [frz_tuple,mapO_cons',e1]
   rfl
def rstB (l:List Rt) (k:Int):Bool:=l.any fun r=>decide (r.k=k)
theorem resetsC {w:WD} {y:Eg} {v:AVal} (h:IsEg y v) (hl:y.rs.length<=1000000) (k:Int):GivesV (EE w) 24 [v,(.sc (.int .i64 (k)))] (.sc (.bool (rstB y.rs k))):=by
 have hwf:=h.wf
 obtain ⟨fr,to,gd,cd,ch,snd,ss,rs,cost,kind⟩:=y
 obtain ⟨G,a,a2,a3,a4,SS,SR,rfl,hG,hEx,hSs,hR,i1,i2,i3,i4,i5⟩:=h
 have kG:=hG.1.fit
 have cG:=hG.1.cells
 have iG:=hG.1.isCell
 obtain ⟨sels,hS1,hSl,hSat⟩:=hSs.at'
 have kSS:=hS1.fit
 have cSS:=hS1.cells
 have iSS:=hS1.isCell
 have kR:=hR.1.fit
 have cR:=hR.1.cells
 have iR:=hR.1.isCell
 have hRn:∀ σ:AStore,aLen (.slice 0) SR σ=some (.sc (.int .i64 (rs.length))):=fun σ=>by have:=hR.1.len (σ:=σ); rwa [List.length_map] at this
 obtain ⟨kk,nn,ii,rfl,rfl,rfl,kX,cX,iX⟩:∃ (kk:Int) (nn:ByteArray) (ii:Int),a=(.sc (.int .i64 (kk)))/\a2=.sc (.string nn)/\a3=(.sc (.int .i64 (ii)))/\a4.fit=true/\a4.cells=[a4]/\a4.isCell=true:=by
  obtain ⟨k,nm,i,l⟩:=cd
  simp only [IsEx] at hEx
  obtain ⟨S,els,he,hS,_⟩:=hEx
  simp only [AVal.agg.injEq,List.cons.injEq,and_true] at he
  obtain ⟨rfl,rfl,rfl,rfl⟩:=he
  exact ⟨_,_,_,rfl,rfl,rfl,hS.fit,hS.cells,hS.isCell⟩
 refine GivesV.of (fun _=>.sc _) (.cons _ _ hwf (.cons _ _ (.sc _) .nil)) 1 ?_
 refine of_24 rfl rfl rfl (by kernel_rfl) ?_
 simp -implicitDefEqProofs only [go_sem,kX,cX,iX,kG,cG,iG,kSS,cSS,iSS,kR,cR,iR,hRn]
 (try (repeat' first|(refine vy ?_ ?_<;>rintro ⟨hd,hq⟩<;>first|(exfalso; omega)|simp -implicitDefEqProofs only [go_sem,hd]|skip)|refine vz ?_|simp -implicitDefEqProofs only [go_sem,kX,cX,iX,kG,cG,iG,kSS,cSS,iSS,kR,cR,iR,hRn]))
 generalize empty.alloc _=τ
 simp only at hl hR
 refine vlp (ι:=Nat) (fun j=>[(1,(.sc (.int .i64 (k)))),(8,SR),(9,(.sc (.int .i64 (rs.length)))),(10,(.sc (.int .i64 (j))))]) (fun j τ=>j<=rs.length/\∀ i,i < j->∀ z,rs[i]?=some z->z.k≠k) (fun j=>rs.length - j) (fun _=>rfl) 0 ?_ ?_ ?_
 ·(repeat' (first|exact trivial|refine ⟨rfl,?_⟩))
 ·exact ⟨Nat.zero_le _,fun i hi=>absurd hi (Nat.not_lt_zero _)⟩
 rintro j τ ⟨hj,hall⟩
 simp -implicitDefEqProofs only [go_sem]
 ((first|refine vz2 ?_ ?_|refine vz3 ?_ ?_)<;>intro hlt)
 ·obtain ⟨z,hz⟩:∃ z,rs[j]?=some z:=⟨rs[j]'(by omega),by simp⟩
  have hz':(rs.map rtA)[j]?=some (rtA z):=by rw [List.getElem?_map,hz]; rfl
  have hiz:=fun (σ:AStore)=>hR.1.idx (σ:=σ) (k:=.i64) hz'
  have hw:=wrapS (i:=j) (by omega)
  obtain ⟨zk,zt⟩:=z
  have gz:∀ y z,((τ.alloc y).set τ.next z).get τ.next=some z:=fun y z=>by rw [AStore.get_set,if_pos ⟨rfl,by simp only [alloc_next]; omega⟩]
  by_cases hk:zk=k
  ·have e1:=dct hk
   (repeat' first|(refine vy ?_ ?_<;>rintro ⟨hd,hq⟩<;>first|(exfalso; omega)|simp -implicitDefEqProofs only [go_sem,hd]|skip)|refine vz ?_|simp -implicitDefEqProofs only [go_sem,hiz,rtA,gz,e1])
   refine ret_bool ?_
   symm
   simp only [rstB,List.any_eq_true]
   exact ⟨_,List.mem_of_getElem? hz,e1⟩
  ·have e1:=dcf hk
   (repeat' first|(refine vy ?_ ?_<;>rintro ⟨hd,hq⟩<;>first|(exfalso; omega)|simp -implicitDefEqProofs only [go_sem,hd]|skip)|refine vz ?_|simp -implicitDefEqProofs only [go_sem,hiz,rtA,gz,e1,hw])
   refine ⟨j+1,by dsimp only; omega,⟨by omega,fun i hi z hzi=>?_⟩,by (repeat' (first|exact trivial|refine ⟨rfl,?_⟩))⟩
   by_cases hij:i=j
   ·subst hij
    rw [hz] at hzi
    cases hzi
    exact hk
   ·exact hall i (by omega) z hzi
 ·(repeat' first|(refine vy ?_ ?_<;>rintro ⟨hd,hq⟩<;>first|(exfalso; omega)|simp -implicitDefEqProofs only [go_sem,hd]|skip)|refine vz ?_|simp -implicitDefEqProofs only [go_sem])
  refine ret_bool ?_
  symm
  simp only [rstB,List.any_eq_false]
  intro z hz
  obtain ⟨i,hi,rfl⟩:=List.mem_iff_getElem.1 hz
  have:=hall i (by omega) _ (List.getElem?_eq_getElem hi)
  simpa using this
theorem raiseC {w:WD} {σ:AStore} {b i:Nat} {els:List AVal} {x v:Int} {G:AVal} (hG:IsD 1 G [iA v]) (hb:σ.get b=some (.cells 1 els)) (hi:els[i]?=some (iA x)):
  ACalls (EE w) 17 [.ptr b i 0,G] σ fun en σ'=>en=.ret (.sc (.bool (decide (x < v))))/\σ'=if x < v then σ.set b (.cells 1 (els.set i (iA v))) else σ:=by
 have hGn:∀ σ:AStore,aLen (.slice 0) G σ=some (.sc (.int .i64 (((1:Nat):Int)))):=fun σ=>hG.len
 have hi0:([iA v])[0]?=some (iA v):=rfl
 have hix:=fun (σ:AStore)=>hG.idx (σ:=σ) (k:=.i64) hi0
 refine of_17 rfl rfl rfl (by kernel_rfl) ?_
 simp -implicitDefEqProofs only [go_sem,hGn]
 (try (repeat' first|(refine vy ?_ ?_<;>rintro ⟨hd,hq⟩<;>first|(exfalso; omega)|simp -implicitDefEqProofs only [go_sem,hd]|skip)|refine vz ?_|simp -implicitDefEqProofs only [go_sem,hGn]))
 have hil:i < els.length:=by
  have:=(List.getElem?_eq_some_iff.1 hi).1
  exact this
 have hbl:=AStore.lt_of_get hb
 refine vlp (ι:=Nat×Bool) (fun p=>[(0,.ptr b i 0),(5,(.sc (.bool (p.2)))),(8,G),(9,(.sc (.int .i64 (((1:Nat):Int))))),(10,(.sc (.int .i64 (p.1))))]) (fun p τ=>(p.1=0/\p.2=false/\τ=σ)\/(p.1=1/\p.2=decide (x < v)/\τ=if x < v then σ.set b (.cells 1 (els.set i (iA v))) else σ)) (fun p=>1 - p.1) (fun _=>rfl) (0,false) ?_ ?_ ?_
 ·(repeat' (first|exact trivial|refine ⟨rfl,?_⟩))
 ·exact .inl ⟨rfl,rfl,rfl⟩
 rintro ⟨j,r⟩ τ hI
 simp only at hI
 rcases hI with ⟨rfl,rfl,rfl⟩|⟨rfl,rfl,hτ⟩
 ·have e0:decide (((0:Nat):Int) < ((1:Nat):Int))=true:=rfl
  have hw:IntKind.i64.wrap (((0:Nat):Int)+1)=((1:Nat):Int):=rfl
  by_cases hx:x < v
  ·have e1:=dct hx
   simp -implicitDefEqProofs only [go_sem,e0]
   (repeat' first|(refine vy ?_ ?_<;>rintro ⟨hd,hq⟩<;>first|(exfalso; omega)|simp -implicitDefEqProofs only [go_sem,hd]|skip)|refine vz ?_|simp -implicitDefEqProofs only [go_sem,e0,hix,iA,hb,hi,e1,hw])
   refine ⟨(1,true),by dsimp only; omega,.inr ⟨rfl,rfl,by rw [if_pos hx]⟩,by (repeat' (first|exact trivial|refine ⟨rfl,?_⟩))⟩
  ·have e1:=dcf hx
   simp -implicitDefEqProofs only [go_sem,e0]
   (repeat' first|(refine vy ?_ ?_<;>rintro ⟨hd,hq⟩<;>first|(exfalso; omega)|simp -implicitDefEqProofs only [go_sem,hd]|skip)|refine vz ?_|simp -implicitDefEqProofs only [go_sem,e0,hix,iA,hb,hi,e1,hw])
   refine ⟨(1,false),by dsimp only; omega,.inr ⟨rfl,rfl,by first|rfl|rw [if_neg hx]⟩,by (repeat' (first|exact trivial|refine ⟨rfl,?_⟩))⟩
 ·have e0:decide (((1:Nat):Int) < ((1:Nat):Int))=false:=rfl
  simp -implicitDefEqProofs only [go_sem,e0]
  (repeat' first|(refine vy ?_ ?_<;>rintro ⟨hd,hq⟩<;>first|(exfalso; omega)|simp -implicitDefEqProofs only [go_sem,hd]|skip)|refine vz ?_|simp -implicitDefEqProofs only [go_sem,e0])
  exact hτ
/-- A table in local memory: the rows lie behind it. -/
def Tb (σ:AStore) (b L C:Nat) (f:Nat->Nat->Int):Prop:=σ.get b=some (.cells 1 ((List.range L).map fun i=>AVal.slice (b+1+i) 0 C))/\∀ i,i < L->σ.get (b+1+i)=some (.cells 1 ((List.range C).map fun k=>iA (f i k)))
theorem ixSl_own {b i l:Nat} {els:List AVal} (h:i < l):ixSl b 0 1 (.sc (.int .i64 (((i:Nat):Int)))) l (some (.cells 1 els))=some (.ptr b i 0):=by
 rw [ixSl_cells,if_pos rfl]
 simp only [aIdx]
 rw [if_pos (by omega)]
 simp
theorem fill_set {α:Type} (f:Nat->α) (z:α) {i L:Nat} (h:i < L):((List.range i).map f++List.replicate (L - i) z).set i (f i)=(List.range (i+1)).map f++List.replicate (L - (i+1)) z:=by
 rw [List.set_append,if_neg (by simp),List.length_map,List.length_range,Nat.sub_self,show L - i=(L - (i+1))+1 by omega,List.replicate_succ,List.set_cons_zero,List.range_succ,List.map_append,List.append_assoc]
 rfl
theorem fill_len {α:Type} (f:Nat->α) (z:α) {i L:Nat} (h:i<=L):((List.range i).map f++List.replicate (L - i) z).length=L:=by simp; omega
theorem fill_get {α:Type} (f:Nat->α) (z:α) {i L:Nat} (h:i < L):((List.range i).map f++List.replicate (L - i) z)[i]?=some z:=by
 rw [List.getElem?_append_right (by simp),List.length_map,List.length_range,Nat.sub_self,List.getElem?_replicate,if_pos (by omega)]
theorem fill_last {α:Type} (f:Nat->α) (z:α) (n i:Nat):((List.range (i+1)).map f++List.replicate n z)[i]?=some (f i):=by
 rw [List.getElem?_append_left (by simp),List.getElem?_map,List.getElem?_range (by omega)]; rfl
theorem fill_full {α:Type} (f:Nat->α) (z:α) {L:Nat}:(List.range L).map f++List.replicate (L - L) z=(List.range L).map f:=by simp
theorem freshC {w:WD} {σ:AStore} {p:Pr} {v:AVal} {C:Nat} (h:IsPr p v) (hl:p.locs.length<=1000000) (hC:C<=1000000):ACalls (EE w) 23 [v,(.sc (.int .i64 (C)))] σ fun en σ'=>∃ b,en=.ret (.slice b 0 p.locs.length)/\σ.next<=b/\Tb σ' b p.locs.length C (fun _ _=>-1)/\σ'.next=b+1+p.locs.length/\KeepS σ σ':=by
 have hwf:=h.wf
 obtain ⟨SL,SE,rfl,hL2,hE2,iini⟩:=h
 obtain ⟨lels,hL3,hLl,hLat⟩:=hL2.at'
 obtain ⟨eels,hE3,hEl,hEat⟩:=hE2.at'
 have kSL:=hL3.fit
 have cSL:=hL3.cells
 have iSL:=hL3.isCell
 have kSE:=hE3.fit
 have cSE:=hE3.cells
 have iSE:=hE3.isCell
 have hLn:∀ σ:AStore,aLen (.slice 0) SL σ=some (.sc (.int .i64 (p.locs.length))):=fun σ=>hL3.lenN hLl
 refine of_23 rfl rfl rfl (by kernel_rfl) ?_
 simp -implicitDefEqProofs only [go_sem,kSL,cSL,iSL,kSE,cSE,iSE,hLn]
 (try (repeat' first|(refine vy ?_ ?_<;>rintro ⟨hd,hq⟩<;>first|(exfalso; omega)|simp -implicitDefEqProofs only [go_sem,hd]|skip)|refine vz ?_|simp -implicitDefEqProofs only [go_sem,kSL,cSL,iSL,kSE,cSE,iSE,hLn]))
 rw [if_pos ⟨by omega,by omega,by omega⟩]
 simp -implicitDefEqProofs only [go_sem]
 (repeat' first|(refine vy ?_ ?_<;>rintro ⟨hd,hq⟩<;>first|(exfalso; omega)|simp -implicitDefEqProofs only [go_sem,hd]|skip)|refine vz ?_|simp -implicitDefEqProofs only [go_sem])
 obtain ⟨b0,hb0⟩:∃ b,b=σ.next+1:=⟨_,rfl⟩
 have g0:((σ.alloc (.cells 3 [.agg [(.sc (.int .i64 (p.ini))),SL,SE]])).alloc (.cells 1 (List.replicate p.locs.length (.sc (.slice none 0 0))))).get b0=some (.cells 1 (List.replicate p.locs.length (.sc (.slice none 0 0)))):=by rw [AStore.get_alloc]; exact if_pos hb0
 have hk0:KeepS σ ((σ.alloc (.cells 3 [.agg [(.sc (.int .i64 (p.ini))),SL,SE]])).alloc (.cells 1 (List.replicate p.locs.length (.sc (.slice none 0 0))))):=(KeepS.alloc _ _).trans (KeepS.alloc _ _)
 have hnx:((σ.alloc (.cells 3 [.agg [(.sc (.int .i64 (p.ini))),SL,SE]])).alloc (.cells 1 (List.replicate p.locs.length (.sc (.slice none 0 0))))).next=b0+1:=by rw [hb0]; rfl
 rw [<-hb0]
 generalize (σ.alloc (.cells 3 [.agg [(.sc (.int .i64 (p.ini))),SL,SE]])).alloc (.cells 1 (List.replicate p.locs.length (.sc (.slice none 0 0))))=τ at g0 hk0 hnx ⊢
 refine vlp (ι:=Nat) (fun i=>[(1,(.sc (.int .i64 (C)))),(5,.slice b0 0 p.locs.length),(13,(.sc (.int .i64 (p.locs.length)))),(14,(.sc (.int .i64 (i))))]) (fun i τ=>i<=p.locs.length/\KeepS σ τ/\τ.next=b0+1+i/\τ.get b0=some (.cells 1 ((List.range i).map (fun i=>AVal.slice (b0+1+i) 0 C)++List.replicate (p.locs.length - i) (.sc (.slice none 0 0))))/\∀ k,k < i->τ.get (b0+1+k)=some (.cells 1 ((List.range C).map fun k=>iA (-1)))) (fun i=>p.locs.length - i) (fun _=>rfl) 0 ?_ ?_ ?_
 ·(repeat' (first|exact trivial|refine ⟨rfl,?_⟩))
 ·exact ⟨Nat.zero_le _,hk0,hnx,by simpa using g0,fun k hk=>absurd hk (Nat.not_lt_zero _)⟩
 clear g0 hk0 hnx
 rintro i τ ⟨hi,hk,hnx,g0,hall⟩
 have hb0l:=AStore.lt_of_get g0
 simp -implicitDefEqProofs only [go_sem]
 ((first|refine vz2 ?_ ?_|refine vz3 ?_ ?_)<;>intro hlt)
 ·have hw:=wrapS (i:=i) (by omega)
  have hil:i < p.locs.length:=by omega
  have hfl:=fill_len (fun i=>AVal.slice (b0+1+i) 0 C) ((.sc (.slice none 0 0)):AVal) hi
  have hfs:=fill_set (fun i=>AVal.slice (b0+1+i) 0 C) ((.sc (.slice none 0 0)):AVal) hil
  obtain ⟨c,hcc⟩:∃ c,c=b0+1+i:=⟨_,rfl⟩
  rw [<-hcc] at hnx
  (repeat' first|(refine vy ?_ ?_<;>rintro ⟨hd,hq⟩<;>first|(exfalso; omega)|simp -implicitDefEqProofs only [go_sem,hd]|skip)|refine vz ?_|simp -implicitDefEqProofs only [go_sem])
  rw [if_pos ⟨by omega,by omega,by omega⟩,hnx]
  have hgi:=fill_get (fun i=>AVal.slice (b0+1+i) 0 C) ((.sc (.slice none 0 0)):AVal) hil
  have hne:¬ b0=c:=by omega
  have hz1:b0 < c+1:=by omega
  have hne2:¬ c=b0:=by omega
  have hz2:c < c+1:=Nat.lt_succ_self _
  have hgs:(((List.range i).map (fun i=>AVal.slice (b0+1+i) 0 C)++List.replicate (p.locs.length - i) ((.sc (.slice none 0 0)):AVal)).set i (.slice c 0 C))[i]?=some (.slice c 0 C):=by rw [List.getElem?_set_self (by rw [hfl]; exact hil)]
  simp -implicitDefEqProofs only [go_sem,g0,hne,hne2,ixSl_own hil,hgi,hz1,hz2,hnx]
  (try (repeat' first|(refine vy ?_ ?_<;>rintro ⟨hd,hq⟩<;>first|(exfalso; omega)|simp -implicitDefEqProofs only [go_sem,hd]|skip)|refine vz ?_|simp -implicitDefEqProofs only [go_sem,g0,hne,hne2,ixSl_own hil,hgi,hz1,hz2,hnx,hgs]))
  rw [<-hcc] at hfs
  rw [hfs]
  have q0:((τ.alloc (.cells 1 (List.replicate C (.sc (.int .i64 (0)))))).set b0 (.cells 1 ((List.range (i+1)).map (fun i=>AVal.slice (b0+1+i) 0 C)++List.replicate (p.locs.length - (i+1)) (.sc (.slice none 0 0))))).get b0=some (.cells 1 ((List.range (i+1)).map (fun i=>AVal.slice (b0+1+i) 0 C)++List.replicate (p.locs.length - (i+1)) (.sc (.slice none 0 0)))):=by rw [AStore.get_set,if_pos ⟨rfl,by simp only [alloc_next]; omega⟩]
  have qc:((τ.alloc (.cells 1 (List.replicate C (.sc (.int .i64 (0)))))).set b0 (.cells 1 ((List.range (i+1)).map (fun i=>AVal.slice (b0+1+i) 0 C)++List.replicate (p.locs.length - (i+1)) (.sc (.slice none 0 0))))).get c=some (.cells 1 (List.replicate C (.sc (.int .i64 (0))))):=by rw [AStore.get_set,if_neg (by omega),AStore.get_alloc,if_pos hnx.symm]
  have qk:∀ d y,d≠b0->τ.get d=some y->((τ.alloc (.cells 1 (List.replicate C (.sc (.int .i64 (0)))))).set b0 (.cells 1 ((List.range (i+1)).map (fun i=>AVal.slice (b0+1+i) 0 C)++List.replicate (p.locs.length - (i+1)) (.sc (.slice none 0 0))))).get d=some y:=fun d y hd hg=>by rw [AStore.get_set,if_neg (by omega)]; exact get_alloc_old hg
  have qn:((τ.alloc (.cells 1 (List.replicate C (.sc (.int .i64 (0)))))).set b0 (.cells 1 ((List.range (i+1)).map (fun i=>AVal.slice (b0+1+i) 0 C)++List.replicate (p.locs.length - (i+1)) (.sc (.slice none 0 0))))).next=c+1:=by rw [set_next,alloc_next,hnx]
  generalize (τ.alloc (.cells 1 (List.replicate C (.sc (.int .i64 (0)))))).set b0 (.cells 1 ((List.range (i+1)).map (fun i=>AVal.slice (b0+1+i) 0 C)++List.replicate (p.locs.length - (i+1)) (.sc (.slice none 0 0))))=τ1 at q0 qc qk qn ⊢
  have hlast:=fill_last (fun i=>AVal.slice (b0+1+i) 0 C) ((.sc (.slice none 0 0)):AVal) (p.locs.length - (i+1)) i
  simp only [<-hcc] at hlast
  obtain ⟨X,hX⟩:∃ X,X=((List.range (i+1)).map (fun i=>AVal.slice (b0+1+i) 0 C)++List.replicate (p.locs.length - (i+1)) (.sc (.slice none 0 0))):=⟨_,rfl⟩
  rw [<-hX] at q0 hlast
  refine vlp (ι:=Nat) (fun j=>[(1,(.sc (.int .i64 (C)))),(5,.slice b0 0 p.locs.length),(6,(.sc (.int .i64 (i)))),(13,(.sc (.int .i64 (p.locs.length)))),(14,(.sc (.int .i64 (i)))),(26,(.sc (.int .i64 (C)))),(27,(.sc (.int .i64 (j))))]) (fun j τ'=>j<=C/\τ'.next=c+1/\τ'.get b0=some (.cells 1 X)/\τ'.get c=some (.cells 1 ((List.range j).map (fun _=>(.sc (.int .i64 (-1))))++List.replicate (C - j) (.sc (.int .i64 (0)))))/\∀ d y,d≠b0->d≠c->τ.get d=some y->τ'.get d=some y) (fun j=>C - j) (fun _=>rfl) 0 ?_ ?_ ?_
  ·(repeat' (first|exact trivial|refine ⟨rfl,?_⟩))
  ·exact ⟨Nat.zero_le _,qn,q0,by simpa using qc,fun d y hd _ hg=>qk d y hd hg⟩
  clear q0 qc qk qn
  rintro j τ' ⟨hj,qn,q0,qc,qk⟩
  simp -implicitDefEqProofs only [go_sem]
  ((first|refine vz2 ?_ ?_|refine vz3 ?_ ?_)<;>intro hlj)
  ·have hwj:=wrapS (i:=j) (by omega)
   have hjl:j < C:=by omega
   have hgj:=fill_get (fun _=>((.sc (.int .i64 (-1))):AVal)) ((.sc (.int .i64 (0))):AVal) hjl
   have hfj:=fill_set (fun _=>((.sc (.int .i64 (-1))):AVal)) ((.sc (.int .i64 (0))):AVal) hjl
   obtain ⟨Y,hY⟩:∃ Y,Y=(List.range (j+1)).map (fun _=>((.sc (.int .i64 (-1))):AVal))++List.replicate (C - (j+1)) ((.sc (.int .i64 (0))):AVal):=⟨_,rfl⟩
   rw [<-hY] at hfj
   (repeat' first|(refine vy ?_ ?_<;>rintro ⟨hd,hq⟩<;>first|(exfalso; omega)|simp -implicitDefEqProofs only [go_sem,hd]|skip)|refine vz ?_|simp -implicitDefEqProofs only [go_sem,q0,qc,hlast,ixSl_own hil,ixSl_own hjl,hgj,hfj,hwj])
   refine ⟨j+1,by dsimp only; omega,⟨by omega,by rw [set_next]; exact qn,?_,?_,fun d y hd hdc hg=>?_⟩,by (repeat' (first|exact trivial|refine ⟨rfl,?_⟩))⟩
   ·rw [AStore.get_set,if_neg (by omega)]; exact q0
   ·rw [AStore.get_set,if_pos ⟨rfl,by omega⟩,hY]
   ·rw [AStore.get_set,if_neg (by omega)]; exact qk d y hd hdc hg
  ·obtain rfl:j=C:=by omega
   rw [fill_full] at qc
   (repeat' first|(refine vy ?_ ?_<;>rintro ⟨hd,hq⟩<;>first|(exfalso; omega)|simp -implicitDefEqProofs only [go_sem,hd]|skip)|refine vz ?_|simp -implicitDefEqProofs only [go_sem,hw])
   refine ⟨i+1,by dsimp only; omega,⟨by omega,⟨by have:=hk.1; omega,fun d y hg=>?_⟩,by omega,by rw [<-hX]; exact q0,fun k hk'=>?_⟩,by (repeat' (first|exact trivial|refine ⟨rfl,?_⟩))⟩
   ·have:=AStore.lt_of_get hg
    exact qk d y (by omega) (by have:=hk.1; omega) (hk.2 _ _ hg)
   ·by_cases hki:k=i
    ·subst hki
     rw [<-hcc]; exact qc
    ·exact qk _ _ (by omega) (by omega) (hall k (by omega))
 ·obtain rfl:i=p.locs.length:=by omega
  rw [fill_full] at g0
  (repeat' first|(refine vy ?_ ?_<;>rintro ⟨hd,hq⟩<;>first|(exfalso; omega)|simp -implicitDefEqProofs only [go_sem,hd]|skip)|refine vz ?_|simp -implicitDefEqProofs only [go_sem])
  exact ⟨b0,rfl,by omega,⟨g0,hall⟩,hnx,hk⟩
def exB (n:Nt) (x:Cn):Bool:=((decide (1<=x.k) && decide (x.k<=n.clocks)) && decide (0<=x.c)) && decide (x.c<=1048576)
def actI (n:Nt) (s:Stt) (l:List Cn):Int:=if checkB n s=false then 2 else if 100 < l.length then 3 else if l.all (exB n) then 0 else 2
theorem actCheckC {w:WD} {n:Nt} {v:AVal} {s:Stt} {u S:AVal} {l:List Cn} (h:IsNt n v) (hs:NtS n) (hu:IsStt s u) (hl:IsCns l S):GivesV (EE w) 15 [v,u,S] (.sc (.int .i64 (actI n s l))):=by
 have hwf:=h.wf
 have hwu:=hu.wf
 have hwS:=hl.wf
 have hVa:=fun w:WD=>validC (w:=w) h hs
 have hIv:=fun w:WD=>invarC (w:=w) h hs hu
 obtain ⟨SV,SC,SF,SP,fels,rfl,icl,⟨hV,lv,hvo⟩,⟨hC,lc,hco⟩,hF,hFs,lf,hP⟩:=h
 obtain ⟨L,U,rfl,⟨hL,lL,iL0⟩,⟨hU,lU,iU0⟩⟩:=hu
 obtain ⟨hS,ll,hok⟩:=hl
 have hSn:∀ σ:AStore,aLen (.slice 0) S σ=some (.sc (.int .i64 (l.length))):=fun σ=>by have:=hS.len (σ:=σ); rwa [List.length_map] at this
 obtain ⟨pels,hP1,hPl,hPat⟩:=hP.at'
 have kV:=hV.fit
 have cV:=hV.cells
 have iV:=hV.isCell
 have kC:=hC.fit
 have cC:=hC.cells
 have iC:=hC.isCell
 have kF:=hF.fit
 have cF:=hF.cells
 have iF:=hF.isCell
 have kP:=hP1.fit
 have cP:=hP1.cells
 have iP:=hP1.isCell
 have kL:=hL.fit
 have cL:=hL.cells
 have iL:=hL.isCell
 have kU:=hU.fit
 have cU:=hU.cells
 have iU:=hU.isCell
 refine GivesV.of (fun _=>.sc _) (.cons _ _ hwf (.cons _ _ hwu (.cons _ _ hwS .nil))) 2 ?_
 refine of_15 rfl rfl rfl (by kernel_rfl) ?_
 simp -implicitDefEqProofs only [go_sem,kV,cV,iV,kC,cC,iC,kF,cF,iF,kP,cP,iP,kL,cL,iL,kU,cU,iU]
 have g0:((empty.alloc (.cells 5 [.agg [(.sc (.int .i64 (n.clocks))),SV,SC,SF,SP]])).alloc (.cells 2 [.agg [L,U]])).get 0=some (.cells 5 [.agg [(.sc (.int .i64 (n.clocks))),SV,SC,SF,SP]]):=by rw [AStore.get_alloc]; rfl
 have g1:((empty.alloc (.cells 5 [.agg [(.sc (.int .i64 (n.clocks))),SV,SC,SF,SP]])).alloc (.cells 2 [.agg [L,U]])).get 1=some (.cells 2 [.agg [L,U]]):=by rw [AStore.get_alloc]; rfl
 generalize (empty.alloc (.cells 5 [.agg [(.sc (.int .i64 (n.clocks))),SV,SC,SF,SP]])).alloc (.cells 2 [.agg [L,U]])=τ at g0 g1 ⊢
 refine (hVa _).use ?_
 cases hv:validB n with
 | false=>
  have hc:checkB n s=false:=by simp [checkB,hv]
  simp only [Bool.false_eq_true,if_false,if_true]
  (repeat' first|(refine vy ?_ ?_<;>rintro ⟨hd,hq⟩<;>first|(exfalso; omega)|simp -implicitDefEqProofs only [go_sem,hd]|skip)|refine vz ?_|simp -implicitDefEqProofs only [go_sem,g0,g1])
  exact ⟨_,rfl,by simp only [actI,hc,if_true]; rfl⟩
 | true=>
 simp only [Bool.false_eq_true,if_false,if_true]
 (repeat' first|(refine vy ?_ ?_<;>rintro ⟨hd,hq⟩<;>first|(exfalso; omega)|simp -implicitDefEqProofs only [go_sem,hd]|skip)|refine vz ?_|simp -implicitDefEqProofs only [go_sem,g0,g1,kV,cV,iV,kC,cC,iC,kF,cF,iF,kP,cP,iP,kL,cL,iL,kU,cU,iU])
 refine (hIv _).use fun r hr=>?_
 rcases hr with ⟨hc,rfl⟩|⟨hc,R,rfl,hR⟩
 ·(repeat' first|(refine vy ?_ ?_<;>rintro ⟨hd,hq⟩<;>first|(exfalso; omega)|simp -implicitDefEqProofs only [go_sem,hd]|skip)|refine vz ?_|simp -implicitDefEqProofs only [go_sem])
  exact ⟨_,rfl,by simp only [actI,hc,if_true]; rfl⟩
 ·have e1:decide ((100:Int) < l.length)=decide (100 < l.length):=decide_eq_decide.2 (by omega)
  cases hb:decide (100 < l.length) with
  | true=>
   rw [hb] at e1
   have hb':=of_decide_eq_true hb
   (repeat' first|(refine vy ?_ ?_<;>rintro ⟨hd,hq⟩<;>first|(exfalso; omega)|simp -implicitDefEqProofs only [go_sem,hd]|skip)|refine vz ?_|simp -implicitDefEqProofs only [go_sem,hSn,e1])
   exact ⟨_,rfl,by simp only [actI,hc,Bool.true_eq_false,if_false,if_pos hb']; rfl⟩
  | false=>
   rw [hb] at e1
   have hb':=of_decide_eq_false hb
   have hval:actI n s l=if l.all (exB n) then 0 else 2:=by simp only [actI,hc,Bool.true_eq_false,if_false,if_neg hb']
   (repeat' first|(refine vy ?_ ?_<;>rintro ⟨hd,hq⟩<;>first|(exfalso; omega)|simp -implicitDefEqProofs only [go_sem,hd]|skip)|refine vz ?_|simp -implicitDefEqProofs only [go_sem,hSn,e1])
   refine vlp (ι:=Nat) (fun j=>[(3,.ptr 0 0 0),(25,S),(26,(.sc (.int .i64 (l.length)))),(27,(.sc (.int .i64 (j))))]) (fun j τ=>j<=l.length/\τ.get 0=some (.cells 5 [.agg [(.sc (.int .i64 (n.clocks))),SV,SC,SF,SP]])/\(l.take j).all (exB n)=true) (fun j=>l.length - j) (fun _=>rfl) 0 ?_ ?_ ?_
   ·(repeat' (first|exact trivial|refine ⟨rfl,?_⟩))
   ·exact ⟨Nat.zero_le _,g0,rfl⟩
   clear g0 g1
   rintro j τ ⟨hj,g0,hall⟩
   simp -implicitDefEqProofs only [go_sem]
   ((first|refine vz2 ?_ ?_|refine vz3 ?_ ?_)<;>intro hlt)
   ·obtain ⟨x,hx⟩:∃ x,l[j]?=some x:=⟨l[j]'(by omega),by simp⟩
    have hx':(l.map cnA)[j]?=some (cnA x):=by rw [List.getElem?_map,hx]; rfl
    have hix:=fun (σ:AStore)=>hS.idx (σ:=σ) (k:=.i64) hx'
    have hw:=wrapS (i:=j) (by omega)
    have hat:=all_take1 (P:=exB n) hx
    have hbad:exB n x=false->actI n s l=2:=fun h=>by
     rw [hval,if_neg]
     intro ha
     rw [List.all_eq_true.1 ha x (List.mem_of_getElem? hx)] at h
     cases h
    obtain ⟨k,lo,st,c⟩:=x
    have gx:∀ y z,((τ.alloc y).set τ.next z).get τ.next=some z:=fun y z=>by rw [AStore.get_set,if_pos ⟨rfl,by simp only [alloc_next]; omega⟩]
    have g0':∀ y z,((τ.alloc y).set τ.next z).get 0=some (.cells 5 [.agg [(.sc (.int .i64 (n.clocks))),SV,SC,SF,SP]]):=fun y z=>get_al g0
    by_cases h1:k < 1
    ·have q1:=dct h1
     (repeat' first|(refine vy ?_ ?_<;>rintro ⟨hd,hq⟩<;>first|(exfalso; omega)|simp -implicitDefEqProofs only [go_sem,hd]|skip)|refine vz ?_|simp -implicitDefEqProofs only [go_sem,hix,cnA,gx,g0',q1])
     exact ⟨_,rfl,by rw [hbad (by simp [exB]; omega)]; rfl⟩
    have q1:=dcf h1
    by_cases h2:n.clocks < k
    ·have q2:=dct h2
     (repeat' first|(refine vy ?_ ?_<;>rintro ⟨hd,hq⟩<;>first|(exfalso; omega)|simp -implicitDefEqProofs only [go_sem,hd]|skip)|refine vz ?_|simp -implicitDefEqProofs only [go_sem,hix,cnA,gx,g0',q1,q2,kV,cV,iV,kC,cC,iC,kF,cF,iF,kP,cP,iP])
     exact ⟨_,rfl,by rw [hbad (by simp [exB]; omega)]; rfl⟩
    have q2:=dcf h2
    by_cases h3:c < 0
    ·have q3:=dct h3
     (repeat' first|(refine vy ?_ ?_<;>rintro ⟨hd,hq⟩<;>first|(exfalso; omega)|simp -implicitDefEqProofs only [go_sem,hd]|skip)|refine vz ?_|simp -implicitDefEqProofs only [go_sem,hix,cnA,gx,g0',q1,q2,q3,kV,cV,iV,kC,cC,iC,kF,cF,iF,kP,cP,iP])
     exact ⟨_,rfl,by rw [hbad (by simp [exB]; omega)]; rfl⟩
    have q3:=dcf h3
    by_cases h4:1048576 < c
    ·have q4:=dct h4
     (repeat' first|(refine vy ?_ ?_<;>rintro ⟨hd,hq⟩<;>first|(exfalso; omega)|simp -implicitDefEqProofs only [go_sem,hd]|skip)|refine vz ?_|simp -implicitDefEqProofs only [go_sem,hix,cnA,gx,g0',q1,q2,q3,q4,kV,cV,iV,kC,cC,iC,kF,cF,iF,kP,cP,iP])
     exact ⟨_,rfl,by rw [hbad (by simp [exB]; omega)]; rfl⟩
    have q4:=dcf h4
    (repeat' first|(refine vy ?_ ?_<;>rintro ⟨hd,hq⟩<;>first|(exfalso; omega)|simp -implicitDefEqProofs only [go_sem,hd]|skip)|refine vz ?_|simp -implicitDefEqProofs only [go_sem,hix,cnA,gx,g0',q1,q2,q3,q4,kV,cV,iV,kC,cC,iC,kF,cF,iF,kP,cP,iP,hw])
    refine ⟨j+1,by dsimp only; omega,⟨by omega,get_al g0,?_⟩,by (repeat' (first|exact trivial|refine ⟨rfl,?_⟩))⟩
    rw [hat,hall]
    simp [exB]
    omega
   ·obtain rfl:j=l.length:=by omega
    rw [List.take_length] at hall
    (repeat' first|(refine vy ?_ ?_<;>rintro ⟨hd,hq⟩<;>first|(exfalso; omega)|simp -implicitDefEqProofs only [go_sem,hd]|skip)|refine vz ?_|simp -implicitDefEqProofs only [go_sem])
    exact ⟨_,rfl,by rw [hval,if_pos hall]; rfl⟩
def exprP (x:Ex) (d:Nat) (r:AVal):Prop:=∃ m:Nat,r=(.sc (.int .i64 (m)))/\m<=1000*(42 - d)/\(m < 1000->nodesE x<=m)
theorem exprC {w:WD}:∀ (k:Nat) {x:Ex} {v:AVal} (d:Nat),d+k=41->IsEx x v->Gives (EE w) 20 [v,(.sc (.int .i64 (d)))] (exprP x d):=by
 intro k
 induction k generalizing w with
 | zero=>
  intro x v d hd h
  obtain rfl:d=41:=by omega
  have hwf:=h.wf
  obtain ⟨k,nm,i,l⟩:=x
  simp only [IsEx] at h
  obtain ⟨S,els,rfl,hS,hx,hk,hi,hn,hl⟩:=h
  have kS:=hS.fit
  have cS:=hS.cells
  have iS:=hS.isCell
  refine Gives.of (fun _=>.sc _) (.cons _ _ hwf (.cons _ _ (.sc _) .nil)) 1 ?_
  refine of_20 rfl rfl rfl (by kernel_rfl) ?_
  have e1:decide ((40:Int) < ((41:Nat):Int))=true:=rfl
  simp -implicitDefEqProofs only [go_sem,kS,cS,iS,e1]
  (try (repeat' first|(refine vy ?_ ?_<;>rintro ⟨hd,hq⟩<;>first|(exfalso; omega)|simp -implicitDefEqProofs only [go_sem,hd]|skip)|refine vz ?_|simp -implicitDefEqProofs only [go_sem,kS,cS,iS,e1]))
  exact ⟨_,_,rfl,rfl,1000,rfl,by decide,fun h=>absurd h (by decide)⟩
 | succ k ih=>
  intro x v d hd h
  have hwf:=h.wf
  obtain ⟨kk,nm,ii,l⟩:=x
  simp only [IsEx] at h
  obtain ⟨S,els,rfl,hS,hx,hk,hi,hn,hl⟩:=h
  have hlen:=hx.len
  have hSn:=fun σ:AStore=>hS.lenN hlen (σ:=σ)
  have kS:=hS.fit
  have cS:=hS.cells
  have iS:=hS.isCell
  refine Gives.of (fun _=>.sc _) (.cons _ _ hwf (.cons _ _ (.sc _) .nil)) 1 ?_
  refine of_20 rfl rfl rfl (by kernel_rfl) ?_
  have e1:decide ((40:Int) < (d:Int))=false:=dcf (by omega)
  have hwd:=wrapS (i:=d) (by omega)
  simp -implicitDefEqProofs only [go_sem,kS,cS,iS,e1]
  (try (repeat' first|(refine vy ?_ ?_<;>rintro ⟨hd,hq⟩<;>first|(exfalso; omega)|simp -implicitDefEqProofs only [go_sem,hd]|skip)|refine vz ?_|simp -implicitDefEqProofs only [go_sem,kS,cS,iS,e1]))
  have g0:(empty.alloc (.cells 4 [.agg [(.sc (.int .i64 (kk))),.sc (.string nm),(.sc (.int .i64 (ii))),S]])).get 0=some (.cells 4 [.agg [(.sc (.int .i64 (kk))),.sc (.string nm),(.sc (.int .i64 (ii))),S]]):=by rw [AStore.get_alloc]; rfl
  generalize empty.alloc (.cells 4 [.agg [(.sc (.int .i64 (kk))),.sc (.string nm),(.sc (.int .i64 (ii))),S]])=τ at g0 ⊢
  refine vlp (ι:=Nat×Nat) (fun p=>[(1,(.sc (.int .i64 (d)))),(2,.ptr 0 0 0),(5,(.sc (.int .i64 (p.1)))),(6,(.sc (.int .i64 (p.2))))]) (fun p σ=>σ=τ/\p.2<=l.length/\p.1<=1000*(42 - d)/\(p.1 < 1000->1+nodesEs (l.take p.2)<=p.1)) (fun p=>l.length - p.2) (fun _=>rfl) (1,0) ?_ ?_ ?_
  ·(repeat' (first|exact trivial|refine ⟨rfl,?_⟩))
  ·exact ⟨rfl,Nat.zero_le _,by dsimp only; omega,fun _=>by simp [nodesEs]⟩
  rintro ⟨m,i⟩ σ ⟨rfl,hi2,hm,hn2⟩
  simp only at hi2 hm hn2
  by_cases hil:i < l.length
  ·have q1:decide ((i:Int) < (l.length:Int))=true:=dct (by omega)
   by_cases hml:m < 1000
   ·have q2:decide ((m:Int) < 1000)=true:=dct (by omega)
    obtain ⟨y,hy⟩:∃ y,l[i]?=some y:=⟨l[i]'hil,by simp⟩
    obtain ⟨e,he,hye⟩:=hx.at hy
    have hix:=fun (σ:AStore)=>hS.idx (σ:=σ) (k:=.i64) he
    have hwi:=wrapS (i:=i) (by omega)
    obtain ⟨a1,a2,a3,a4,rfl⟩:∃ a b c f,e=.agg [a,b,c,f]:=by
     obtain ⟨k1,n1,i1,l1⟩:=y
     simp only [IsEx] at hye
     obtain ⟨S1,els1,rfl,_⟩:=hye
     exact ⟨_,_,_,_,rfl⟩
    obtain ⟨c1,c2,c3⟩:=hye.isA.facts
    simp -implicitDefEqProofs only [go_sem,g0,kS,cS,iS,hSn,q1,q2]
    (repeat' first|(refine vy ?_ ?_<;>rintro ⟨hd,hq⟩<;>first|(exfalso; omega)|simp -implicitDefEqProofs only [go_sem,hd]|skip)|refine vz ?_|simp -implicitDefEqProofs only [go_sem,g0,kS,cS,iS,hSn,q1,q2,hix,hwd,c1,c2,c3])
    refine (ih (d+1) (by omega) hye).use fun r hr=>?_
    obtain ⟨m1,rfl,hb1,hb2⟩:=hr
    have hwm:IntKind.i64.wrap ((m:Int)+(m1:Int))=((m+m1:Nat):Int):=by rw [wrap64 (by omega) (by omega)]; omega
    (repeat' first|(refine vy ?_ ?_<;>rintro ⟨hd,hq⟩<;>first|(exfalso; omega)|simp -implicitDefEqProofs only [go_sem,hd]|skip)|refine vz ?_|simp -implicitDefEqProofs only [go_sem,hwm,hwi])
    refine ⟨(m+m1,i+1),by dsimp only; omega,⟨rfl,by dsimp only; omega,by dsimp only; omega,fun hlt=>?_⟩,by (repeat' (first|exact trivial|refine ⟨rfl,?_⟩))⟩
    dsimp only at hlt ⊢
    rw [nodesEs_take hy]
    have:=hn2 hml
    have:=hb2 (by omega)
    omega
   ·have q2:decide ((m:Int) < 1000)=false:=dcf (by omega)
    simp -implicitDefEqProofs only [go_sem,g0,kS,cS,iS,hSn,q1,q2]
    (repeat' first|(refine vy ?_ ?_<;>rintro ⟨hd,hq⟩<;>first|(exfalso; omega)|simp -implicitDefEqProofs only [go_sem,hd]|skip)|refine vz ?_|simp -implicitDefEqProofs only [go_sem,g0,kS,cS,iS,hSn,q1,q2])
    exact ⟨_,_,rfl,rfl,m,rfl,hm,fun h=>absurd h hml⟩
  ·obtain rfl:i=l.length:=by omega
   have q1:decide ((l.length:Int) < (l.length:Int))=false:=dcf (by omega)
   simp -implicitDefEqProofs only [go_sem,g0,kS,cS,iS,hSn,q1]
   (repeat' first|(refine vy ?_ ?_<;>rintro ⟨hd,hq⟩<;>first|(exfalso; omega)|simp -implicitDefEqProofs only [go_sem,hd]|skip)|refine vz ?_|simp -implicitDefEqProofs only [go_sem,g0,kS,cS,iS,hSn,q1])
   rw [List.take_length] at hn2
   exact ⟨_,_,rfl,rfl,m,rfl,hm,fun h=>by simp only [nodesE]; exact hn2 h⟩
structure LgE (y:Eg):Prop where
 gd:y.gd.length<=120
 ss:y.ss.length<=120
 rs:y.rs.length<=120
 cd:nodesE y.cd<=120
 sx:∀ s∈y.ss,nodesE s.e<=120
structure LgP (p:Pr):Prop where
 ll:p.locs.length<=8
 le:p.egs.length<=14
 iv:∀ y∈p.locs,y.inv.length<=120
 eg:∀ y∈p.egs,LgE y
structure Lg (n:Nt):Prop where
 cl:n.clocks<=20
 vl:n.vars.length<=4
 fl:n.funcs.length=0
 ch:n.chans.length<=8
 pl:n.procs.length<=4
 pr:∀ p∈n.procs,LgP p
def largeP (n:Nt) (r:AVal):Prop:=r=(.sc (.bool (true)))\/(r=(.sc (.bool (false)))/\Lg n)
theorem mem_ofN {α:Type} {l:List α} {P:α->Prop} (h:∀ k,k < l.length->∀ y,l[k]?=some y->P y):∀ y∈l,P y:=fun y hy=>by
 obtain ⟨k,hk,rfl⟩:=List.mem_iff_getElem.1 hy
 exact h k hk _ (List.getElem?_eq_getElem hk)
theorem at_succ {α:Type} {l:List α} {P:α->Prop} {j:Nat} {x:α} (h:∀ k,k < j->∀ y,l[k]?=some y->P y) (hx:l[j]?=some x) (hp:P x):∀ k,k < j+1->∀ y,l[k]?=some y->P y:=fun k hk y hy=>by
 by_cases hkj:k=j
 ·subst hkj
  rw [hx] at hy
  cases hy
  exact hp
 ·exact h k (by omega) y hy
theorem largeC {w:WD} {n:Nt} {v:AVal} (h:IsNt n v):Gives (EE w) 13 [v] (largeP n):=by
 have hwf:=h.wf
 obtain ⟨SV,SC,SF,SP,fels,rfl,icl,⟨hV,lv,hvo⟩,⟨hC,lc,hco⟩,hF,hFs,lf,hP⟩:=h
 have hVn:∀ σ:AStore,aLen (.slice 0) SV σ=some (.sc (.int .i64 (n.vars.length))):=fun σ=>by have:=hV.len (σ:=σ); rwa [List.length_map] at this
 have hCn:∀ σ:AStore,aLen (.slice 0) SC σ=some (.sc (.int .i64 (n.chans.length))):=fun σ=>by have:=hC.len (σ:=σ); rwa [List.length_map] at this
 have hFn:∀ σ:AStore,aLen (.slice 0) SF σ=some (.sc (.int .i64 (n.funcs.length))):=fun σ=>hF.lenN hFs.len
 obtain ⟨pels,hP1,hPl,hPat⟩:=hP.at'
 have hPn:∀ σ:AStore,aLen (.slice 0) SP σ=some (.sc (.int .i64 (n.procs.length))):=fun σ=>hP1.lenN hPl
 have kV:=hV.fit
 have cV:=hV.cells
 have iV:=hV.isCell
 have kC:=hC.fit
 have cC:=hC.cells
 have iC:=hC.isCell
 have kF:=hF.fit
 have cF:=hF.cells
 have iF:=hF.isCell
 have kP:=hP1.fit
 have cP:=hP1.cells
 have iP:=hP1.isCell
 refine Gives.of (fun _=>.sc _) (.cons _ _ hwf .nil) 1 ?_
 refine of_13 rfl rfl rfl (by kernel_rfl) ?_
 have g0:(empty.alloc (.cells 5 [.agg [(.sc (.int .i64 (n.clocks))),SV,SC,SF,SP]])).get 0=some (.cells 5 [.agg [(.sc (.int .i64 (n.clocks))),SV,SC,SF,SP]]):=by rw [AStore.get_alloc]; rfl
 have yes:∀ {σ:AStore},∃ u v,AEnd.ret (.sc (.bool (true)))=AEnd.ret u/\frz σ 1 u=some v/\largeP n v:=⟨_,_,rfl,rfl,.inl rfl⟩
 simp -implicitDefEqProofs only [go_sem,kV,cV,iV,kC,cC,iC,kF,cF,iF,kP,cP,iP]
 (try generalize empty.alloc (.cells 5 [.agg [(.sc (.int .i64 (n.clocks))),SV,SC,SF,SP]])=τ at g0 ⊢)
 by_cases h1:20 < n.clocks
 ·have q1:decide ((20:Int) < n.clocks)=true:=dct h1
  (repeat' first|(refine vy ?_ ?_<;>rintro ⟨hd,hq⟩<;>first|(exfalso; omega)|simp -implicitDefEqProofs only [go_sem,hd]|skip)|refine vz ?_|simp -implicitDefEqProofs only [go_sem,g0,kV,cV,iV,kC,cC,iC,kF,cF,iF,kP,cP,iP,hVn,hFn,hCn,hPn,q1])
  exact yes
 have q1:decide ((20:Int) < n.clocks)=false:=dcf h1
 by_cases h2:4 < n.vars.length
 ·have q2:decide ((4:Int) < n.vars.length)=true:=dct (by omega)
  (repeat' first|(refine vy ?_ ?_<;>rintro ⟨hd,hq⟩<;>first|(exfalso; omega)|simp -implicitDefEqProofs only [go_sem,hd]|skip)|refine vz ?_|simp -implicitDefEqProofs only [go_sem,g0,kV,cV,iV,kC,cC,iC,kF,cF,iF,kP,cP,iP,hVn,hFn,hCn,hPn,q1,q2])
  exact yes
 have q2:decide ((4:Int) < n.vars.length)=false:=dcf (by omega)
 by_cases h3:0 < n.funcs.length
 ·have q3:decide ((0:Int) < n.funcs.length)=true:=dct (by omega)
  (repeat' first|(refine vy ?_ ?_<;>rintro ⟨hd,hq⟩<;>first|(exfalso; omega)|simp -implicitDefEqProofs only [go_sem,hd]|skip)|refine vz ?_|simp -implicitDefEqProofs only [go_sem,g0,kV,cV,iV,kC,cC,iC,kF,cF,iF,kP,cP,iP,hVn,hFn,hCn,hPn,q1,q2,q3])
  exact yes
 have q3:decide ((0:Int) < n.funcs.length)=false:=dcf (by omega)
 by_cases h4:8 < n.chans.length
 ·have q4:decide ((8:Int) < n.chans.length)=true:=dct (by omega)
  (repeat' first|(refine vy ?_ ?_<;>rintro ⟨hd,hq⟩<;>first|(exfalso; omega)|simp -implicitDefEqProofs only [go_sem,hd]|skip)|refine vz ?_|simp -implicitDefEqProofs only [go_sem,g0,kV,cV,iV,kC,cC,iC,kF,cF,iF,kP,cP,iP,hVn,hFn,hCn,hPn,q1,q2,q3,q4])
  exact yes
 have q4:decide ((8:Int) < n.chans.length)=false:=dcf (by omega)
 by_cases h5:4 < n.procs.length
 ·have q5:decide ((4:Int) < n.procs.length)=true:=dct (by omega)
  (repeat' first|(refine vy ?_ ?_<;>rintro ⟨hd,hq⟩<;>first|(exfalso; omega)|simp -implicitDefEqProofs only [go_sem,hd]|skip)|refine vz ?_|simp -implicitDefEqProofs only [go_sem,g0,kV,cV,iV,kC,cC,iC,kF,cF,iF,kP,cP,iP,hVn,hFn,hCn,hPn,q1,q2,q3,q4,q5])
  exact yes
 have q5:decide ((4:Int) < n.procs.length)=false:=dcf (by omega)
 (repeat' first|(refine vy ?_ ?_<;>rintro ⟨hd,hq⟩<;>first|(exfalso; omega)|simp -implicitDefEqProofs only [go_sem,hd]|skip)|refine vz ?_|simp -implicitDefEqProofs only [go_sem,g0,kV,cV,iV,kC,cC,iC,kF,cF,iF,kP,cP,iP,hVn,hFn,hCn,hPn,q1,q2,q3,q4,q5])
 refine vlp (ι:=Nat×Nat×Nat) (fun p=>[(1,.ptr 0 0 0),(3,(.sc (.int .i64 (p.1)))),(4,(.sc (.int .i64 (p.2.1)))),(5,(.sc (.int .i64 (p.2.2))))]) (fun p σ=>σ.get 0=some (.cells 5 [.agg [(.sc (.int .i64 (n.clocks))),SV,SC,SF,SP]])/\p.2.2<=n.procs.length/\p.1<=14/\p.2.1<=1125899906842624*(64*p.2.2)/\(p.2.1<=120->∀ k,k < p.2.2->∀ x,n.procs[k]?=some x->LgP x)) (fun p=>n.procs.length - p.2.2) (fun _=>rfl) (0,0,0) ?_ ?_ ?_
 ·(repeat' (first|exact trivial|refine ⟨rfl,?_⟩))
 ·exact ⟨g0,Nat.zero_le _,Nat.zero_le _,Nat.zero_le _,fun _ k hk=>absurd hk (Nat.not_lt_zero _)⟩
 clear g0
 rintro ⟨e,m,i⟩ σ ⟨g0,hi,he,hm,hall⟩
 simp only at hi he hm hall
 have hi4:n.procs.length<=4:=by omega
 by_cases hil:i < n.procs.length
 ·have hq:decide ((i:Int) < (n.procs.length:Int))=true:=dct (by omega)
  obtain ⟨p,hp⟩:∃ p,n.procs[i]?=some p:=⟨n.procs[i]'hil,by simp⟩
  obtain ⟨ev,hev,hpx⟩:=hPat i p hp
  have hix:=fun (σ:AStore)=>hP1.idx (σ:=σ) (k:=.i64) hev
  have hwi:=wrapS (i:=i) (by omega)
  obtain ⟨SL,SE,rfl,hL,hE,iini⟩:=hpx
  have hll:=hL.choose_spec.2.2.1
  have hel:=hE.choose_spec.2.2.1
  obtain ⟨lels,hL1,hLl,hLat⟩:=hL.at'
  obtain ⟨eels,hE1,hEl,hEat⟩:=hE.at'
  have kL:=hL1.fit
  have cL:=hL1.cells
  have iL:=hL1.isCell
  have kE:=hE1.fit
  have cE:=hE1.cells
  have iE:=hE1.isCell
  have hLn:∀ σ:AStore,aLen (.slice 0) SL σ=some (.sc (.int .i64 (p.locs.length))):=fun σ=>hL1.lenN hLl
  have hEn:∀ σ:AStore,aLen (.slice 0) SE σ=some (.sc (.int .i64 (p.egs.length))):=fun σ=>hE1.lenN hEl
  have gx:∀ y z,((σ.alloc y).set σ.next z).get σ.next=some z:=fun y z=>by rw [AStore.get_set,if_pos ⟨rfl,by simp only [alloc_next]; omega⟩]
  have g0':∀ y z,((σ.alloc y).set σ.next z).get 0=some (.cells 5 [.agg [(.sc (.int .i64 (n.clocks))),SV,SC,SF,SP]]):=fun y z=>get_al g0
  have hwe:IntKind.i64.wrap ((e:Int)+(p.egs.length:Int))=((e+p.egs.length:Nat):Int):=by rw [wrap64 (by omega) (by omega)]; omega
  by_cases ha:8 < p.locs.length
  ·have q6:decide ((8:Int) < (p.locs.length:Int))=true:=dct (by omega)
   simp -implicitDefEqProofs only [go_sem,g0,kP,cP,iP,kV,cV,iV,kC,cC,iC,kF,cF,iF,hPn,hq]
   (repeat' first|(refine vy ?_ ?_<;>rintro ⟨hd,hq⟩<;>first|(exfalso; omega)|simp -implicitDefEqProofs only [go_sem,hd]|skip)|refine vz ?_|simp -implicitDefEqProofs only [go_sem,g0,g0',gx,kP,cP,iP,kV,cV,iV,kC,cC,iC,kF,cF,iF,hPn,hq,hix,kL,cL,iL,kE,cE,iE,hLn,hEn,hwe,q6])
   exact yes
  have q6:decide ((8:Int) < (p.locs.length:Int))=false:=dcf (by omega)
  by_cases hb:14 < e+p.egs.length
  ·have q7:decide ((14:Int) < ((e+p.egs.length:Nat):Int))=true:=dct (by omega)
   simp -implicitDefEqProofs only [go_sem,g0,kP,cP,iP,kV,cV,iV,kC,cC,iC,kF,cF,iF,hPn,hq]
   (repeat' first|(refine vy ?_ ?_<;>rintro ⟨hd,hq⟩<;>first|(exfalso; omega)|simp -implicitDefEqProofs only [go_sem,hd]|skip)|refine vz ?_|simp -implicitDefEqProofs only [go_sem,g0,g0',gx,kP,cP,iP,kV,cV,iV,kC,cC,iC,kF,cF,iF,hPn,hq,hix,kL,cL,iL,kE,cE,iE,hLn,hEn,hwe,q6,q7])
   exact yes
  have q7:decide ((14:Int) < ((e+p.egs.length:Nat):Int))=false:=dcf (by omega)
  simp -implicitDefEqProofs only [go_sem,g0,kP,cP,iP,kV,cV,iV,kC,cC,iC,kF,cF,iF,hPn,hq]
  (repeat' first|(refine vy ?_ ?_<;>rintro ⟨hd,hq⟩<;>first|(exfalso; omega)|simp -implicitDefEqProofs only [go_sem,hd]|skip)|refine vz ?_|simp -implicitDefEqProofs only [go_sem,g0,g0',gx,kP,cP,iP,kV,cV,iV,kC,cC,iC,kF,cF,iF,hPn,hq,hix,kL,cL,iL,kE,cE,iE,hLn,hEn,hwe,q6,q7])
  have gp:=gx (.cells 3 [.agg [(.sc (.int .i64 (0))),(.sc (.slice none 0 0)),(.sc (.slice none 0 0))]]) (.cells 3 [.agg [(.sc (.int .i64 (p.ini))),SL,SE]])
  have g00:=g0' (.cells 3 [.agg [(.sc (.int .i64 (0))),(.sc (.slice none 0 0)),(.sc (.slice none 0 0))]]) (.cells 3 [.agg [(.sc (.int .i64 (p.ini))),SL,SE]])
  generalize hc6:σ.next=c6 at gp g00 ⊢
  generalize (σ.alloc (.cells 3 [.agg [(.sc (.int .i64 (0))),(.sc (.slice none 0 0)),(.sc (.slice none 0 0))]])).set c6 (.cells 3 [.agg [(.sc (.int .i64 (p.ini))),SL,SE]])=τ at gp g00 ⊢
  clear g0 g0' gx
  refine vlp (ι:=Nat×Nat) (fun q=>[(1,.ptr 0 0 0),(3,(.sc (.int .i64 (((e+p.egs.length:Nat):Int))))),(4,(.sc (.int .i64 (q.1)))),(5,(.sc (.int .i64 (i)))),(6,.ptr c6 0 0),(7,(.sc (.int .i64 (q.2))))]) (fun q σ=>σ.get 0=some (.cells 5 [.agg [(.sc (.int .i64 (n.clocks))),SV,SC,SF,SP]])/\σ.get c6=some (.cells 3 [.agg [(.sc (.int .i64 (p.ini))),SL,SE]])/\q.2<=p.locs.length/\m<=q.1/\q.1<=1125899906842624*(64*i+q.2)/\(q.1<=120->∀ k,k < q.2->∀ y,p.locs[k]?=some y->y.inv.length<=120)) (fun q=>p.locs.length - q.2) (fun _=>rfl) (m,0) ?_ ?_ ?_
  ·(repeat' (first|exact trivial|refine ⟨rfl,?_⟩))
  ·exact ⟨g00,gp,Nat.zero_le _,Nat.le_refl _,by simpa using hm,fun _ k hk=>absurd hk (Nat.not_lt_zero _)⟩
  clear g00 gp
  rintro ⟨m1,j⟩ σ ⟨g0,gp,hj,hmm,hm1,hal1⟩
  simp only at hj hmm hm1 hal1
  by_cases hjl:j < p.locs.length
  ·have hq2:decide ((j:Int) < (p.locs.length:Int))=true:=dct (by omega)
   obtain ⟨y,hy⟩:∃ y,p.locs[j]?=some y:=⟨p.locs[j]'hjl,by simp⟩
   obtain ⟨ey,hey,hyv⟩:=hLat j y hy
   have hiy:=fun (σ:AStore)=>hL1.idx (σ:=σ) (k:=.i64) hey
   have hwj:=wrapS (i:=j) (by omega)
   obtain ⟨G,rfl,hG,iy1,iy2⟩:=hyv
   have kG:=hG.1.fit
   have cG:=hG.1.cells
   have iG:=hG.1.isCell
   have hgl:=hG.2.1
   have hGn:∀ σ:AStore,aLen (.slice 0) G σ=some (.sc (.int .i64 (y.inv.length))):=fun σ=>by have:=hG.1.len (σ:=σ); rwa [List.length_map] at this
   have hwm:IntKind.i64.wrap ((m1:Int)+(y.inv.length:Int))=((m1+y.inv.length:Nat):Int):=by rw [wrap64 (by omega) (by omega)]; omega
   simp -implicitDefEqProofs only [go_sem,gp,kL,cL,iL,kE,cE,iE,hLn,hq2]
   (repeat' first|(refine vy ?_ ?_<;>rintro ⟨hd,hq⟩<;>first|(exfalso; omega)|simp -implicitDefEqProofs only [go_sem,hd]|skip)|refine vz ?_|simp -implicitDefEqProofs only [go_sem,g0,gp,kL,cL,iL,kE,cE,iE,hLn,hq2,hiy,kG,cG,iG,hGn,hwm,hwj])
   refine ⟨(m1+y.inv.length,j+1),by dsimp only; omega,⟨g0,gp,by dsimp only; omega,by dsimp only; omega,by dsimp only; omega,fun h=>?_⟩,by (repeat' (first|exact trivial|refine ⟨rfl,?_⟩))⟩
   dsimp only at h ⊢
   exact at_succ (hal1 (by omega)) hy (by omega)
  obtain rfl:j=p.locs.length:=by omega
  have hq2:decide ((p.locs.length:Int) < (p.locs.length:Int))=false:=dcf (by omega)
  simp -implicitDefEqProofs only [go_sem,gp,kL,cL,iL,kE,cE,iE,hLn,hq2]
  (repeat' first|(refine vy ?_ ?_<;>rintro ⟨hd,hq⟩<;>first|(exfalso; omega)|simp -implicitDefEqProofs only [go_sem,hd]|skip)|refine vz ?_|simp -implicitDefEqProofs only [go_sem,g0,gp,kL,cL,iL,kE,cE,iE,hLn,hq2])
  have hbi:m1<=1125899906842624*(64*i+8):=by omega
  refine vlp (ι:=Nat×Nat) (fun q=>[(1,.ptr 0 0 0),(3,(.sc (.int .i64 (((e+p.egs.length:Nat):Int))))),(4,(.sc (.int .i64 (q.1)))),(5,(.sc (.int .i64 (i)))),(6,.ptr c6 0 0),(8,(.sc (.int .i64 (q.2))))]) (fun q σ=>σ.get 0=some (.cells 5 [.agg [(.sc (.int .i64 (n.clocks))),SV,SC,SF,SP]])/\σ.get c6=some (.cells 3 [.agg [(.sc (.int .i64 (p.ini))),SL,SE]])/\q.2<=p.egs.length/\m1<=q.1/\q.1<=1125899906842624*(64*i+8+q.2)/\(q.1<=120->∀ k,k < q.2->∀ y,p.egs[k]?=some y->LgE y)) (fun q=>p.egs.length - q.2) (fun _=>rfl) (m1,0) ?_ ?_ ?_
  ·(repeat' (first|exact trivial|refine ⟨rfl,?_⟩))
  ·exact ⟨g0,gp,Nat.zero_le _,Nat.le_refl _,by simpa using hbi,fun _ k hk=>absurd hk (Nat.not_lt_zero _)⟩
  clear g0 gp
  rintro ⟨m2,q⟩ σ ⟨g0,gp,hq3,hm2,hm3,hal2⟩
  simp only at hq3 hm2 hm3 hal2
  by_cases hql:q < p.egs.length
  ·have hq4:decide ((q:Int) < (p.egs.length:Int))=true:=dct (by omega)
   obtain ⟨y,hy⟩:∃ y,p.egs[q]?=some y:=⟨p.egs[q]'hql,by simp⟩
   obtain ⟨ey,hey,hyv⟩:=hEat q y hy
   have hiy:=fun (σ:AStore)=>hE1.idx (σ:=σ) (k:=.i64) hey
   have hwq:=wrapS (i:=q) (by omega)
   obtain ⟨G,a,a2,a3,a4,SS,SR,rfl,hG,hEx,hSs,hR,i1,i2,i3,i4,i5⟩:=hyv
   have kG:=hG.1.fit
   have cG:=hG.1.cells
   have iG:=hG.1.isCell
   have hgl:=hG.2.1
   have hrl:=hR.2.1
   have hsl:=hSs.choose_spec.2.2.1
   obtain ⟨sels,hS1,hSl,hSat⟩:=hSs.at'
   have kSS:=hS1.fit
   have cSS:=hS1.cells
   have iSS:=hS1.isCell
   have kR:=hR.1.fit
   have cR:=hR.1.cells
   have iR:=hR.1.isCell
   have hGn:∀ σ:AStore,aLen (.slice 0) G σ=some (.sc (.int .i64 (y.gd.length))):=fun σ=>by have:=hG.1.len (σ:=σ); rwa [List.length_map] at this
   have hSn:∀ σ:AStore,aLen (.slice 0) SS σ=some (.sc (.int .i64 (y.ss.length))):=fun σ=>hS1.lenN hSl
   have hRn:∀ σ:AStore,aLen (.slice 0) SR σ=some (.sc (.int .i64 (y.rs.length))):=fun σ=>by have:=hR.1.len (σ:=σ); rwa [List.length_map] at this
   obtain ⟨kk,nn,ii,rfl,rfl,rfl,kX,cX,iX⟩:∃ (kk:Int) (nn:ByteArray) (ii:Int),a=(.sc (.int .i64 (kk)))/\a2=.sc (.string nn)/\a3=(.sc (.int .i64 (ii)))/\a4.fit=true/\a4.cells=[a4]/\a4.isCell=true:=by
    have hEy:=hEx
    generalize y.cd=cd at hEy
    obtain ⟨k,nm,i,l⟩:=cd
    simp only [IsEx] at hEy
    obtain ⟨S,els,he,hS,_⟩:=hEy
    simp only [AVal.agg.injEq,List.cons.injEq,and_true] at he
    obtain ⟨rfl,rfl,rfl,rfl⟩:=he
    exact ⟨_,_,_,rfl,rfl,rfl,hS.fit,hS.cells,hS.isCell⟩
   have gx:∀ y z,((σ.alloc y).set σ.next z).get σ.next=some z:=fun y z=>by rw [AStore.get_set,if_pos ⟨rfl,by simp only [alloc_next]; omega⟩]
   have g0':∀ y z,((σ.alloc y).set σ.next z).get 0=some (.cells 5 [.agg [(.sc (.int .i64 (n.clocks))),SV,SC,SF,SP]]):=fun y z=>get_al g0
   have gp':∀ y z,((σ.alloc y).set σ.next z).get c6=some (.cells 3 [.agg [(.sc (.int .i64 (p.ini))),SL,SE]]):=fun y z=>get_al gp
   simp -implicitDefEqProofs only [go_sem,gp,kL,cL,iL,kE,cE,iE,hEn,hq4]
   (repeat' first|(refine vy ?_ ?_<;>rintro ⟨hd,hq⟩<;>first|(exfalso; omega)|simp -implicitDefEqProofs only [go_sem,hd]|skip)|refine vz ?_|simp -implicitDefEqProofs only [go_sem,g0,gp,gp',gx,kL,cL,iL,kE,cE,iE,hEn,hq4,hiy,kX,cX,iX,kG,cG,iG,kSS,cSS,iSS,kR,cR,iR])
   have gq:=gx (.cells 13 [.agg [(.sc (.int .i64 (0))),(.sc (.int .i64 (0))),(.sc (.slice none 0 0)),(.sc (.int .i64 (0))),.sc (.string ⟨#[]⟩),(.sc (.int .i64 (0))),(.sc (.slice none 0 0)),(.sc (.int .i64 (0))),(.sc (.bool (false))),(.sc (.slice none 0 0)),(.sc (.slice none 0 0)),(.sc (.int .i64 (0))),(.sc (.int .i64 (0)))]]) (.cells 13 [.agg [(.sc (.int .i64 (y.fr))),(.sc (.int .i64 (y.to))),G,(.sc (.int .i64 (kk))),.sc (.string nn),(.sc (.int .i64 (ii))),a4,(.sc (.int .i64 (y.ch))),(.sc (.bool (y.snd))),SS,SR,(.sc (.int .i64 (y.cost))),(.sc (.int .i64 (y.kind)))]])
   have gpq:=gp' (.cells 13 [.agg [(.sc (.int .i64 (0))),(.sc (.int .i64 (0))),(.sc (.slice none 0 0)),(.sc (.int .i64 (0))),.sc (.string ⟨#[]⟩),(.sc (.int .i64 (0))),(.sc (.slice none 0 0)),(.sc (.int .i64 (0))),(.sc (.bool (false))),(.sc (.slice none 0 0)),(.sc (.slice none 0 0)),(.sc (.int .i64 (0))),(.sc (.int .i64 (0)))]]) (.cells 13 [.agg [(.sc (.int .i64 (y.fr))),(.sc (.int .i64 (y.to))),G,(.sc (.int .i64 (kk))),.sc (.string nn),(.sc (.int .i64 (ii))),a4,(.sc (.int .i64 (y.ch))),(.sc (.bool (y.snd))),SS,SR,(.sc (.int .i64 (y.cost))),(.sc (.int .i64 (y.kind)))]])
   have g0q:=g0' (.cells 13 [.agg [(.sc (.int .i64 (0))),(.sc (.int .i64 (0))),(.sc (.slice none 0 0)),(.sc (.int .i64 (0))),.sc (.string ⟨#[]⟩),(.sc (.int .i64 (0))),(.sc (.slice none 0 0)),(.sc (.int .i64 (0))),(.sc (.bool (false))),(.sc (.slice none 0 0)),(.sc (.slice none 0 0)),(.sc (.int .i64 (0))),(.sc (.int .i64 (0)))]]) (.cells 13 [.agg [(.sc (.int .i64 (y.fr))),(.sc (.int .i64 (y.to))),G,(.sc (.int .i64 (kk))),.sc (.string nn),(.sc (.int .i64 (ii))),a4,(.sc (.int .i64 (y.ch))),(.sc (.bool (y.snd))),SS,SR,(.sc (.int .i64 (y.cost))),(.sc (.int .i64 (y.kind)))]])
   generalize hc9:σ.next=c9 at gq gpq g0q ⊢
   generalize (σ.alloc (.cells 13 [.agg [(.sc (.int .i64 (0))),(.sc (.int .i64 (0))),(.sc (.slice none 0 0)),(.sc (.int .i64 (0))),.sc (.string ⟨#[]⟩),(.sc (.int .i64 (0))),(.sc (.slice none 0 0)),(.sc (.int .i64 (0))),(.sc (.bool (false))),(.sc (.slice none 0 0)),(.sc (.slice none 0 0)),(.sc (.int .i64 (0))),(.sc (.int .i64 (0)))]])).set c9 (.cells 13 [.agg [(.sc (.int .i64 (y.fr))),(.sc (.int .i64 (y.to))),G,(.sc (.int .i64 (kk))),.sc (.string nn),(.sc (.int .i64 (ii))),a4,(.sc (.int .i64 (y.ch))),(.sc (.bool (y.snd))),SS,SR,(.sc (.int .i64 (y.cost))),(.sc (.int .i64 (y.kind)))]])=τ2 at gq gpq g0q ⊢
   clear g0 g0' gx gp' gp
   have w1:IntKind.i64.wrap ((m2:Int)+(y.gd.length:Int))=((m2+y.gd.length:Nat):Int):=by rw [wrap64 (by omega) (by omega)]; omega
   have w2:IntKind.i64.wrap (((m2+y.gd.length:Nat):Int)+(y.ss.length:Int))=((m2+y.gd.length+y.ss.length:Nat):Int):=by rw [wrap64 (by omega) (by omega)]; omega
   have w3:IntKind.i64.wrap (((m2+y.gd.length+y.ss.length:Nat):Int)+(y.rs.length:Int))=((m2+y.gd.length+y.ss.length+y.rs.length:Nat):Int):=by rw [wrap64 (by omega) (by omega)]; omega
   ((try (refine Z_seq ?_; (try simp -implicitDefEqProofs only [go_sem]))); refine Z_draw (by kernel_rfl) [0,1,2,3,4,5,6,7,8,9,10,11,12,13,14,15,16,17] [(17,131071),(16,65535),(15,24576),(14,8192),(13,0),(12,4095),(11,1536),(10,512),(9,0),(8,255),(7,96),(6,32),(5,0),(4,15),(3,6),(2,2),(1,0),(0,0)] (by kernel_rfl) (by kernel_rfl) ?_)
   simp -implicitDefEqProofs only [go_sem,gq,kX,cX,iX,kG,cG,iG,kSS,cSS,iSS,kR,cR,iR,hGn,hSn,hRn,w1,w2,w3]
   refine (exprC 41 0 (by omega) hEx).useD fun r hr=>?_
   obtain ⟨m4,rfl,hb4,hc4⟩:=hr
   have w4:IntKind.i64.wrap (((m2+y.gd.length+y.ss.length+y.rs.length:Nat):Int)+(m4:Int))=((m2+y.gd.length+y.ss.length+y.rs.length+m4:Nat):Int):=by rw [wrap64 (by omega) (by omega)]; omega
   simp -implicitDefEqProofs only [go_sem,w1,w2,w3,w4]
   (repeat' first|(refine vy ?_ ?_<;>rintro ⟨hd,hq⟩<;>first|(exfalso; omega)|simp -implicitDefEqProofs only [go_sem,hd]|skip)|refine vz ?_|simp -implicitDefEqProofs only [go_sem,gq,kX,cX,iX,kG,cG,iG,kSS,cSS,iSS,kR,cR,iR,hGn,hSn,hRn,w1,w2,w3,w4])
   obtain ⟨m5,hm5⟩:∃ m5,m5=m2+y.gd.length+y.ss.length+y.rs.length+m4:=⟨_,rfl⟩
   rw [<-hm5]
   have hm5b:m5<=1125899906842624*(64*i+8+(q+1)):=by omega
   refine vlp (ι:=Nat×Nat) (fun r=>[(1,.ptr 0 0 0),(3,(.sc (.int .i64 (((e+p.egs.length:Nat):Int))))),(4,(.sc (.int .i64 (r.1)))),(5,(.sc (.int .i64 (i)))),(6,.ptr c6 0 0),(8,(.sc (.int .i64 (q)))),(9,.ptr c9 0 0),(10,(.sc (.int .i64 (r.2))))]) (fun r σ=>σ.get 0=some (.cells 5 [.agg [(.sc (.int .i64 (n.clocks))),SV,SC,SF,SP]])/\σ.get c6=some (.cells 3 [.agg [(.sc (.int .i64 (p.ini))),SL,SE]])/\σ.get c9=some (.cells 13 [.agg [(.sc (.int .i64 (y.fr))),(.sc (.int .i64 (y.to))),G,(.sc (.int .i64 (kk))),.sc (.string nn),(.sc (.int .i64 (ii))),a4,(.sc (.int .i64 (y.ch))),(.sc (.bool (y.snd))),SS,SR,(.sc (.int .i64 (y.cost))),(.sc (.int .i64 (y.kind)))]])/\r.2<=y.ss.length/\m5<=r.1/\r.1<=1125899906842624*(64*i+8+(q+1))/\(r.1<=120->∀ k,k < r.2->∀ s,y.ss[k]?=some s->nodesE s.e<=120)) (fun r=>y.ss.length - r.2) (fun _=>rfl) (m5,0) ?_ ?_ ?_
   ·(repeat' (first|exact trivial|refine ⟨rfl,?_⟩))
   ·exact ⟨g0q,gpq,gq,Nat.zero_le _,Nat.le_refl _,hm5b,fun _ k hk=>absurd hk (Nat.not_lt_zero _)⟩
   clear g0q gpq gq
   rintro ⟨m6,z⟩ σ ⟨g0,gp,gq,hz,hm6,hm7,hal3⟩
   simp only at hz hm6 hm7 hal3
   have fin:m6<=120->z=y.ss.length->LgE y:=fun h hzl=>by
    subst hzl
    exact ⟨by omega,by omega,by omega,by have:=hc4 (by omega); omega,mem_ofN (hal3 h)⟩
   by_cases hzl:z < y.ss.length
   ·have q9:decide ((z:Int) < (y.ss.length:Int))=true:=dct (by omega)
    by_cases hml:m6<=120
    ·have qa:decide ((m6:Int)<=120)=true:=dct (by omega)
     obtain ⟨s,hs⟩:∃ s,y.ss[z]?=some s:=⟨y.ss[z]'hzl,by simp⟩
     obtain ⟨es,hes,hsv⟩:=hSat z s hs
     have his:=fun (σ:AStore)=>hS1.idx (σ:=σ) (k:=.i64) hes
     have hwz:=wrapS (i:=z) (by omega)
     obtain ⟨za,rfl,hZe,_⟩:=hsv
     obtain ⟨zk,zn,zi,zS,rfl,kZ,cZ,iZ⟩:∃ (zk:Int) (zn:ByteArray) (zi:Int) (zS:AVal),za=[(.sc (.int .i64 (zk))),.sc (.string zn),(.sc (.int .i64 (zi))),zS]/\zS.fit=true/\zS.cells=[zS]/\zS.isCell=true:=by
      have hEy:=hZe
      generalize s.e=cd at hEy
      obtain ⟨k,nm,i,l⟩:=cd
      simp only [IsEx] at hEy
      obtain ⟨S,els,he,hS,_⟩:=hEy
      simp only [AVal.agg.injEq] at he
      exact ⟨_,_,_,_,he,hS.fit,hS.cells,hS.isCell⟩
     simp -implicitDefEqProofs only [go_sem,gq,kX,cX,iX,kG,cG,iG,kSS,cSS,iSS,kR,cR,iR,hSn,q9,qa]
     (repeat' first|(refine vy ?_ ?_<;>rintro ⟨hd,hq⟩<;>first|(exfalso; omega)|simp -implicitDefEqProofs only [go_sem,hd]|skip)|refine vz ?_|simp -implicitDefEqProofs only [go_sem,gq,kX,cX,iX,kG,cG,iG,kSS,cSS,iSS,kR,cR,iR,hSn,q9,qa,his,kZ,cZ,iZ])
     refine (exprC 41 0 (by omega) hZe).use fun r hr=>?_
     obtain ⟨m8,rfl,hb8,hc8⟩:=hr
     have w8:IntKind.i64.wrap ((m6:Int)+(m8:Int))=((m6+m8:Nat):Int):=by rw [wrap64 (by omega) (by omega)]; omega
     (repeat' first|(refine vy ?_ ?_<;>rintro ⟨hd,hq⟩<;>first|(exfalso; omega)|simp -implicitDefEqProofs only [go_sem,hd]|skip)|refine vz ?_|simp -implicitDefEqProofs only [go_sem,w8,hwz])
     refine ⟨(m6+m8,z+1),by dsimp only; omega,⟨g0,gp,gq,by dsimp only; omega,by dsimp only; omega,by dsimp only; omega,fun h=>?_⟩,by (repeat' (first|exact trivial|refine ⟨rfl,?_⟩))⟩
     dsimp only at h ⊢
     exact at_succ (hal3 (by omega)) hs (by have:=hc8 (by omega); omega)
    ·have qa:decide ((m6:Int)<=120)=false:=dcf (by omega)
     simp -implicitDefEqProofs only [go_sem,gq,kX,cX,iX,kG,cG,iG,kSS,cSS,iSS,kR,cR,iR,hSn,q9,qa]
     (repeat' first|(refine vy ?_ ?_<;>rintro ⟨hd,hq⟩<;>first|(exfalso; omega)|simp -implicitDefEqProofs only [go_sem,hd]|skip)|refine vz ?_|simp -implicitDefEqProofs only [go_sem,gq,kX,cX,iX,kG,cG,iG,kSS,cSS,iSS,kR,cR,iR,hSn,q9,qa,hwq])
     refine ⟨(m6,q+1),by dsimp only; omega,⟨g0,gp,by dsimp only; omega,by dsimp only; omega,by dsimp only; omega,fun h=>?_⟩,by (repeat' (first|exact trivial|refine ⟨rfl,?_⟩))⟩
     dsimp only at h
     omega
   ·have q9:decide ((z:Int) < (y.ss.length:Int))=false:=dcf (by omega)
    simp -implicitDefEqProofs only [go_sem,gq,kX,cX,iX,kG,cG,iG,kSS,cSS,iSS,kR,cR,iR,hSn,q9]
    (repeat' first|(refine vy ?_ ?_<;>rintro ⟨hd,hq⟩<;>first|(exfalso; omega)|simp -implicitDefEqProofs only [go_sem,hd]|skip)|refine vz ?_|simp -implicitDefEqProofs only [go_sem,gq,kX,cX,iX,kG,cG,iG,kSS,cSS,iSS,kR,cR,iR,hSn,q9,hwq])
    refine ⟨(m6,q+1),by dsimp only; omega,⟨g0,gp,by dsimp only; omega,by dsimp only; omega,by dsimp only; omega,fun h=>?_⟩,by (repeat' (first|exact trivial|refine ⟨rfl,?_⟩))⟩
    dsimp only at h ⊢
    exact at_succ (hal2 (by omega)) hy (fin h (by omega))
  obtain rfl:q=p.egs.length:=by omega
  have hq4:decide ((p.egs.length:Int) < (p.egs.length:Int))=false:=dcf (by omega)
  simp -implicitDefEqProofs only [go_sem,gp,kL,cL,iL,kE,cE,iE,hEn,hq4]
  (repeat' first|(refine vy ?_ ?_<;>rintro ⟨hd,hq⟩<;>first|(exfalso; omega)|simp -implicitDefEqProofs only [go_sem,hd]|skip)|refine vz ?_|simp -implicitDefEqProofs only [go_sem,g0,gp,kL,cL,iL,kE,cE,iE,hEn,hq4,hwi])
  refine ⟨(e+p.egs.length,m2,i+1),by dsimp only; omega,⟨g0,by dsimp only; omega,by dsimp only; omega,by dsimp only; omega,fun h=>?_⟩,by (repeat' (first|exact trivial|refine ⟨rfl,?_⟩))⟩
  dsimp only at h ⊢
  exact at_succ (hall (by omega)) hp ⟨by omega,by omega,mem_ofN (hal1 (by omega)),mem_ofN (hal2 h)⟩
 ·obtain rfl:i=n.procs.length:=by omega
  have hq:decide ((n.procs.length:Int) < (n.procs.length:Int))=false:=dcf (by omega)
  by_cases hb:120 < m
  ·have q8:decide ((120:Int) < (m:Int))=true:=dct (by omega)
   simp -implicitDefEqProofs only [go_sem,g0,kP,cP,iP,kV,cV,iV,kC,cC,iC,kF,cF,iF,hPn,hq]
   (repeat' first|(refine vy ?_ ?_<;>rintro ⟨hd,hq⟩<;>first|(exfalso; omega)|simp -implicitDefEqProofs only [go_sem,hd]|skip)|refine vz ?_|simp -implicitDefEqProofs only [go_sem,g0,kP,cP,iP,kV,cV,iV,kC,cC,iC,kF,cF,iF,hPn,hq,q8])
   exact yes
  ·have q8:decide ((120:Int) < (m:Int))=false:=dcf (by omega)
   simp -implicitDefEqProofs only [go_sem,g0,kP,cP,iP,kV,cV,iV,kC,cC,iC,kF,cF,iF,hPn,hq]
   (repeat' first|(refine vy ?_ ?_<;>rintro ⟨hd,hq⟩<;>first|(exfalso; omega)|simp -implicitDefEqProofs only [go_sem,hd]|skip)|refine vz ?_|simp -implicitDefEqProofs only [go_sem,g0,kP,cP,iP,kV,cV,iV,kC,cC,iC,kF,cF,iF,hPn,hq,q8])
   exact ⟨_,_,rfl,rfl,.inr ⟨rfl,by omega,by omega,by omega,by omega,by omega,mem_ofN (hall (by omega))⟩⟩
theorem Lg.nts {n:Nt} (h:Lg n):NtS n where
 pl:=by have:=h.pl; omega
 ll:=fun p hp=>by have:=(h.pr p hp).ll; have:=(h.pr p hp).le; omega
 lc:=fun p hp=>⟨fun y hy=>by have:=(h.pr p hp).iv y hy; omega,fun y hy=>by have:=((h.pr p hp).eg y hy).ss; have:=((h.pr p hp).eg y hy).rs; omega⟩
 fs:=by
  have h1:=h.fl
  cases hf:n.funcs with
  | nil=>decide
  | cons a b=>rw [hf] at h1; simp at h1
 fl:=by have:=h.fl; omega
 cd:=fun p hp x hx=>⟨by have:=((h.pr p hp).eg x hx).cd; omega,fun s hs=>by have:=((h.pr p hp).eg x hx).sx s hs; omega⟩
def large16P (n:Nt) (s:Stt) (l:List Cn) (r:AVal):Prop:=r=(.sc (.bool (true)))\/(r=(.sc (.bool (false)))/\Lg n/\s.locs.length<=20/\s.vars.length<=20/\l.length<=120)
theorem large16C {w:WD} {n:Nt} {v:AVal} {s:Stt} {u S:AVal} {l:List Cn} (h:IsNt n v) (hu:IsStt s u) (hl:IsCns l S):Gives (EE w) 4 [v,u,S] (large16P n s l):=by
 have hwf:=h.wf
 have hwu:=hu.wf
 have hwS:=hl.wf
 have hLg:=fun w:WD=>largeC (w:=w) h
 obtain ⟨SV,SC,SF,SP,fels,rfl,icl,⟨hV,lv,hvo⟩,⟨hC,lc,hco⟩,hF,hFs,lf,hP⟩:=h
 obtain ⟨L,U,rfl,⟨hL,lL,iL0⟩,⟨hU,lU,iU0⟩⟩:=hu
 obtain ⟨hS,ll,hok⟩:=hl
 have hSn:∀ σ:AStore,aLen (.slice 0) S σ=some (.sc (.int .i64 (l.length))):=fun σ=>by have:=hS.len (σ:=σ); rwa [List.length_map] at this
 have hLn:∀ σ:AStore,aLen (.slice 0) L σ=some (.sc (.int .i64 (s.locs.length))):=fun σ=>by have:=hL.len (σ:=σ); rwa [List.length_map] at this
 have hUn:∀ σ:AStore,aLen (.slice 0) U σ=some (.sc (.int .i64 (s.vars.length))):=fun σ=>by have:=hU.len (σ:=σ); rwa [List.length_map] at this
 obtain ⟨pels,hP1,hPl,hPat⟩:=hP.at'
 have kV:=hV.fit
 have cV:=hV.cells
 have iV:=hV.isCell
 have kC:=hC.fit
 have cC:=hC.cells
 have iC:=hC.isCell
 have kF:=hF.fit
 have cF:=hF.cells
 have iF:=hF.isCell
 have kP:=hP1.fit
 have cP:=hP1.cells
 have iP:=hP1.isCell
 have kL:=hL.fit
 have cL:=hL.cells
 have iL:=hL.isCell
 have kU:=hU.fit
 have cU:=hU.cells
 have iU:=hU.isCell
 refine Gives.of (fun _=>.sc _) (.cons _ _ hwf (.cons _ _ hwu (.cons _ _ hwS .nil))) 1 ?_
 have yes:∀ {σ:AStore},∃ u v,AEnd.ret (.sc (.bool (true)))=AEnd.ret u/\frz σ 1 u=some v/\large16P n s l v:=⟨_,_,rfl,rfl,.inl rfl⟩
 refine of_4 rfl rfl rfl (by kernel_rfl) ?_
 simp -implicitDefEqProofs only [go_sem,kV,cV,iV,kC,cC,iC,kF,cF,iF,kP,cP,iP,kL,cL,iL,kU,cU,iU]
 have g1:((empty.alloc (.cells 5 [.agg [(.sc (.int .i64 (n.clocks))),SV,SC,SF,SP]])).alloc (.cells 2 [.agg [L,U]])).get 1=some (.cells 2 [.agg [L,U]]):=by rw [AStore.get_alloc]; rfl
 generalize (empty.alloc (.cells 5 [.agg [(.sc (.int .i64 (n.clocks))),SV,SC,SF,SP]])).alloc (.cells 2 [.agg [L,U]])=τ at g1 ⊢
 refine (hLg _).use fun r hr=>?_
 rcases hr with rfl|⟨rfl,hlg⟩
 ·(repeat' first|(refine vy ?_ ?_<;>rintro ⟨hd,hq⟩<;>first|(exfalso; omega)|simp -implicitDefEqProofs only [go_sem,hd]|skip)|refine vz ?_|simp -implicitDefEqProofs only [go_sem])
  exact yes
 by_cases h1:20 < s.locs.length
 ·have q1:decide ((20:Int) < (s.locs.length:Int))=true:=dct (by omega)
  (repeat' first|(refine vy ?_ ?_<;>rintro ⟨hd,hq⟩<;>first|(exfalso; omega)|simp -implicitDefEqProofs only [go_sem,hd]|skip)|refine vz ?_|simp -implicitDefEqProofs only [go_sem,g1,kL,cL,iL,kU,cU,iU,hLn,hUn,hSn,q1])
  exact yes
 have q1:decide ((20:Int) < (s.locs.length:Int))=false:=dcf (by omega)
 by_cases h2:20 < s.vars.length
 ·have q2:decide ((20:Int) < (s.vars.length:Int))=true:=dct (by omega)
  (repeat' first|(refine vy ?_ ?_<;>rintro ⟨hd,hq⟩<;>first|(exfalso; omega)|simp -implicitDefEqProofs only [go_sem,hd]|skip)|refine vz ?_|simp -implicitDefEqProofs only [go_sem,g1,kL,cL,iL,kU,cU,iU,hLn,hUn,hSn,q1,q2])
  exact yes
 have q2:decide ((20:Int) < (s.vars.length:Int))=false:=dcf (by omega)
 by_cases h3:120 < l.length
 ·have q3:decide ((120:Int) < (l.length:Int))=true:=dct (by omega)
  (repeat' first|(refine vy ?_ ?_<;>rintro ⟨hd,hq⟩<;>first|(exfalso; omega)|simp -implicitDefEqProofs only [go_sem,hd]|skip)|refine vz ?_|simp -implicitDefEqProofs only [go_sem,g1,kL,cL,iL,kU,cU,iU,hLn,hUn,hSn,q1,q2,q3])
  exact yes
 have q3:decide ((120:Int) < (l.length:Int))=false:=dcf (by omega)
 (repeat' first|(refine vy ?_ ?_<;>rintro ⟨hd,hq⟩<;>first|(exfalso; omega)|simp -implicitDefEqProofs only [go_sem,hd]|skip)|refine vz ?_|simp -implicitDefEqProofs only [go_sem,g1,kL,cL,iL,kU,cU,iU,hLn,hUn,hSn,q1,q2,q3])
 exact ⟨_,_,rfl,rfl,.inr ⟨rfl,hlg,by omega,by omega,by omega⟩⟩
def tset (f:Nat->Nat->Int) (i k:Nat) (v:Int):Nat->Nat->Int:=fun a b=>if a=i/\b=k then v else f a b
theorem row_set {α:Type} (g:Nat->α) (k:Nat) (x:α) (C:Nat):((List.range C).map g).set k x=(List.range C).map fun j=>if j=k then x else g j:=by
 apply List.ext_getElem?
 intro j
 rw [List.getElem?_set]
 by_cases hj:j < C
 ·by_cases hk:k=j
  ·subst hk
   simp [hj]
  ·have hk':¬ j=k:=fun h=>hk h.symm
   simp [hk,hk',hj]
 ·simp [hj]
  intro h
  omega
theorem Tb.tset {σ:AStore} {b L C i k:Nat} {f:Nat->Nat->Int} (h:Tb σ b L C f) (hi:i < L) (v:Int):Tb (σ.set (b+1+i) (.cells 1 (((List.range C).map fun k=>iA (f i k)).set k (iA v)))) b L C (tset f i k v):=by
 obtain ⟨h1,h2⟩:=h
 have hl:=AStore.lt_of_get (h2 i hi)
 refine ⟨by rw [AStore.get_set,if_neg (by omega)]; exact h1,fun a ha=>?_⟩
 by_cases hai:a=i
 ·subst hai
  rw [AStore.get_set,if_pos ⟨rfl,hl⟩,row_set]
  congr 3
  funext j
  by_cases hj:j=k
  ·simp [Abs.tset,hj]
  ·simp [Abs.tset,hj]
 ·rw [AStore.get_set,if_neg (by omega),h2 a ha]
  congr 3
  funext j
  simp [Abs.tset,hai]
theorem Tb.row {σ:AStore} {b L C i k:Nat} {f:Nat->Nat->Int} (h:Tb σ b L C f) (hi:i < L) (hk:k < C):((List.range C).map fun k=>iA (f i k))[k]?=some (iA (f i k)):=by
 rw [List.getElem?_map,List.getElem?_range hk]; rfl
theorem tset_same (f:Nat->Nat->Int) (i k:Nat):tset f i k (f i k)=f:=by
 funext a b
 unfold tset
 split
 ·rename_i h; rw [h.1,h.2]
 ·rfl
theorem tbRaise {w:WD} {σ:AStore} {b L C i k:Nat} {f:Nat->Nat->Int} {v:Int} {G:AVal} (hG:IsD 1 G [iA v]) (h:Tb σ b L C f) (hi:i < L) (hk:k < C):
  ACalls (EE w) 17 [.ptr (b+1+i) k 0,G] σ fun en σ'=>en=.ret (.sc (.bool (decide (f i k < v))))/\Tb σ' b L C (tset f i k (max (f i k) v))/\σ'.next=σ.next/\∀ d y,d≠b+1+i->σ.get d=some y->σ'.get d=some y:=by
 refine (raiseC hG (h.2 i hi) (h.row hi hk)).mono ?_
 rintro en σ' ⟨rfl,rfl⟩
 refine ⟨rfl,?_⟩
 by_cases hv:f i k < v
 ·rw [if_pos hv,show max (f i k) v=v by omega]
  exact ⟨h.tset hi v,by rw [set_next],fun d y hd hg=>by rw [AStore.get_set,if_neg (by omega)]; exact hg⟩
 ·rw [if_neg hv,show max (f i k) v=f i k by omega,tset_same]
  exact ⟨h,rfl,fun d y _ hg=>hg⟩
/-- How far a table is from its top. -/
def tgapR (top:Int) (g:Nat->Int):Nat->Nat
 | 0=>0
 | k+1=>tgapR top g k+(top - g k).toNat
def tgap (top:Int) (C:Nat) (f:Nat->Nat->Int):Nat->Nat
 | 0=>0
 | i+1=>tgap top C f i+tgapR top (f i) C
theorem tgapR_le {top:Int} {g g':Nat->Int}:∀ {C:Nat},(∀ k,k < C->g k<=g' k)->tgapR top g' C<=tgapR top g C
 | 0,_=>Nat.le_refl _
 | C+1,h=>by
  have h1:=tgapR_le (C:=C) (top:=top) fun k hk=>h k (by omega)
  have h2:=h C (by omega)
  simp only [tgapR]
  omega
theorem tgapR_lt {top:Int} {g g':Nat->Int} {k:Nat}:∀ {C:Nat},(∀ k,k < C->g k<=g' k)->k < C->g k < g' k->g k < top->tgapR top g' C < tgapR top g C
 | 0,_,hk,_,_=>absurd hk (Nat.not_lt_zero _)
 | C+1,h,hk,hl,ht=>by
  simp only [tgapR]
  by_cases hkc:k=C
  ·subst hkc
   have h1:=tgapR_le (C:=k) (top:=top) fun j hj=>h j (by omega)
   omega
  ·have h1:=tgapR_lt (C:=C) (top:=top) (fun j hj=>h j (by omega)) (by omega) hl ht
   have h2:=h C (by omega)
   omega
theorem tgap_le {top:Int} {C:Nat} {f f':Nat->Nat->Int}:∀ {L:Nat},(∀ i,i < L->∀ k,k < C->f i k<=f' i k)->tgap top C f' L<=tgap top C f L
 | 0,_=>Nat.le_refl _
 | L+1,h=>by
  have h1:=tgap_le (L:=L) (top:=top) fun i hi=>h i (by omega)
  have h2:=tgapR_le (top:=top) (h L (by omega))
  simp only [tgap]
  omega
theorem tgap_lt {top:Int} {C:Nat} {f f':Nat->Nat->Int} {i k:Nat}:∀ {L:Nat},(∀ i,i < L->∀ k,k < C->f i k<=f' i k)->i < L->k < C->f i k < f' i k->f i k < top->tgap top C f' L < tgap top C f L
 | 0,_,hi,_,_,_=>absurd hi (Nat.not_lt_zero _)
 | L+1,h,hi,hk,hl,ht=>by
  simp only [tgap]
  by_cases hil:i=L
  ·subst hil
   have h1:=tgap_le (L:=i) (top:=top) fun j hj=>h j (by omega)
   have h2:=tgapR_lt (top:=top) (h i (by omega)) hk hl ht
   omega
  ·have h1:=tgap_lt (L:=L) (top:=top) (fun j hj=>h j (by omega)) (by omega) hk hl ht
   have h2:=tgapR_le (top:=top) (h L (by omega))
   omega
/-- Somebody compares clock k at location i with c ('up': from above, and the invariants). -/
def BaseOf (p:Pr) (up:Bool) (i k:Nat) (c:Int):Prop:=
 (up=true/\∃ y,p.locs[i]?=some y/\∃ x∈y.inv,x.k=(k:Int)+1/\x.c=c)\/∃ e∈p.egs,e.fr=(i:Int)/\∃ x∈e.gd,x.lo=!up/\x.k=(k:Int)+1/\x.c=c
/-- A table that holds all comparisons, and holds them back along the edges that do not reset. -/
structure Cld (p:Pr) (C:Nat) (up:Bool) (T:Nat->Nat->Int):Prop where
 lo:∀ i,i < p.locs.length->∀ k,k < C->-1<=T i k
 ba:∀ i,i < p.locs.length->∀ k,k < C->∀ c,BaseOf p up i k c->c<=T i k
 cl:∀ e∈p.egs,∀ i j:Nat,e.fr=(i:Int)->e.to=(j:Int)->i < p.locs.length->j < p.locs.length->∀ k,k < C->rstB e.rs ((k:Int)+1)=false->T j k<=T i k
/-- Below all such tables, and within bounds. -/
structure Low (p:Pr) (C:Nat) (up:Bool) (f:Nat->Nat->Int):Prop where
 lo:∀ i,i < p.locs.length->∀ k,k < C->-1<=f i k
 hi:∀ i,i < p.locs.length->∀ k,k < C->f i k<=1048576
 le:∀ T,Cld p C up T->∀ i,i < p.locs.length->∀ k,k < C->f i k<=T i k
structure Lst (p:Pr) (C:Nat) (up:Bool) (f:Nat->Nat->Int):Prop where
 low:Low p C up f
 cld:Cld p C up f
theorem Lst.uniq {p:Pr} {C:Nat} {up:Bool} {f g:Nat->Nat->Int} (hf:Lst p C up f) (hg:Lst p C up g) {i k:Nat} (hi:i < p.locs.length) (hk:k < C):f i k=g i k:=
 Int.le_antisymm (hf.low.le _ hg.cld i hi k hk) (hg.low.le _ hf.cld i hi k hk)
theorem Low.start (p:Pr) (C:Nat) (up:Bool):Low p C up (fun _ _=>-1):=⟨fun _ _ _ _=>Int.le_refl _,fun _ _ _ _=>by decide,fun T h i hi k hk=>h.lo i hi k hk⟩
theorem tset_ge (f:Nat->Nat->Int) (i k:Nat) (v:Int) (a b:Nat):f a b<=tset f i k (max (f i k) v) a b:=by
 unfold tset
 split
 ·rename_i h; rw [h.1,h.2]; omega
 ·exact Int.le_refl _
theorem tset_self (f:Nat->Nat->Int) (i k:Nat) (v:Int):v<=tset f i k (max (f i k) v) i k:=by
 unfold tset
 rw [if_pos ⟨rfl,rfl⟩]
 omega
theorem Low.raise {p:Pr} {C:Nat} {up:Bool} {f:Nat->Nat->Int} (h:Low p C up f) {i k:Nat} {v:Int} (hv:v<=1048576) (hT:∀ T,Cld p C up T->v<=T i k):Low p C up (tset f i k (max (f i k) v)):=by
 refine ⟨fun a ha b hb=>Int.le_trans (h.lo a ha b hb) (tset_ge _ _ _ _ _ _),fun a ha b hb=>?_,fun T hTc a ha b hb=>?_⟩
 ·unfold tset
  split
  ·rename_i hh
   rw [hh.1] at ha
   rw [hh.2] at hb
   have:=h.hi i ha k hb
   omega
  ·exact h.hi a ha b hb
 ·unfold tset
  split
  ·rename_i hh
   rw [hh.1] at ha
   rw [hh.2] at hb
   have h1:=h.le T hTc i ha k hb
   have h2:=hT T hTc
   rw [hh.1,hh.2]
   omega
  ·exact h.le T hTc a ha b hb
theorem Low.base {p:Pr} {C:Nat} {up:Bool} {f:Nat->Nat->Int} (h:Low p C up f) {i k:Nat} {c:Int} (hi:i < p.locs.length) (hk:k < C) (hc:c<=1048576) (hb:BaseOf p up i k c):Low p C up (tset f i k (max (f i k) c)):=
 h.raise hc fun _ hT=>hT.ba i hi k hk c hb
theorem Low.step {p:Pr} {C:Nat} {up:Bool} {f:Nat->Nat->Int} (h:Low p C up f) {e:Eg} {i j k:Nat} (he:e∈p.egs) (h1:e.fr=(i:Int)) (h2:e.to=(j:Int)) (hi:i < p.locs.length) (hj:j < p.locs.length) (hk:k < C) (hr:rstB e.rs ((k:Int)+1)=false):Low p C up (tset f i k (max (f i k) (f j k))):=
 h.raise (h.hi j hj k hk) fun T hT=>Int.le_trans (h.le T hT j hj k hk) (hT.cl e he i j h1 h2 hi hj k hk hr)
theorem Low.lst {p:Pr} {C:Nat} {up:Bool} {f:Nat->Nat->Int} (h:Low p C up f) (hb:∀ i,i < p.locs.length->∀ k,k < C->∀ c,BaseOf p up i k c->c<=f i k)
  (hc:∀ e∈p.egs,∀ i j:Nat,e.fr=(i:Int)->e.to=(j:Int)->i < p.locs.length->j < p.locs.length->∀ k,k < C->rstB e.rs ((k:Int)+1)=false->f j k<=f i k):Lst p C up f:=⟨h,h.lo,hb,hc⟩
end Abs
end
