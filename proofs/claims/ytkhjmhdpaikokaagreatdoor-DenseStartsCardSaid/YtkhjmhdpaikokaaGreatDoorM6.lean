/-
  Functions of the program walked: each is shown to compute a plain function (M6).
-/
import Derived.Test.YtkhjmhdpaikokaaGreatDoorM1
import Derived.Test.YtkhjmhdpaikokaaGreatDoorNB
set_option linter.unusedSimpArgs false
set_option linter.unusedVariables false
set_option maxRecDepth 100000
set_option maxHeartbeats 16000000
noncomputable section
namespace Abs
open Go Go.Proofs
theorem processRC {w:WD} {n:Nt} {v u:AVal} {p:Pr} (h:IsNt n v) (hs:NtS n) (hvl:n.vars.length<=1000000) (hcl:n.chans.length<=1000000) (hu:IsPr p u) (hll:p.locs.length<=1000000) (hel:p.egs.length<=1000000) (hpl:∀ y∈p.locs,y.inv.length<=1000000)
  (hpe:∀ y∈p.egs,y.ss.length<=1000000/\y.rs.length<=1000000) (hcd:∀ x∈p.egs,nodesE x.cd<=1000000/\∀ s∈x.ss,nodesE s.e<=1000000):
  GivesV (EE w) 69 [v,u] (.sc (.bool (prRB n p))):=by
 have hwf:=h.wf
 have hwu:=hu.wf
 have hCo:=fun (w:WD) (S:AVal) (l:List Cn) (hl:IsCns l S)=>consRC (w:=w) h hl
 have hK:=fun (w:WD) (k:Int)=>clockRC (w:=w) h k
 have hEd:=fun (w:WD) (x:Eg) (u:AVal) (hu:IsEg x u) (hm:x∈p.egs) (hch:x.ch < n.chans.length)=>edgeRC (w:=w) h hs hvl hu hch (hpe x hm).1 (hpe x hm).2 (hcd x hm).1 (hcd x hm).2
 obtain ⟨SV,SC,SF,SP,fels,rfl,icl,⟨hV,lv,hvo⟩,⟨hC,lc,hco⟩,hF,hFs,lf,hP⟩:=h
 obtain ⟨pels,hP1,hPl,hPat⟩:=hP.at'
 have kV:=hV.fit
 have cV:=hV.cells
 have iV:=hV.isCell
 have kC:=hC.fit
 have cC:=hC.cells
 have iC:=hC.isCell
 have kF:=hF.fit
 have cF:=hF.cells
 have iF:=hF.isCell
 have kP:=hP1.fit
 have cP:=hP1.cells
 have iP:=hP1.isCell
 have hVn:∀ σ:AStore,aLen (.slice 0) SV σ=some (.sc (.int .i64 (n.vars.length))):=fun σ=>by have:=hV.len (σ:=σ); rwa [List.length_map] at this
 have hCn:∀ σ:AStore,aLen (.slice 0) SC σ=some (.sc (.int .i64 (n.chans.length))):=fun σ=>by have:=hC.len (σ:=σ); rwa [List.length_map] at this
 obtain ⟨SL,SE,rfl,hL,hE,iini⟩:=hu
 obtain ⟨lels,hL1,hLl,hLat⟩:=hL.at'
 obtain ⟨eels,hE1,hEl,hEat⟩:=hE.at'
 have kL:=hL1.fit
 have cL:=hL1.cells
 have iL:=hL1.isCell
 have kE:=hE1.fit
 have cE:=hE1.cells
 have iE:=hE1.isCell
 have hLn:∀ σ:AStore,aLen (.slice 0) SL σ=some (.sc (.int .i64 (p.locs.length))):=fun σ=>hL1.lenN hLl
 have hEn:∀ σ:AStore,aLen (.slice 0) SE σ=some (.sc (.int .i64 (p.egs.length))):=fun σ=>hE1.lenN hEl
 have hB:prRB n p=(prR0 p && p.locs.all (lcRB n.clocks) && p.egs.all (egRB n p)):=rfl
 refine GivesV.of gWF (.cons _ _ hwf (.cons _ _ hwu .nil)) 1 ?_
 generalize hBB:prRB n p=BB at hB ⊢
 have bad0:prR0 p=false->false=BB:=fun h=>by rw [hB,h]; rfl
 have badL:∀ y∈p.locs,lcRB n.clocks y=false->false=BB:=fun y hy h=>by
  rw [hB,List.all_eq_false.2 ⟨y,hy,by simp [h]⟩]
  simp
 have badE:∀ y∈p.egs,egRB n p y=false->false=BB:=fun y hy h=>by
  rw [hB,List.all_eq_false.2 ⟨y,hy,by simp [h]⟩]
  simp
 refine of_69 rfl rfl rfl (by kernel_rfl) ?_
 simp -implicitDefEqProofs only [go_sem,kV,cV,iV,kC,cC,iC,kF,cF,iF,kP,cP,iP,kL,cL,iL,kE,cE,iE]
 have g0:((empty.alloc (.cells 5 [.agg [(.sc (.int .i64 (n.clocks))),SV,SC,SF,SP]])).alloc (.cells 3 [.agg [(.sc (.int .i64 (p.ini))),SL,SE]])).get 0=some (.cells 5 [.agg [(.sc (.int .i64 (n.clocks))),SV,SC,SF,SP]]):=by rw [AStore.get_alloc]; rfl
 have g1:((empty.alloc (.cells 5 [.agg [(.sc (.int .i64 (n.clocks))),SV,SC,SF,SP]])).alloc (.cells 3 [.agg [(.sc (.int .i64 (p.ini))),SL,SE]])).get 1=some (.cells 3 [.agg [(.sc (.int .i64 (p.ini))),SL,SE]]):=by rw [AStore.get_alloc]; rfl
 generalize (empty.alloc (.cells 5 [.agg [(.sc (.int .i64 (n.clocks))),SV,SC,SF,SP]])).alloc (.cells 3 [.agg [(.sc (.int .i64 (p.ini))),SL,SE]])=τ0 at g0 g1 ⊢
 simp -implicitDefEqProofs only [go_sem,g0,g1,kL,cL,iL,kE,cE,iE,hLn,hEn]
 (repeat' first|refine vw ?_ ?_<;>intro hq|refine vz ?_|simp -implicitDefEqProofs only [go_sem,g0,g1,kL,cL,iL,kE,cE,iE,hLn,hEn])
 all_goals (try (refine ret_bool (bad0 ?_); simp only [prR0,Bool.and_eq_false_iff,decide_eq_false_iff_not,decide_not,Bool.not_eq_false',decide_eq_true_eq]; omega))
 have h0:prR0 p=true:=by
  simp only [prR0,Bool.and_eq_true,decide_eq_true_eq,decide_not,Bool.not_eq_true',decide_eq_false_iff_not]
  omega
 rw [h0] at hB
 clear bad0
 refine vlp (ι:=Nat) (fun j=>[(2,.ptr 0 0 0),(3,.ptr 1 0 0),(5,(.sc (.int .i64 (j))))]) (fun j τ=>j<=p.locs.length/\τ.get 0=some (.cells 5 [.agg [(.sc (.int .i64 (n.clocks))),SV,SC,SF,SP]])/\τ.get 1=some (.cells 3 [.agg [(.sc (.int .i64 (p.ini))),SL,SE]])/\(p.locs.take j).all (lcRB n.clocks)=true) (fun j=>p.locs.length - j) (fun _=>rfl) 0 ?_ ?_ ?_
 ·exact vsu
 ·exact ⟨Nat.zero_le _,g0,g1,rfl⟩
 clear g0 g1
 rintro j τ ⟨hj,g0,g1,hall⟩
 by_cases hlt:j < p.locs.length
 ·have d0:decide ((j:Int) < (p.locs.length:Int))=true:=dct (by omega)
  obtain ⟨y,hy⟩:∃ y,p.locs[j]?=some y:=⟨p.locs[j]'(by omega),by simp⟩
  obtain ⟨ev,hev,hyv⟩:=hLat j y hy
  have hym:=List.mem_of_getElem? hy
  have bad:=badL y hym
  have hiy:=fun (σ:AStore)=>hL1.idx (σ:=σ) (k:=.i64) hev
  have hwj:=wrapS (i:=j) (by omega)
  have hat:=all_take1 (P:=lcRB n.clocks) hy
  have hil:=hpl y hym
  obtain ⟨S,rfl,hI,iy1,iy2⟩:=hyv
  have kS:=hI.1.fit
  have cS:=hI.1.cells
  have iS:=hI.1.isCell
  have hSn:∀ σ:AStore,aLen (.slice 0) S σ=some (.sc (.int .i64 (y.inv.length))):=fun σ=>by have:=hI.1.len (σ:=σ); rwa [List.length_map] at this
  have gx:∀ y z,((τ.alloc y).set τ.next z).get τ.next=some z:=fun y z=>by rw [AStore.get_set,if_pos ⟨rfl,by simp only [alloc_next]; omega⟩]
  have q0:=fun a b=>get_al (y:=a) (z:=b) g0
  have q1:=fun a b=>get_al (y:=a) (z:=b) g1
  simp -implicitDefEqProofs only [go_sem,g1,kL,cL,iL,kE,cE,iE,hLn,hEn,d0]
  (repeat' first|refine vw ?_ ?_<;>intro hq|refine vz ?_|simp -implicitDefEqProofs only [go_sem,g1,kL,cL,iL,kE,cE,iE,hLn,hEn,d0,hiy,kS,cS,iS,gx,q0,q1,kV,cV,iV,kC,cC,iC,kF,cF,iF,kP,cP,iP])
  all_goals (try (refine ret_bool (bad ?_); simp only [lcRB,Bool.and_eq_false_iff,decide_eq_false_iff_not]; omega))
  refine (hCo _ S y.inv hI).use ?_
  cases hc:(y.inv.all (ckB n.clocks) && decide (y.inv.length<=16)) with
  | false=>
   simp -implicitDefEqProofs only [go_sem]
   (repeat' first|refine vw ?_ ?_<;>intro hq|refine vz ?_|simp -implicitDefEqProofs only [go_sem])
   refine ret_bool (bad ?_)
   unfold lcRB
   rw [hc]
   simp
  | true=>
   simp -implicitDefEqProofs only [go_sem,gx,kS,cS,iS]
   (repeat' first|refine vw ?_ ?_<;>intro hq|refine vz ?_|simp -implicitDefEqProofs only [go_sem,gx,kS,cS,iS])
   all_goals (try (refine ret_bool (bad ?_); simp only [lcRB,Bool.and_eq_false_iff,decide_eq_false_iff_not]; omega))
   have hkr:(decide (0<=y.kind) && decide (y.kind<=2))=true/\(decide (0<=y.rate) && decide (y.rate<=1000))=true:=by
    simp only [Bool.and_eq_true,decide_eq_true_eq]
    omega
   have hlc:lcRB n.clocks y=y.inv.all upB:=by
    unfold lcRB
    rw [hkr.1,hc,hkr.2]
    rfl
   have q0':=q0 (.cells 3 [.agg [(.sc (.int .i64 (0))),(.sc (.slice none 0 0)),(.sc (.int .i64 (0)))]]) (.cells 3 [.agg [(.sc (.int .i64 (y.kind))),S,(.sc (.int .i64 (y.rate)))]])
   have q1':=q1 (.cells 3 [.agg [(.sc (.int .i64 (0))),(.sc (.slice none 0 0)),(.sc (.int .i64 (0)))]]) (.cells 3 [.agg [(.sc (.int .i64 (y.kind))),S,(.sc (.int .i64 (y.rate)))]])
   have gx':=gx (.cells 3 [.agg [(.sc (.int .i64 (0))),(.sc (.slice none 0 0)),(.sc (.int .i64 (0)))]]) (.cells 3 [.agg [(.sc (.int .i64 (y.kind))),S,(.sc (.int .i64 (y.rate)))]])
   generalize (τ.alloc (.cells 3 [.agg [(.sc (.int .i64 (0))),(.sc (.slice none 0 0)),(.sc (.int .i64 (0)))]])).set τ.next (.cells 3 [.agg [(.sc (.int .i64 (y.kind))),S,(.sc (.int .i64 (y.rate)))]])=τ1 at q0' q1' gx' ⊢
   refine vlp (ι:=Nat) (fun i=>[(2,.ptr 0 0 0),(3,.ptr 1 0 0),(5,(.sc (.int .i64 (j)))),(6,.ptr τ.next 0 0),(7,(.sc (.int .i64 (i))))]) (fun i σ=>i<=y.inv.length/\σ=τ1/\(y.inv.take i).all upB=true) (fun i=>y.inv.length - i) (fun _=>rfl) 0 ?_ ?_ ?_
   ·exact vsu
   ·exact ⟨Nat.zero_le _,rfl,rfl⟩
   clear g0 g1 gx q0 q1
   rintro i σ ⟨hi,rfl,hup⟩
   by_cases hli:i < y.inv.length
   ·have d1:decide ((i:Int) < (y.inv.length:Int))=true:=dct (by omega)
    obtain ⟨x,hx⟩:∃ x,y.inv[i]?=some x:=⟨y.inv[i]'(by omega),by simp⟩
    have hx':(y.inv.map cnA)[i]?=some (cnA x):=by rw [List.getElem?_map,hx]; rfl
    have hix:=fun (σ:AStore)=>hI.1.idx (σ:=σ) (k:=.i64) hx'
    have hw:=wrapS (i:=i) (by omega)
    have hat2:=all_take1 (P:=upB) hx
    have hU:=fun w:WD=>upperRC (w:=w) x
    simp -implicitDefEqProofs only [go_sem,gx',kS,cS,iS,hSn,d1]
    (repeat' first|refine vw ?_ ?_<;>intro hq|refine vz ?_|simp -implicitDefEqProofs only [go_sem,gx',kS,cS,iS,hSn,d1,hix,cnA])
    refine (hU _).use ?_
    cases hub:upB x with
    | false=>
     (repeat' first|refine vw ?_ ?_<;>intro hq|refine vz ?_|simp -implicitDefEqProofs only [go_sem])
     refine ret_bool (bad ?_)
     rw [hlc]
     exact List.all_eq_false.2 ⟨x,List.mem_of_getElem? hx,by simp [hub]⟩
    | true=>
     (repeat' first|refine vw ?_ ?_<;>intro hq|refine vz ?_|simp -implicitDefEqProofs only [go_sem,hw])
     refine ⟨i+1,vom,⟨vom,rfl,?_⟩,vsu⟩
     rw [hat2,hup,hub]
     rfl
   ·obtain rfl:i=y.inv.length:=by omega
    rw [List.take_length] at hup
    have d1:decide ((y.inv.length:Int) < (y.inv.length:Int))=false:=dcf (by omega)
    simp -implicitDefEqProofs only [go_sem,gx',kS,cS,iS,hSn,d1]
    (repeat' first|refine vw ?_ ?_<;>intro hq|refine vz ?_|simp -implicitDefEqProofs only [go_sem,gx',kS,cS,iS,hSn,d1,hwj])
    refine ⟨j+1,vom,⟨vom,q0',q1',?_⟩,vsu⟩
    rw [hat,hall,hlc,hup]
    rfl
 obtain rfl:j=p.locs.length:=by omega
 rw [List.take_length] at hall
 rw [hall] at hB
 have d0:decide ((p.locs.length:Int) < (p.locs.length:Int))=false:=dcf (by omega)
 simp -implicitDefEqProofs only [go_sem,g1,kL,cL,iL,kE,cE,iE,hLn,hEn,d0]
 (repeat' first|refine vw ?_ ?_<;>intro hq|refine vz ?_|simp -implicitDefEqProofs only [go_sem,g1,kL,cL,iL,kE,cE,iE,hLn,hEn,d0])
 refine vlp (ι:=Nat) (fun j=>[(2,.ptr 0 0 0),(3,.ptr 1 0 0),(8,(.sc (.int .i64 (j))))]) (fun j τ=>j<=p.egs.length/\τ.get 0=some (.cells 5 [.agg [(.sc (.int .i64 (n.clocks))),SV,SC,SF,SP]])/\τ.get 1=some (.cells 3 [.agg [(.sc (.int .i64 (p.ini))),SL,SE]])/\(p.egs.take j).all (egRB n p)=true) (fun j=>p.egs.length - j) (fun _=>rfl) 0 ?_ ?_ ?_
 ·exact vsu
 ·exact ⟨Nat.zero_le _,g0,g1,rfl⟩
 clear g0 g1 badL hall
 rintro j τ ⟨hj,g0,g1,hall⟩
 by_cases hlt:j < p.egs.length
 ·have d0:decide ((j:Int) < (p.egs.length:Int))=true:=dct (by omega)
  obtain ⟨y,hy⟩:∃ y,p.egs[j]?=some y:=⟨p.egs[j]'(by omega),by simp⟩
  obtain ⟨ey,hey,hyv⟩:=hEat j y hy
  have hym:=List.mem_of_getElem? hy
  have bad:=badE y hym
  have hiy:=fun (σ:AStore)=>hE1.idx (σ:=σ) (k:=.i64) hey
  have hwj:=wrapS (i:=j) (by omega)
  have hat:=all_take1 (P:=egRB n p) hy
  obtain ⟨hsl,hrl⟩:=hpe y hym
  obtain ⟨hxb,hsb⟩:=hcd y hym
  have hyv0:=hyv
  obtain ⟨G,a,a2,a3,a4,SS,SR,rfl,hG,hEx,hSs,hR,i1,i2,i3,i4,i5⟩:=hyv
  have kG:=hG.1.fit
  have cG:=hG.1.cells
  have iG:=hG.1.isCell
  obtain ⟨sels,hS1,hSl,hSat⟩:=hSs.at'
  have kSS:=hS1.fit
  have cSS:=hS1.cells
  have iSS:=hS1.isCell
  have kR:=hR.1.fit
  have cR:=hR.1.cells
  have iR:=hR.1.isCell
  have hRn:∀ σ:AStore,aLen (.slice 0) SR σ=some (.sc (.int .i64 (y.rs.length))):=fun σ=>by have:=hR.1.len (σ:=σ); rwa [List.length_map] at this
  have hSn:∀ σ:AStore,aLen (.slice 0) SS σ=some (.sc (.int .i64 (y.ss.length))):=fun σ=>hS1.lenN hSl
  have hNo:=fun w:WD=>noneRC (w:=w) hEx
  have hSm:=fun w:WD=>sma12RC (w:=w) hEx (by omega)
  obtain ⟨kk,nn,ii,rfl,rfl,rfl,kX,cX,iX⟩:∃ (kk:Int) (nn:ByteArray) (ii:Int),a=(.sc (.int .i64 (kk)))/\a2=.sc (.string nn)/\a3=(.sc (.int .i64 (ii)))/\a4.fit=true/\a4.cells=[a4]/\a4.isCell=true:=by
   generalize y.cd=cd at hEx
   obtain ⟨k,nm,i,l⟩:=cd
   simp only [IsEx] at hEx
   obtain ⟨S,els,he,hS,_⟩:=hEx
   simp only [AVal.agg.injEq,List.cons.injEq,and_true] at he
   obtain ⟨rfl,rfl,rfl,rfl⟩:=he
   exact ⟨_,_,_,rfl,rfl,rfl,hS.fit,hS.cells,hS.isCell⟩
  have gx:∀ y z,((τ.alloc y).set τ.next z).get τ.next=some z:=fun y z=>by rw [AStore.get_set,if_pos ⟨rfl,by simp only [alloc_next]; omega⟩]
  have q0:=fun a b=>get_al (y:=a) (z:=b) g0
  have q1:=fun a b=>get_al (y:=a) (z:=b) g1
  simp -implicitDefEqProofs only [go_sem,g1,kL,cL,iL,kE,cE,iE,hLn,hEn,d0]
  (repeat' first|refine vw ?_ ?_<;>intro hq|refine vz ?_|simp -implicitDefEqProofs only [go_sem,g1,hiy,d0,gx,q0,q1,kL,cL,iL,kE,cE,iE,kG,cG,iG,kX,cX,iX,kSS,cSS,iSS,kR,cR,iR,kV,cV,iV,kC,cC,iC,kF,cF,iF,kP,cP,iP,hLn,hEn,hCn,hSn,hRn])
  simp only [la_cons,la_nil]
  by_cases he1:y.fr < 0
  ·have e1:=dct he1
   simp -implicitDefEqProofs only [go_sem,gx,q0,q1,kL,cL,iL,kE,cE,iE,kG,cG,iG,kX,cX,iX,kSS,cSS,iSS,kR,cR,iR,kV,cV,iV,kC,cC,iC,kF,cF,iF,kP,cP,iP,hLn,hEn,hCn,hSn,hRn,e1]
   (try (repeat' first|refine vw ?_ ?_<;>intro hq|refine vz ?_|simp -implicitDefEqProofs only [go_sem,gx,q0,q1,kL,cL,iL,kE,cE,iE,kG,cG,iG,kX,cX,iX,kSS,cSS,iSS,kR,cR,iR,kV,cV,iV,kC,cC,iC,kF,cF,iF,kP,cP,iP,hLn,hEn,hCn,hSn,hRn,e1]))
   refine ret_bool (bad ?_)
   simp only [egRB,Bool.and_eq_false_iff,decide_eq_false_iff_not]
   omega
  have e1:=dcf he1
  by_cases he2:(p.locs.length:Int)<=y.fr
  ·have e2:=dct he2
   simp -implicitDefEqProofs only [go_sem,gx,q0,q1,kL,cL,iL,kE,cE,iE,kG,cG,iG,kX,cX,iX,kSS,cSS,iSS,kR,cR,iR,kV,cV,iV,kC,cC,iC,kF,cF,iF,kP,cP,iP,hLn,hEn,hCn,hSn,hRn,e1,e2]
   (try (repeat' first|refine vw ?_ ?_<;>intro hq|refine vz ?_|simp -implicitDefEqProofs only [go_sem,gx,q0,q1,kL,cL,iL,kE,cE,iE,kG,cG,iG,kX,cX,iX,kSS,cSS,iSS,kR,cR,iR,kV,cV,iV,kC,cC,iC,kF,cF,iF,kP,cP,iP,hLn,hEn,hCn,hSn,hRn,e1,e2]))
   refine ret_bool (bad ?_)
   simp only [egRB,Bool.and_eq_false_iff,decide_eq_false_iff_not]
   omega
  have e2:=dcf he2
  by_cases he3:y.to < 0
  ·have e3:=dct he3
   simp -implicitDefEqProofs only [go_sem,gx,q0,q1,kL,cL,iL,kE,cE,iE,kG,cG,iG,kX,cX,iX,kSS,cSS,iSS,kR,cR,iR,kV,cV,iV,kC,cC,iC,kF,cF,iF,kP,cP,iP,hLn,hEn,hCn,hSn,hRn,e1,e2,e3]
   (try (repeat' first|refine vw ?_ ?_<;>intro hq|refine vz ?_|simp -implicitDefEqProofs only [go_sem,gx,q0,q1,kL,cL,iL,kE,cE,iE,kG,cG,iG,kX,cX,iX,kSS,cSS,iSS,kR,cR,iR,kV,cV,iV,kC,cC,iC,kF,cF,iF,kP,cP,iP,hLn,hEn,hCn,hSn,hRn,e1,e2,e3]))
   refine ret_bool (bad ?_)
   simp only [egRB,Bool.and_eq_false_iff,decide_eq_false_iff_not]
   omega
  have e3:=dcf he3
  by_cases he4:(p.locs.length:Int)<=y.to
  ·have e4:=dct he4
   simp -implicitDefEqProofs only [go_sem,gx,q0,q1,kL,cL,iL,kE,cE,iE,kG,cG,iG,kX,cX,iX,kSS,cSS,iSS,kR,cR,iR,kV,cV,iV,kC,cC,iC,kF,cF,iF,kP,cP,iP,hLn,hEn,hCn,hSn,hRn,e1,e2,e3,e4]
   (try (repeat' first|refine vw ?_ ?_<;>intro hq|refine vz ?_|simp -implicitDefEqProofs only [go_sem,gx,q0,q1,kL,cL,iL,kE,cE,iE,kG,cG,iG,kX,cX,iX,kSS,cSS,iSS,kR,cR,iR,kV,cV,iV,kC,cC,iC,kF,cF,iF,kP,cP,iP,hLn,hEn,hCn,hSn,hRn,e1,e2,e3,e4]))
   refine ret_bool (bad ?_)
   simp only [egRB,Bool.and_eq_false_iff,decide_eq_false_iff_not]
   omega
  have e4:=dcf he4
  simp -implicitDefEqProofs only [go_sem,gx,q0,q1,kL,cL,iL,kE,cE,iE,kG,cG,iG,kX,cX,iX,kSS,cSS,iSS,kR,cR,iR,kV,cV,iV,kC,cC,iC,kF,cF,iF,kP,cP,iP,hLn,hEn,hCn,hSn,hRn,e1,e2,e3,e4]
  refine (hCo _ G y.gd hG).use ?_
  cases hc:(y.gd.all (ckB n.clocks) && decide (y.gd.length<=16)) with
  | false=>
   simp -implicitDefEqProofs only [go_sem]
   (try (repeat' first|refine vw ?_ ?_<;>intro hq|refine vz ?_|simp -implicitDefEqProofs only [go_sem]))
   refine ret_bool (bad ?_)
   unfold egRB
   rw [hc]
   simp
  | true=>
  by_cases he5:y.ch < -1
  ·have e5:=dct he5
   simp -implicitDefEqProofs only [go_sem,gx,q0,q1,kL,cL,iL,kE,cE,iE,kG,cG,iG,kX,cX,iX,kSS,cSS,iSS,kR,cR,iR,kV,cV,iV,kC,cC,iC,kF,cF,iF,kP,cP,iP,hLn,hEn,hCn,hSn,hRn,e5]
   (try (repeat' first|refine vw ?_ ?_<;>intro hq|refine vz ?_|simp -implicitDefEqProofs only [go_sem,gx,q0,q1,kL,cL,iL,kE,cE,iE,kG,cG,iG,kX,cX,iX,kSS,cSS,iSS,kR,cR,iR,kV,cV,iV,kC,cC,iC,kF,cF,iF,kP,cP,iP,hLn,hEn,hCn,hSn,hRn,e5]))
   refine ret_bool (bad ?_)
   simp only [egRB,Bool.and_eq_false_iff,decide_eq_false_iff_not]
   omega
  have e5:=dcf he5
  by_cases he6:(n.chans.length:Int)<=y.ch
  ·have e6:=dct he6
   simp -implicitDefEqProofs only [go_sem,gx,q0,q1,kL,cL,iL,kE,cE,iE,kG,cG,iG,kX,cX,iX,kSS,cSS,iSS,kR,cR,iR,kV,cV,iV,kC,cC,iC,kF,cF,iF,kP,cP,iP,hLn,hEn,hCn,hSn,hRn,e5,e6]
   (try (repeat' first|refine vw ?_ ?_<;>intro hq|refine vz ?_|simp -implicitDefEqProofs only [go_sem,gx,q0,q1,kL,cL,iL,kE,cE,iE,kG,cG,iG,kX,cX,iX,kSS,cSS,iSS,kR,cR,iR,kV,cV,iV,kC,cC,iC,kF,cF,iF,kP,cP,iP,hLn,hEn,hCn,hSn,hRn,e5,e6]))
   refine ret_bool (bad ?_)
   simp only [egRB,Bool.and_eq_false_iff,decide_eq_false_iff_not]
   omega
  have e6:=dcf he6
  by_cases he7:y.ch < 0/\y.snd=true
  ·have e7:=dct he7.1
   have e7':=he7.2
   simp -implicitDefEqProofs only [go_sem,gx,q0,q1,kL,cL,iL,kE,cE,iE,kG,cG,iG,kX,cX,iX,kSS,cSS,iSS,kR,cR,iR,kV,cV,iV,kC,cC,iC,kF,cF,iF,kP,cP,iP,hLn,hEn,hCn,hSn,hRn,e5,e6,e7,e7']
   (try (repeat' first|refine vw ?_ ?_<;>intro hq|refine vz ?_|simp -implicitDefEqProofs only [go_sem,gx,q0,q1,kL,cL,iL,kE,cE,iE,kG,cG,iG,kX,cX,iX,kSS,cSS,iSS,kR,cR,iR,kV,cV,iV,kC,cC,iC,kF,cF,iF,kP,cP,iP,hLn,hEn,hCn,hSn,hRn,e5,e6,e7,e7']))
   refine ret_bool (bad ?_)
   unfold egRB
   rw [e7,e7']
   simp
  apply Z_join (ι:=Unit) (fun _=>[(2,.ptr 0 0 0),(3,.ptr 1 0 0),(8,(.sc (.int .i64 (j)))),(9,.ptr τ.next 0 0),(10,(.sc (.int .i64 (0))))]) (fun _ σ=>σ.get 0=some (.cells 5 [.agg [(.sc (.int .i64 (n.clocks))),SV,SC,SF,SP]])/\σ.get 1=some (.cells 3 [.agg [(.sc (.int .i64 (p.ini))),SL,SE]])/\σ.get τ.next=some (.cells 13 [.agg [(.sc (.int .i64 (y.fr))),(.sc (.int .i64 (y.to))),G,(.sc (.int .i64 (kk))),.sc (.string nn),(.sc (.int .i64 (ii))),a4,(.sc (.int .i64 (y.ch))),(.sc (.bool (y.snd))),SS,SR,(.sc (.int .i64 (y.cost))),(.sc (.int .i64 (y.kind)))]])/\(y.ss.length<=16/\y.rs.length<=16)/\(noE y.cd || decide (checkE nameB y.cd=0))=true) (fun _=>rfl)
  ·intro J
   have hall7:(decide (y.ch < 0)=true/\y.snd=false)\/(decide (y.ch < 0)=false/\y.snd=y.snd):=by
    by_cases h7:y.ch < 0
    ·exact .inl ⟨dct h7,by cases hs:y.snd with|false=>rfl|true=>exact absurd ⟨h7,hs⟩ he7⟩
    ·exact .inr ⟨dcf h7,rfl⟩
   have q0':=q0 (.cells 13 [.agg [(.sc (.int .i64 (0))),(.sc (.int .i64 (0))),(.sc (.slice none 0 0)),(.sc (.int .i64 (0))),.sc (.string ⟨#[]⟩),(.sc (.int .i64 (0))),(.sc (.slice none 0 0)),(.sc (.int .i64 (0))),(.sc (.bool (false))),(.sc (.slice none 0 0)),(.sc (.slice none 0 0)),(.sc (.int .i64 (0))),(.sc (.int .i64 (0)))]]) (.cells 13 [.agg [(.sc (.int .i64 (y.fr))),(.sc (.int .i64 (y.to))),G,(.sc (.int .i64 (kk))),.sc (.string nn),(.sc (.int .i64 (ii))),a4,(.sc (.int .i64 (y.ch))),(.sc (.bool (y.snd))),SS,SR,(.sc (.int .i64 (y.cost))),(.sc (.int .i64 (y.kind)))]])
   have q1':=q1 (.cells 13 [.agg [(.sc (.int .i64 (0))),(.sc (.int .i64 (0))),(.sc (.slice none 0 0)),(.sc (.int .i64 (0))),.sc (.string ⟨#[]⟩),(.sc (.int .i64 (0))),(.sc (.slice none 0 0)),(.sc (.int .i64 (0))),(.sc (.bool (false))),(.sc (.slice none 0 0)),(.sc (.slice none 0 0)),(.sc (.int .i64 (0))),(.sc (.int .i64 (0)))]]) (.cells 13 [.agg [(.sc (.int .i64 (y.fr))),(.sc (.int .i64 (y.to))),G,(.sc (.int .i64 (kk))),.sc (.string nn),(.sc (.int .i64 (ii))),a4,(.sc (.int .i64 (y.ch))),(.sc (.bool (y.snd))),SS,SR,(.sc (.int .i64 (y.cost))),(.sc (.int .i64 (y.kind)))]])
   have gx':=gx (.cells 13 [.agg [(.sc (.int .i64 (0))),(.sc (.int .i64 (0))),(.sc (.slice none 0 0)),(.sc (.int .i64 (0))),.sc (.string ⟨#[]⟩),(.sc (.int .i64 (0))),(.sc (.slice none 0 0)),(.sc (.int .i64 (0))),(.sc (.bool (false))),(.sc (.slice none 0 0)),(.sc (.slice none 0 0)),(.sc (.int .i64 (0))),(.sc (.int .i64 (0)))]]) (.cells 13 [.agg [(.sc (.int .i64 (y.fr))),(.sc (.int .i64 (y.to))),G,(.sc (.int .i64 (kk))),.sc (.string nn),(.sc (.int .i64 (ii))),a4,(.sc (.int .i64 (y.ch))),(.sc (.bool (y.snd))),SS,SR,(.sc (.int .i64 (y.cost))),(.sc (.int .i64 (y.kind)))]])
   rcases hall7 with ⟨e7,hs7⟩|⟨e7,hs7⟩
   ·rw [hs7] at gx' J q0' q1'
    by_cases he8:(16:Int) < (y.ss.length:Int)
    ·have e8:=dct he8
     simp -implicitDefEqProofs only [go_sem,gx,q0,q1,kL,cL,iL,kE,cE,iE,kG,cG,iG,kX,cX,iX,kSS,cSS,iSS,kR,cR,iR,kV,cV,iV,kC,cC,iC,kF,cF,iF,kP,cP,iP,hLn,hEn,hCn,hSn,hRn,e5,e6,e7,hs7,e8]
     (try (repeat' first|refine vw ?_ ?_<;>intro hq|refine vz ?_|simp -implicitDefEqProofs only [go_sem,gx,q0,q1,kL,cL,iL,kE,cE,iE,kG,cG,iG,kX,cX,iX,kSS,cSS,iSS,kR,cR,iR,kV,cV,iV,kC,cC,iC,kF,cF,iF,kP,cP,iP,hLn,hEn,hCn,hSn,hRn,e5,e6,e7,hs7,e8]))
     refine ret_bool (bad ?_)
     simp only [egRB,Bool.and_eq_false_iff,decide_eq_false_iff_not]
     omega
    have e8:=dcf he8
    by_cases he9:(16:Int) < (y.rs.length:Int)
    ·have e9:=dct he9
     simp -implicitDefEqProofs only [go_sem,gx,q0,q1,kL,cL,iL,kE,cE,iE,kG,cG,iG,kX,cX,iX,kSS,cSS,iSS,kR,cR,iR,kV,cV,iV,kC,cC,iC,kF,cF,iF,kP,cP,iP,hLn,hEn,hCn,hSn,hRn,e5,e6,e7,hs7,e8,e9]
     (try (repeat' first|refine vw ?_ ?_<;>intro hq|refine vz ?_|simp -implicitDefEqProofs only [go_sem,gx,q0,q1,kL,cL,iL,kE,cE,iE,kG,cG,iG,kX,cX,iX,kSS,cSS,iSS,kR,cR,iR,kV,cV,iV,kC,cC,iC,kF,cF,iF,kP,cP,iP,hLn,hEn,hCn,hSn,hRn,e5,e6,e7,hs7,e8,e9]))
     refine ret_bool (bad ?_)
     simp only [egRB,Bool.and_eq_false_iff,decide_eq_false_iff_not]
     omega
    have e9:=dcf he9
    simp -implicitDefEqProofs only [go_sem,gx,q0,q1,kL,cL,iL,kE,cE,iE,kG,cG,iG,kX,cX,iX,kSS,cSS,iSS,kR,cR,iR,kV,cV,iV,kC,cC,iC,kF,cF,iF,kP,cP,iP,hLn,hEn,hCn,hSn,hRn,e5,e6,e7,hs7,e8,e9]
    refine (hNo _).use ?_
    cases hno:noE y.cd with
    | true=>
     simp -implicitDefEqProofs only [go_sem]
     refine vzf ?_
     simp -implicitDefEqProofs only [go_sem]
     refine J () _ _ ⟨q0',q1',gx',⟨by omega,by omega⟩,by rw [hno]; rfl⟩ vsu
    | false=>
     simp -implicitDefEqProofs only [go_sem,gx,q0,q1,kL,cL,iL,kE,cE,iE,kG,cG,iG,kX,cX,iX,kSS,cSS,iSS,kR,cR,iR,kV,cV,iV,kC,cC,iC,kF,cF,iF,kP,cP,iP,hLn,hEn,hCn,hSn,hRn]
     refine (hSm _).use ?_
     by_cases hck:checkE nameB y.cd=0
     ·have e10:=dct hck
      simp -implicitDefEqProofs only [go_sem,e10]
      refine vzf ?_
      simp -implicitDefEqProofs only [go_sem]
      refine J () _ _ ⟨q0',q1',gx',⟨by omega,by omega⟩,by rw [hno,e10]; rfl⟩ vsu
     ·have e10:=dcf hck
      simp -implicitDefEqProofs only [go_sem,e10]
      (try (repeat' first|refine vw ?_ ?_<;>intro hq|refine vz ?_|simp -implicitDefEqProofs only [go_sem,e10]))
      refine ret_bool (bad ?_)
      unfold egRB
      rw [hno,e10]
      simp
   ·clear hs7
    by_cases he8:(16:Int) < (y.ss.length:Int)
    ·have e8:=dct he8
     simp -implicitDefEqProofs only [go_sem,gx,q0,q1,kL,cL,iL,kE,cE,iE,kG,cG,iG,kX,cX,iX,kSS,cSS,iSS,kR,cR,iR,kV,cV,iV,kC,cC,iC,kF,cF,iF,kP,cP,iP,hLn,hEn,hCn,hSn,hRn,e5,e6,e7,e8]
     (try (repeat' first|refine vw ?_ ?_<;>intro hq|refine vz ?_|simp -implicitDefEqProofs only [go_sem,gx,q0,q1,kL,cL,iL,kE,cE,iE,kG,cG,iG,kX,cX,iX,kSS,cSS,iSS,kR,cR,iR,kV,cV,iV,kC,cC,iC,kF,cF,iF,kP,cP,iP,hLn,hEn,hCn,hSn,hRn,e5,e6,e7,e8]))
     refine ret_bool (bad ?_)
     simp only [egRB,Bool.and_eq_false_iff,decide_eq_false_iff_not]
     omega
    have e8:=dcf he8
    by_cases he9:(16:Int) < (y.rs.length:Int)
    ·have e9:=dct he9
     simp -implicitDefEqProofs only [go_sem,gx,q0,q1,kL,cL,iL,kE,cE,iE,kG,cG,iG,kX,cX,iX,kSS,cSS,iSS,kR,cR,iR,kV,cV,iV,kC,cC,iC,kF,cF,iF,kP,cP,iP,hLn,hEn,hCn,hSn,hRn,e5,e6,e7,e8,e9]
     (try (repeat' first|refine vw ?_ ?_<;>intro hq|refine vz ?_|simp -implicitDefEqProofs only [go_sem,gx,q0,q1,kL,cL,iL,kE,cE,iE,kG,cG,iG,kX,cX,iX,kSS,cSS,iSS,kR,cR,iR,kV,cV,iV,kC,cC,iC,kF,cF,iF,kP,cP,iP,hLn,hEn,hCn,hSn,hRn,e5,e6,e7,e8,e9]))
     refine ret_bool (bad ?_)
     simp only [egRB,Bool.and_eq_false_iff,decide_eq_false_iff_not]
     omega
    have e9:=dcf he9
    simp -implicitDefEqProofs only [go_sem,gx,q0,q1,kL,cL,iL,kE,cE,iE,kG,cG,iG,kX,cX,iX,kSS,cSS,iSS,kR,cR,iR,kV,cV,iV,kC,cC,iC,kF,cF,iF,kP,cP,iP,hLn,hEn,hCn,hSn,hRn,e5,e6,e7,e8,e9]
    refine (hNo _).use ?_
    cases hno:noE y.cd with
    | true=>
     simp -implicitDefEqProofs only [go_sem]
     refine vzf ?_
     simp -implicitDefEqProofs only [go_sem]
     refine J () _ _ ⟨q0',q1',gx',⟨by omega,by omega⟩,by rw [hno]; rfl⟩ vsu
    | false=>
     simp -implicitDefEqProofs only [go_sem,gx,q0,q1,kL,cL,iL,kE,cE,iE,kG,cG,iG,kX,cX,iX,kSS,cSS,iSS,kR,cR,iR,kV,cV,iV,kC,cC,iC,kF,cF,iF,kP,cP,iP,hLn,hEn,hCn,hSn,hRn]
     refine (hSm _).use ?_
     by_cases hck:checkE nameB y.cd=0
     ·have e10:=dct hck
      simp -implicitDefEqProofs only [go_sem,e10]
      refine vzf ?_
      simp -implicitDefEqProofs only [go_sem]
      refine J () _ _ ⟨q0',q1',gx',⟨by omega,by omega⟩,by rw [hno,e10]; rfl⟩ vsu
     ·have e10:=dcf hck
      simp -implicitDefEqProofs only [go_sem,e10]
      (try (repeat' first|refine vw ?_ ?_<;>intro hq|refine vz ?_|simp -implicitDefEqProofs only [go_sem,e10]))
      refine ret_bool (bad ?_)
      unfold egRB
      rw [hno,e10]
      simp
  ·rintro _ σ1 ⟨q0',q1',gx',⟨hs16,hr16⟩,hcd⟩
   refine vlp (ι:=Nat) (fun i=>[(2,.ptr 0 0 0),(3,.ptr 1 0 0),(8,(.sc (.int .i64 (j)))),(9,.ptr τ.next 0 0),(10,(.sc (.int .i64 (i))))]) (fun i σ=>i<=y.ss.length/\σ=σ1/\(y.ss.take i).all (svB n)=true) (fun i=>y.ss.length - i) (fun _=>rfl) 0 ?_ ?_ ?_
   ·exact vsu
   ·exact ⟨Nat.zero_le _,rfl,rfl⟩
   rintro i σ ⟨hi,rfl,hsv⟩
   by_cases hli:i < y.ss.length
   ·have d1:decide ((i:Int) < (y.ss.length:Int))=true:=dct (by omega)
    obtain ⟨x,hx⟩:∃ x,y.ss[i]?=some x:=⟨y.ss[i]'(by omega),by simp⟩
    obtain ⟨ex,hex,a9,rfl,hxe,hxi⟩:=hSat i x hx
    have hix:=fun (σ:AStore)=>hS1.idx (σ:=σ) (k:=.i64) hex
    have hw:=wrapS (i:=i) (by omega)
    have hat2:=all_take1 (P:=svB n) hx
    have hbad2:svB n x=false->egRB n p y=false:=fun h=>by
     unfold egRB
     rw [List.all_eq_false.2 ⟨x,List.mem_of_getElem? hx,by simp [h]⟩]
     simp
    have g9x:AVal.cells (.agg ((.sc (.int .i64 (x.v)))::a9))=(.sc (.int .i64 (x.v)))::a9:=rfl
    simp -implicitDefEqProofs only [go_sem,gx',q0',q1',kG,cG,iG,kX,cX,iX,kSS,cSS,iSS,kR,cR,iR,kV,cV,iV,kC,cC,iC,kF,cF,iF,kP,cP,iP,hSn,d1]
    (repeat' first|refine vw ?_ ?_<;>intro hq|refine vz ?_|simp -implicitDefEqProofs only [go_sem,gx',q0',q1',kG,cG,iG,kX,cX,iX,kSS,cSS,iSS,kR,cR,iR,kV,cV,iV,kC,cC,iC,kF,cF,iF,kP,cP,iP,hSn,d1])
    by_cases h1:x.v < 0
    ·have d2:=dct h1
     ((try (refine Z_seq ?_; (try simp -implicitDefEqProofs only [go_sem]))); refine Z_draw (by kernel_rfl) [0,1,2,3,4,5,6,7,8,9,10,11,12,13,14,15,16,17,18] [(18,262143),(17,131071),(16,49407),(15,16639),(14,255),(13,8191),(12,4095),(11,2047),(10,255),(9,511),(8,255),(7,127),(6,63),(5,31),(4,15),(3,7),(2,0),(1,1),(0,0)] (by kernel_rfl) (by kernel_rfl) ?_)
     simp -implicitDefEqProofs only [go_sem,gx',q0',q1',kG,cG,iG,kX,cX,iX,kSS,cSS,iSS,kR,cR,iR,kV,cV,iV,kC,cC,iC,kF,cF,iF,kP,cP,iP,hSn,hVn,hix,d2]
     (try (repeat' first|refine vw ?_ ?_<;>intro hq|refine vz ?_|simp -implicitDefEqProofs only [go_sem,gx',q0',q1',kG,cG,iG,kX,cX,iX,kSS,cSS,iSS,kR,cR,iR,kV,cV,iV,kC,cC,iC,kF,cF,iF,kP,cP,iP,hSn,hVn,hix,d2]))
     refine ret_bool (bad (hbad2 ?_))
     simp only [svB,Bool.and_eq_false_iff,decide_eq_false_iff_not]
     omega
    have d2:=dcf h1
    by_cases h2:(n.vars.length:Int)<=x.v
    ·have d3:=dct h2
     ((try (refine Z_seq ?_; (try simp -implicitDefEqProofs only [go_sem]))); refine Z_draw (by kernel_rfl) [0,1,2,3,4,5,6,7,8,9,10,11,12,13,14,15,16,17,18] [(18,262143),(17,131071),(16,49407),(15,16639),(14,255),(13,8191),(12,4095),(11,2047),(10,255),(9,511),(8,255),(7,127),(6,63),(5,31),(4,15),(3,7),(2,0),(1,1),(0,0)] (by kernel_rfl) (by kernel_rfl) ?_)
     simp -implicitDefEqProofs only [go_sem,gx',q0',q1',kG,cG,iG,kX,cX,iX,kSS,cSS,iSS,kR,cR,iR,kV,cV,iV,kC,cC,iC,kF,cF,iF,kP,cP,iP,hSn,hVn,hix,d2,d3]
     (try (repeat' first|refine vw ?_ ?_<;>intro hq|refine vz ?_|simp -implicitDefEqProofs only [go_sem,gx',q0',q1',kG,cG,iG,kX,cX,iX,kSS,cSS,iSS,kR,cR,iR,kV,cV,iV,kC,cC,iC,kF,cF,iF,kP,cP,iP,hSn,hVn,hix,d2,d3]))
     refine ret_bool (bad (hbad2 ?_))
     simp only [svB,Bool.and_eq_false_iff,decide_eq_false_iff_not]
     omega
    have d3:=dcf h2
    ((try (refine Z_seq ?_; (try simp -implicitDefEqProofs only [go_sem]))); refine Z_draw (by kernel_rfl) [0,1,2,3,4,5,6,7,8,9,10,11,12,13,14,15,16,17,18] [(18,262143),(17,131071),(16,49407),(15,16639),(14,255),(13,8191),(12,4095),(11,2047),(10,255),(9,511),(8,255),(7,127),(6,63),(5,31),(4,15),(3,7),(2,0),(1,1),(0,0)] (by kernel_rfl) (by kernel_rfl) ?_)
    simp -implicitDefEqProofs only [go_sem,gx',q0',q1',kG,cG,iG,kX,cX,iX,kSS,cSS,iSS,kR,cR,iR,kV,cV,iV,kC,cC,iC,kF,cF,iF,kP,cP,iP,hSn,hVn,hix,d2,d3]
    (try (repeat' first|refine vw ?_ ?_<;>intro hq|refine vz ?_|simp -implicitDefEqProofs only [go_sem,gx',q0',q1',kG,cG,iG,kX,cX,iX,kSS,cSS,iSS,kR,cR,iR,kV,cV,iV,kC,cC,iC,kF,cF,iF,kP,cP,iP,hSn,hVn,hix,d2,d3,hw]))
    refine ⟨i+1,vom,⟨vom,rfl,?_⟩,vsu⟩
    rw [hat2,hsv]
    simp only [svB,Bool.true_and,Bool.and_eq_true,decide_eq_true_eq]
    omega
   obtain rfl:i=y.ss.length:=by omega
   rw [List.take_length] at hsv
   have d1:decide ((y.ss.length:Int) < (y.ss.length:Int))=false:=dcf (by omega)
   simp -implicitDefEqProofs only [go_sem,gx',q0',q1',kG,cG,iG,kX,cX,iX,kSS,cSS,iSS,kR,cR,iR,kV,cV,iV,kC,cC,iC,kF,cF,iF,kP,cP,iP,hSn,d1]
   (repeat' first|refine vw ?_ ?_<;>intro hq|refine vz ?_|simp -implicitDefEqProofs only [go_sem,gx',q0',q1',kG,cG,iG,kX,cX,iX,kSS,cSS,iSS,kR,cR,iR,kV,cV,iV,kC,cC,iC,kF,cF,iF,kP,cP,iP,hSn,d1])
   refine vlp (ι:=Nat) (fun i=>[(2,.ptr 0 0 0),(3,.ptr 1 0 0),(8,(.sc (.int .i64 (j)))),(9,.ptr τ.next 0 0),(11,(.sc (.int .i64 (i))))]) (fun i s=>i<=y.rs.length/\s=σ/\(y.rs.take i).all (rkB n.clocks)=true) (fun i=>y.rs.length - i) (fun _=>rfl) 0 ?_ ?_ ?_
   ·exact vsu
   ·exact ⟨Nat.zero_le _,rfl,rfl⟩
   rintro i σ1 ⟨hi,rfl,hrk⟩
   by_cases hli:i < y.rs.length
   ·have d1:decide ((i:Int) < (y.rs.length:Int))=true:=dct (by omega)
    obtain ⟨x,hx⟩:∃ x,y.rs[i]?=some x:=⟨y.rs[i]'(by omega),by simp⟩
    have hx':(y.rs.map rtA)[i]?=some (rtA x):=by rw [List.getElem?_map,hx]; rfl
    have hix:=fun (σ:AStore)=>hR.1.idx (σ:=σ) (k:=.i64) hx'
    have hw:=wrapS (i:=i) (by omega)
    have hat2:=all_take1 (P:=rkB n.clocks) hx
    have hbad2:rkB n.clocks x=false->egRB n p y=false:=fun h=>by
     unfold egRB
     rw [List.all_eq_false.2 ⟨x,List.mem_of_getElem? hx,by simp [h]⟩]
     simp
    obtain ⟨xk,xt⟩:=x
    simp -implicitDefEqProofs only [go_sem,gx',q0',q1',kG,cG,iG,kX,cX,iX,kSS,cSS,iSS,kR,cR,iR,kV,cV,iV,kC,cC,iC,kF,cF,iF,kP,cP,iP,hRn,d1]
    (repeat' first|refine vw ?_ ?_<;>intro hq|refine vz ?_|simp -implicitDefEqProofs only [go_sem,gx',q0',q1',kG,cG,iG,kX,cX,iX,kSS,cSS,iSS,kR,cR,iR,kV,cV,iV,kC,cC,iC,kF,cF,iF,kP,cP,iP,hRn,d1])
    ((try (refine Z_seq ?_; (try simp -implicitDefEqProofs only [go_sem]))); refine Z_draw (by kernel_rfl) [0,1,2,3,4,5,6,7,8] [(8,255),(7,127),(6,62),(5,30),(4,14),(3,0),(2,2),(1,0),(0,0)] (by kernel_rfl) (by kernel_rfl) ?_)
    simp -implicitDefEqProofs only [go_sem,gx',q0',q1',kG,cG,iG,kX,cX,iX,kSS,cSS,iSS,kR,cR,iR,kV,cV,iV,kC,cC,iC,kF,cF,iF,kP,cP,iP,hRn,hix,rtA]
    refine (hK _ xk).useD ?_
    cases hb:rkB n.clocks ⟨xk,xt⟩ with
    | false=>
     have hb':(decide (1<=xk) && decide (xk<=n.clocks))=false:=hb
     simp -implicitDefEqProofs only [go_sem,hb']
     (try (repeat' first|refine vw ?_ ?_<;>intro hq|refine vz ?_|simp -implicitDefEqProofs only [go_sem,hb']))
     exact ret_bool (bad (hbad2 hb))
    | true=>
     have hb':(decide (1<=xk) && decide (xk<=n.clocks))=true:=hb
     simp -implicitDefEqProofs only [go_sem,hb',hw]
     (try (repeat' first|refine vw ?_ ?_<;>intro hq|refine vz ?_|simp -implicitDefEqProofs only [go_sem,hb',hw]))
     refine ⟨i+1,vom,⟨vom,rfl,?_⟩,vsu⟩
     rw [hat2,hrk,hb]
     rfl
   obtain rfl:i=y.rs.length:=by omega
   rw [List.take_length] at hrk
   have d1:decide ((y.rs.length:Int) < (y.rs.length:Int))=false:=dcf (by omega)
   simp -implicitDefEqProofs only [go_sem,gx',q0',q1',kG,cG,iG,kX,cX,iX,kSS,cSS,iSS,kR,cR,iR,kV,cV,iV,kC,cC,iC,kF,cF,iF,kP,cP,iP,hRn,d1]
   (repeat' first|refine vw ?_ ?_<;>intro hq|refine vz ?_|simp -implicitDefEqProofs only [go_sem,gx',q0',q1',kG,cG,iG,kX,cX,iX,kSS,cSS,iSS,kR,cR,iR,kV,cV,iV,kC,cC,iC,kF,cF,iF,kP,cP,iP,hRn,d1])
   refine (hEd _ y _ hyv0 hym (by omega)).use ?_
   rintro _ ⟨e,rfl,he⟩
   have hfl:(decide (y.ch < 0) && y.snd)=false:=by
    cases hs:y.snd with
    | false=>simp
    | true=>rw [dcf fun h=>he7 ⟨h,hs⟩]; rfl
   have hval:egRB n p y=edRB n y:=by
    unfold egRB
    rw [hc,hcd,hsv,hrk,hfl,dct hs16,dct hr16,dct (show (0:Int)<=y.fr by omega),dct (show y.fr < (p.locs.length:Int) by omega),dct (show (0:Int)<=y.to by omega),dct (show y.to < (p.locs.length:Int) by omega),dct (show (-1:Int)<=y.ch by omega),dct (show y.ch < (n.chans.length:Int) by omega)]
    rfl
   by_cases hez:e=0
   ·have d2:=dct hez
    simp -implicitDefEqProofs only [go_sem,d2]
    (try (repeat' first|refine vw ?_ ?_<;>intro hq|refine vz ?_|simp -implicitDefEqProofs only [go_sem,d2,hwj]))
    refine ⟨j+1,vom,⟨vom,q0',q1',?_⟩,vsu⟩
    rw [hat,hall,hval,he.1 hez]
    rfl
   ·have d2:=dcf hez
    simp -implicitDefEqProofs only [go_sem,d2]
    (try (repeat' first|refine vw ?_ ?_<;>intro hq|refine vz ?_|simp -implicitDefEqProofs only [go_sem,d2]))
    refine ret_bool (bad ?_)
    rw [hval]
    cases hed:edRB n y with
    | false=>rfl
    | true=>exact absurd (he.2 hed) hez
 ·obtain rfl:j=p.egs.length:=by omega
  rw [List.take_length] at hall
  rw [hall] at hB
  have d0:decide ((p.egs.length:Int) < (p.egs.length:Int))=false:=dcf (by omega)
  simp -implicitDefEqProofs only [go_sem,g1,kL,cL,iL,kE,cE,iE,hLn,hEn,d0]
  (repeat' first|refine vw ?_ ?_<;>intro hq|refine vz ?_|simp -implicitDefEqProofs only [go_sem,g1,kL,cL,iL,kE,cE,iE,hLn,hEn,d0])
  refine ret_bool ?_
  rw [hB]
  rfl
theorem allCells_sA (l:List ByteArray):allCells (l.map sA)=true:=by
 unfold allCells
 rw [List.all_eq_true]
 intro x hx
 obtain ⟨y,_,rfl⟩:=List.mem_map.1 hx
 rfl
theorem ixSl_o {b i l:Nat} {els:List AVal} (h:i < l):ixSl b 0 1 (.sc (.int .i64 (((i:Nat):Int)))) l (some (.cells 1 els))=some (.ptr b i 0):=by
 rw [ixSl_cells,if_pos rfl]
 simp only [aIdx]
 rw [if_pos (by omega)]
 simp
theorem validRC {w:WD} {n:Nt} {v:AVal} (h:IsNt n v) (hs:NtS n):GivesV (EE w) 28 [v] (.sc (.int .i64 (if validB n then 0 else 2))):=by
 have hwf:=h.wf
 have hPrc:=fun (hvl:n.vars.length<=16) (hcl:n.chans.length<=16) (w:WD) (p:Pr) (u:AVal) (hm:p∈n.procs) (hu:IsPr p u)=>processRC (w:=w) h hs (by omega) (by omega) hu (hs.ll p hm).1 (hs.ll p hm).2 (hs.lc p hm).1 (hs.lc p hm).2 (hs.cd p hm)
 obtain ⟨SV,SC,SF,SP,fels,rfl,icl,⟨hV,lv,hvo⟩,⟨hC,lc,hco⟩,hF,hFs,lf,hP⟩:=h
 have hVn:∀ σ:AStore,aLen (.slice 0) SV σ=some (.sc (.int .i64 (n.vars.length))):=fun σ=>by have:=hV.len (σ:=σ); rwa [List.length_map] at this
 have hCn:∀ σ:AStore,aLen (.slice 0) SC σ=some (.sc (.int .i64 (n.chans.length))):=fun σ=>by have:=hC.len (σ:=σ); rwa [List.length_map] at this
 obtain ⟨pels,hP1,hPl,hPat⟩:=hP.at'
 have hPn:∀ σ:AStore,aLen (.slice 0) SP σ=some (.sc (.int .i64 (n.procs.length))):=fun σ=>hP1.lenN hPl
 have kV:=hV.fit
 have cV:=hV.cells
 have iV:=hV.isCell
 have kC:=hC.fit
 have cC:=hC.cells
 have iC:=hC.isCell
 have kF:=hF.fit
 have cF:=hF.cells
 have iF:=hF.isCell
 have kP:=hP1.fit
 have cP:=hP1.cells
 have iP:=hP1.isCell
 have hpl:=hs.pl
 have hF0:=fun w:WD=>checkFuncsRC (w:=w) hF hFs lf (by have:=hs.fs; omega)
 have hFu:=fun w:WD=>funcsRC (w:=w) hF hFs (by have:=hs.fs; omega)
 obtain ⟨hfn,-⟩:=fc_nil hFs hs.fs
 refine GivesV.of gWF (.cons _ _ hwf .nil) 1 ?_
 have ret2:∀ {σ:AStore},validB n=false->∃ u,AEnd.ret (.sc (.int .i64 (2)))=AEnd.ret u/\frz σ 1 u=some (.sc (.int .i64 (if validB n then 0 else 2))):=fun h=>⟨_,rfl,by rw [h]; rfl⟩
 refine of_28 rfl rfl rfl (by kernel_rfl) ?_
 simp -implicitDefEqProofs only [go_sem,kV,cV,iV,kC,cC,iC,kF,cF,iF,kP,cP,iP]
 have g0:(empty.alloc (.cells 5 [.agg [(.sc (.int .i64 (n.clocks))),SV,SC,SF,SP]])).get 0=some (.cells 5 [.agg [(.sc (.int .i64 (n.clocks))),SV,SC,SF,SP]]):=by rw [AStore.get_alloc]; rfl
 have hn0:(empty.alloc (.cells 5 [.agg [(.sc (.int .i64 (n.clocks))),SV,SC,SF,SP]])).next=1:=rfl
 generalize empty.alloc (.cells 5 [.agg [(.sc (.int .i64 (n.clocks))),SV,SC,SF,SP]])=τ at g0 hn0 ⊢
 simp -implicitDefEqProofs only [go_sem,g0,kV,cV,iV,kC,cC,iC,kF,cF,iF,kP,cP,iP,hVn,hCn,hPn]
 (repeat' first|refine vw ?_ ?_<;>intro hq|refine vz ?_|simp -implicitDefEqProofs only [go_sem,g0,kV,cV,iV,kC,cC,iC,kF,cF,iF,kP,cP,iP,hVn,hCn,hPn])
 all_goals (try (refine ret2 ?_; simp only [validB,hdB,Bool.and_eq_false_iff,Bool.not_eq_false',Bool.or_eq_true,decide_eq_true_eq]; omega))
 have hl1:n.vars.length<=16:=by omega
 have hl2:n.chans.length<=16:=by omega
 have hhd:hdB n=true:=by
  have h6:checkF nameB n.funcs=0:=by rw [hfn]; rfl
  simp only [hdB,h6,ne_eq,not_true_eq_false,Bool.not_eq_true',Bool.or_eq_false_iff,decide_eq_false_iff_not,not_false_eq_true,and_true]
  omega
 have hPr:=hPrc hl1 hl2
 clear hPrc
 refine (varsRC hV (by omega)).use ?_
 rintro S1 hS1
 have s1:∀ σ:AStore,aSrc 1 S1 σ=some ((n.vars.map Vr.nm).map sA):=fun σ=>hS1.src
 obtain ⟨A1,σ1,a1,o1,n1,k1,j1⟩:=(Own.nil (σ:=τ) (sz:=1)).append' (bytes:=16) (xs:=(n.vars.map Vr.nm).map sA) (by simp; omega) (by decide) (by decide) (allCells_sA _)
 have g01:=k1 _ _ g0 (fun l h=>by cases h)
 have j01:=j1 0 (by omega) (fun l h=>by cases h)
 simp -implicitDefEqProofs only [go_sem,s1,a1,g0,g01,kV,cV,iV,kC,cC,iC,kF,cF,iF,kP,cP,iP]
 refine (chansRC hC (by omega)).use ?_
 rintro S2 hS2
 have s2:∀ σ:AStore,aSrc 1 S2 σ=some ((n.chans.map Ch.nm).map sA):=fun σ=>hS2.src
 rw [List.nil_append] at o1
 obtain ⟨A2,σ2,a2,o2,n2,k2,j2⟩:=o1.append' (bytes:=16) (xs:=(n.chans.map Ch.nm).map sA) (by simp; omega) (by decide) (by decide) (allCells_sA _)
 have g02:=k2 _ _ g01 j01
 have j02:=j2 0 (by omega) j01
 simp -implicitDefEqProofs only [go_sem,s2,a2,g01,g02,kV,cV,iV,kC,cC,iC,kF,cF,iF,kP,cP,iP]
 refine (hF0 _).use ?_
 rw [show checkF nameB n.funcs=0 by rw [hfn]; rfl]
 simp -implicitDefEqProofs only [go_sem]
 (repeat' first|refine vw ?_ ?_<;>intro hq|refine vz ?_|simp -implicitDefEqProofs only [go_sem,g02,kV,cV,iV,kC,cC,iC,kF,cF,iF,kP,cP,iP])
 refine (hFu _).use ?_
 rintro _ rfl
 obtain ⟨A3,σ3,a3,o3,n3,k3,j3⟩:=o2.append' (bytes:=16) (xs:=[]) (by simp; omega) (by decide) (by decide) rfl
 have g03:=k3 _ _ g02 j02
 have j03:=j3 0 (by omega) j02
 obtain ⟨lnm,hlnm⟩:∃ l,l=nmsB n:=⟨_,rfl⟩
 have hlm:((n.vars.map Vr.nm).map sA++(n.chans.map Ch.nm).map sA)++[]=lnm.map sA:=by
  rw [hlnm]
  simp [nmsB,hfn]
 have hln:lnm.length<=32:=by rw [hlnm]; simp [nmsB,hfn]; omega
 rw [hlm] at o3
 have sN:∀ σ:AStore,aSrc 1 (.sc (.slice none 0 0)) σ=some []:=fun σ=>rfl
 simp -implicitDefEqProofs only [go_sem,sN,a3]
 (try (repeat' first|refine vw ?_ ?_<;>intro hq|refine vz ?_|simp -implicitDefEqProofs only [go_sem,sN,a3]))
 have hAn:∀ σ:AStore,aLen (.slice 0) A3 σ=some (.sc (.int .i64 (lnm.length))):=fun σ=>by have:=o3.len (τ:=σ); rwa [List.length_map] at this
 have hnm0:∀ b,lnm.all nameB=b->(hd2B n=true->b=true):=fun b hb h=>by
  simp only [hd2B,<-hlnm,Bool.and_eq_true] at h
  rw [<-hb]
  exact h.1.1.1.1.2
 have badH:hd2B n=false->validB n=false:=fun h=>by simp [validB,h]
 have badP:∀ p∈n.procs,prRB n p=false->validB n=false:=fun p hp h=>by
  rw [prRB_eq] at h
  unfold validB
  rw [List.all_eq_false.2 ⟨p,hp,by simp [h]⟩]
  simp
 have hd2:hd2B n=(((((decide lnm.Nodup && lnm.all nameB) && n.vars.all vlB) && n.vars.all vrB) && decide ((funcsP nameB n.funcs (n.vars.map Vr.nm)).2=0)) && decide ((0:Int) < n.procs.length)):=by rw [hlnm]; rfl
 refine vlp (ι:=Nat) (fun j=>[(1,.ptr 0 0 0),(3,A3),(4,(.sc (.int .i64 (j))))]) (fun j τ=>j<=lnm.length/\τ=σ3/\(lnm.take j).all nameB=true) (fun j=>lnm.length - j) (fun _=>rfl) 0 ?_ ?_ ?_
 ·exact vsu
 ·exact ⟨Nat.zero_le _,rfl,rfl⟩
 rintro j τ0 ⟨hj,rfl,hall⟩
 by_cases hlt:j < lnm.length
 ·have d0:decide ((j:Int) < (lnm.length:Int))=true:=dct (by omega)
  obtain ⟨x,hx⟩:∃ x,lnm[j]?=some x:=⟨lnm[j]'(by omega),by simp⟩
  have hx':(lnm.map sA)[j]?=some (sA x):=by rw [List.getElem?_map,hx]; rfl
  have hw:=wrapS (i:=j) (by omega)
  have hat:=all_take1 (P:=nameB) hx
  have hix:aIndexS 1 A3 (.sc (.int .i64 (j))) τ0=aIndexS 1 A3 (.sc (.int .i64 (j))) τ0:=rfl
  obtain ⟨b,hb1,hb2⟩:∃ b,A3=.slice b 0 lnm.length/\τ0.get b=some (.cells 1 (lnm.map sA)):=by
   rcases o3 with ⟨h,_⟩|⟨_,b,h1,h2⟩
   ·exfalso
    have:=congrArg List.length h
    simp at this
    rw [this] at hlt
    simp at hlt
   ·exact ⟨b,by rw [h1,List.length_map],h2⟩
  rw [hb1]
  have hAn':=hAn
  rw [hb1] at hAn'
  simp -implicitDefEqProofs only [go_sem,hAn',d0]
  (repeat' first|refine vw ?_ ?_<;>intro hq|refine vz ?_|simp -implicitDefEqProofs only [go_sem,hAn',d0,hb2,ixSl_o hlt,hx,sA])
  refine (nameRC x).use ?_
  cases hnb:nameB x with
  | false=>
   (repeat' first|refine vw ?_ ?_<;>intro hq|refine vz ?_|simp -implicitDefEqProofs only [go_sem])
   refine ret2 (badH ?_)
   rw [hd2,List.all_eq_false.2 ⟨x,List.mem_of_getElem? hx,by simp [hnb]⟩]
   simp
  | true=>
   (repeat' first|refine vw ?_ ?_<;>intro hq|refine vz ?_|simp -implicitDefEqProofs only [go_sem,hw])
   refine ⟨j+1,vom,⟨vom,rfl,?_⟩,vsu⟩
   rw [hat,hall,hnb]
   rfl
 obtain rfl:j=lnm.length:=by omega
 rw [List.take_length] at hall
 have d0:decide ((lnm.length:Int) < (lnm.length:Int))=false:=dcf (by omega)
 simp -implicitDefEqProofs only [go_sem,hAn,d0]
 (try (repeat' first|refine vw ?_ ?_<;>intro hq|refine vz ?_|simp -implicitDefEqProofs only [go_sem,hAn,d0]))
 refine vlp (ι:=Nat) (fun j=>[(1,.ptr 0 0 0),(3,A3),(5,(.sc (.int .i64 (j))))]) (fun j τ=>j<=n.vars.length/\τ.get 0=some (.cells 5 [.agg [(.sc (.int .i64 (n.clocks))),SV,SC,SF,SP]])/\Own τ 1 A3 (lnm.map sA)/\(n.vars.take j).all vlB=true) (fun j=>n.vars.length - j) (fun _=>rfl) 0 ?_ ?_ ?_
 ·exact vsu
 ·exact ⟨Nat.zero_le _,g03,o3,rfl⟩
 clear g0 g01 g02 g03 o1 o2 o3 a1 a2 a3 k1 k2 k3 j1 j2 j3
 rintro j τ1 ⟨hj,g0,o3,hvl⟩
 by_cases hlt:j < n.vars.length
 ·have d0:decide ((j:Int) < (n.vars.length:Int))=true:=dct (by omega)
  obtain ⟨x,hx⟩:∃ x,n.vars[j]?=some x:=⟨n.vars[j]'(by omega),by simp⟩
  have hx':(n.vars.map vrA)[j]?=some (vrA x):=by rw [List.getElem?_map,hx]; rfl
  have hix:=fun (σ:AStore)=>hV.idx (σ:=σ) (k:=.i64) hx'
  have hw:=wrapS (i:=j) (by omega)
  have hat:=all_take1 (P:=vlB) hx
  have hbad:vlB x=false->hd2B n=false:=fun h=>by
   rw [hd2,List.all_eq_false.2 ⟨x,List.mem_of_getElem? hx,by simp [h]⟩]
   simp
  obtain ⟨nm,lo,hi,ini⟩:=x
  have gx:∀ y z,((τ1.alloc y).set τ1.next z).get τ1.next=some z:=fun y z=>by rw [AStore.get_set,if_pos ⟨rfl,by simp only [alloc_next]; omega⟩]
  simp -implicitDefEqProofs only [go_sem,g0,kV,cV,iV,kC,cC,iC,kF,cF,iF,kP,cP,iP,hVn,d0]
  (repeat' first|refine vw ?_ ?_<;>intro hq|refine vz ?_|simp -implicitDefEqProofs only [go_sem,g0,kV,cV,iV,kC,cC,iC,kF,cF,iF,kP,cP,iP,hVn,d0,hix,vrA,sA,gx,hw])
  all_goals (try (refine ret2 (badH (hbad ?_)); simp only [vlB,Bool.and_eq_false_iff,decide_eq_false_iff_not]; omega))
  refine ⟨j+1,vom,⟨vom,get_al g0,o3.al _ _,?_⟩,vsu⟩
  rw [hat,hvl]
  simp only [vlB,Bool.true_and,Bool.and_eq_true,decide_eq_true_eq]
  omega
 obtain rfl:j=n.vars.length:=by omega
 rw [List.take_length] at hvl
 have d0:decide ((n.vars.length:Int) < (n.vars.length:Int))=false:=dcf (by omega)
 simp -implicitDefEqProofs only [go_sem,g0,kV,cV,iV,kC,cC,iC,kF,cF,iF,kP,cP,iP,hVn,d0]
 (try (repeat' first|refine vw ?_ ?_<;>intro hq|refine vz ?_|simp -implicitDefEqProofs only [go_sem,g0,kV,cV,iV,kC,cC,iC,kF,cF,iF,kP,cP,iP,hVn,d0]))
 refine (lentM (pre:=[]) (post:=[]) (v:=(.sc (.bool (decide lnm.Nodup)))) gWF ⟨1,rfl,fun _=>⟨rfl,rfl⟩⟩ o3.hasO .nil .nil (fun M' hM'=>differentRC hM' (by omega))).use1 ?_
 cases hnd:decide lnm.Nodup with
 | false=>
  simp -implicitDefEqProofs only [go_sem]
  (try (repeat' first|refine vw ?_ ?_<;>intro hq|refine vz ?_|simp -implicitDefEqProofs only [go_sem]))
  exact ret2 (badH (by rw [hd2,hnd]; rfl))
 | true=>
  simp -implicitDefEqProofs only [go_sem,g0,kV,cV,iV,kC,cC,iC,kF,cF,iF,kP,cP,iP,hPn]
  (try (repeat' first|refine vw ?_ ?_<;>intro hq|refine vz ?_|simp -implicitDefEqProofs only [go_sem,g0,kV,cV,iV,kC,cC,iC,kF,cF,iF,kP,cP,iP,hPn]))
  refine (declRC hV (by omega) hF hFs lf hs.fs).use ?_
  rintro _ ⟨e,rfl,he⟩
  have e0:decide ((n.procs.length:Int)≠0)=decide ((0:Int) < n.procs.length):=decide_eq_decide.2 (by omega)
  rw [e0] at he
  have hd3:hd2B n=(n.vars.all vrB && decide ((funcsP nameB n.funcs (n.vars.map Vr.nm)).2=0) && decide ((0:Int) < n.procs.length)):=by
   rw [hd2,hnd,hall,hvl]
   rfl
  rw [<-hd3] at he
  by_cases hez:e=0
  ·have d2:=dct hez
   have hd4:=he.1 hez
   simp -implicitDefEqProofs only [go_sem,d2]
   (try (repeat' first|refine vw ?_ ?_<;>intro hq|refine vz ?_|simp -implicitDefEqProofs only [go_sem,d2]))
   refine vlp (ι:=Nat) (fun j=>[(1,.ptr 0 0 0),(7,(.sc (.int .i64 (j))))]) (fun j τ=>j<=n.procs.length/\τ=τ1/\(n.procs.take j).all (prRB n)=true) (fun j=>n.procs.length - j) (fun _=>rfl) 0 ?_ ?_ ?_
   ·exact vsu
   ·exact ⟨Nat.zero_le _,rfl,rfl⟩
   rintro j τ ⟨hj,rfl,hpr⟩
   by_cases hlt:j < n.procs.length
   ·have d0:decide ((j:Int) < (n.procs.length:Int))=true:=dct (by omega)
    obtain ⟨p,hp⟩:∃ p,n.procs[j]?=some p:=⟨n.procs[j]'(by omega),by simp⟩
    obtain ⟨u,hu,hpu⟩:=hPat j p hp
    have hpm:=List.mem_of_getElem? hp
    have hix:=fun (σ:AStore)=>hP1.idx (σ:=σ) (k:=.i64) hu
    have hw:=wrapS (i:=j) (by omega)
    have hat:=all_take1 (P:=prRB n) hp
    have hC2:=fun w:WD=>hPr w p u hpm hpu
    obtain ⟨SL,SE,rfl,hSL,hSE,ini⟩:=hpu
    obtain ⟨lels,hL1,hLl,hLat⟩:=hSL.at'
    obtain ⟨eels,hE1,hEl,hEat⟩:=hSE.at'
    have kL:=hL1.fit
    have cL:=hL1.cells
    have iL:=hL1.isCell
    have kE:=hE1.fit
    have cE:=hE1.cells
    have iE:=hE1.isCell
    simp -implicitDefEqProofs only [go_sem,g0,kV,cV,iV,kC,cC,iC,kF,cF,iF,kP,cP,iP,hPn,d0]
    (repeat' first|refine vw ?_ ?_<;>intro hq|refine vz ?_|simp -implicitDefEqProofs only [go_sem,g0,kV,cV,iV,kC,cC,iC,kF,cF,iF,kP,cP,iP,hPn,d0])
    ((try (refine Z_seq ?_; (try simp -implicitDefEqProofs only [go_sem]))); refine Z_draw (by kernel_rfl) [0,1,2,3,4,5,6,7] [(7,127),(6,63),(5,30),(4,14),(3,0),(2,2),(1,0),(0,0)] (by kernel_rfl) (by kernel_rfl) ?_)
    simp -implicitDefEqProofs only [go_sem,g0,kV,cV,iV,kC,cC,iC,kF,cF,iF,kP,cP,iP,hix,kL,cL,iL,kE,cE,iE]
    refine (hC2 _).useD ?_
    cases hpb:prRB n p with
    | false=>
     simp -implicitDefEqProofs only [go_sem]
     (try (repeat' first|refine vw ?_ ?_<;>intro hq|refine vz ?_|simp -implicitDefEqProofs only [go_sem]))
     exact ret2 (badP p hpm hpb)
    | true=>
     simp -implicitDefEqProofs only [go_sem,hw]
     (try (repeat' first|refine vw ?_ ?_<;>intro hq|refine vz ?_|simp -implicitDefEqProofs only [go_sem,hw]))
     refine ⟨j+1,vom,⟨vom,rfl,?_⟩,vsu⟩
     rw [hat,hpr,hpb]
     rfl
   obtain rfl:j=n.procs.length:=by omega
   rw [List.take_length] at hpr
   have d0:decide ((n.procs.length:Int) < (n.procs.length:Int))=false:=dcf (by omega)
   simp -implicitDefEqProofs only [go_sem,g0,kV,cV,iV,kC,cC,iC,kF,cF,iF,kP,cP,iP,hPn,d0]
   (repeat' first|refine vw ?_ ?_<;>intro hq|refine vz ?_|simp -implicitDefEqProofs only [go_sem,g0,kV,cV,iV,kC,cC,iC,kF,cF,iF,kP,cP,iP,hPn,d0])
   have hvb:validB n=true:=by
    unfold validB
    rw [hhd,hd4,<-all_congr (fun p _=>prRB_eq n p),hpr]
    rfl
   rw [hvb]
   exact ⟨_,rfl,rfl⟩
  ·have d2:=dcf hez
   simp -implicitDefEqProofs only [go_sem,d2]
   (try (repeat' first|refine vw ?_ ?_<;>intro hq|refine vz ?_|simp -implicitDefEqProofs only [go_sem,d2]))
   refine ret2 (badH ?_)
   cases hq:hd2B n with
   | false=>rfl
   | true=>exact absurd (he.2 hq) hez
def stB (n:Nt) (s:Stt):Bool:=(decide (s.locs.length=n.procs.length) && decide (s.vars.length=n.vars.length)) && (List.range s.locs.length).all (ckL n s) && (List.range s.vars.length).all (ckV n s)
theorem checkB_eq (n:Nt) (s:Stt):checkB n s=(validB n && stB n s):=by
 unfold checkB stB
 cases validB n<;>simp [Bool.and_assoc]
theorem range_all1 {P:Nat->Bool} {j:Nat}:(List.range (j+1)).all P=((List.range j).all P && P j):=by
 rw [List.range_succ,List.all_append]
 simp
theorem range_bad {P:Nat->Bool} {j m:Nat} (hj:j < m) (h:P j=false):(List.range m).all P=false:=List.all_eq_false.2 ⟨j,List.mem_range.2 hj,by simp [h]⟩
theorem stateRC {w:WD} {n:Nt} {v:AVal} {s:Stt} {u:AVal} (h:IsNt n v) (hpl:n.procs.length<=1000000) (hu:IsStt s u):GivesV (EE w) 112 [v,u] (.sc (.bool (stB n s))):=by
 have hwf:=h.wf
 have hwu:=hu.wf
 obtain ⟨SV,SC,SF,SP,fels,rfl,icl,⟨hV,lv,hvo⟩,⟨hC,lc,hco⟩,hF,hFs,lf,hP⟩:=h
 obtain ⟨L,U,rfl,⟨hL,lL,iL0⟩,⟨hU,lU,iU0⟩⟩:=hu
 have hVn:∀ σ:AStore,aLen (.slice 0) SV σ=some (.sc (.int .i64 (n.vars.length))):=fun σ=>by have:=hV.len (σ:=σ); rwa [List.length_map] at this
 have hLn:∀ σ:AStore,aLen (.slice 0) L σ=some (.sc (.int .i64 (s.locs.length))):=fun σ=>by have:=hL.len (σ:=σ); rwa [List.length_map] at this
 have hUn:∀ σ:AStore,aLen (.slice 0) U σ=some (.sc (.int .i64 (s.vars.length))):=fun σ=>by have:=hU.len (σ:=σ); rwa [List.length_map] at this
 obtain ⟨pels,hP1,hPl,hPat⟩:=hP.at'
 have hPn:∀ σ:AStore,aLen (.slice 0) SP σ=some (.sc (.int .i64 (n.procs.length))):=fun σ=>hP1.lenN hPl
 have kV:=hV.fit
 have cV:=hV.cells
 have iV:=hV.isCell
 have kC:=hC.fit
 have cC:=hC.cells
 have iC:=hC.isCell
 have kF:=hF.fit
 have cF:=hF.cells
 have iF:=hF.isCell
 have kP:=hP1.fit
 have cP:=hP1.cells
 have iP:=hP1.isCell
 have kL:=hL.fit
 have cL:=hL.cells
 have iL:=hL.isCell
 have kU:=hU.fit
 have cU:=hU.cells
 have iU:=hU.isCell
 refine GivesV.of gWF (.cons _ _ hwf (.cons _ _ hwu .nil)) 1 ?_
 have hB:stB n s=((decide (s.locs.length=n.procs.length) && decide (s.vars.length=n.vars.length)) && (List.range s.locs.length).all (ckL n s) && (List.range s.vars.length).all (ckV n s)):=rfl
 generalize hBB:stB n s=BB at hB ⊢
 refine of_112 rfl rfl rfl (by kernel_rfl) ?_
 simp -implicitDefEqProofs only [go_sem,kV,cV,iV,kC,cC,iC,kF,cF,iF,kP,cP,iP,kL,cL,iL,kU,cU,iU]
 have g0:((empty.alloc (.cells 5 [.agg [(.sc (.int .i64 (n.clocks))),SV,SC,SF,SP]])).alloc (.cells 2 [.agg [L,U]])).get 0=some (.cells 5 [.agg [(.sc (.int .i64 (n.clocks))),SV,SC,SF,SP]]):=by rw [AStore.get_alloc]; rfl
 have g1:((empty.alloc (.cells 5 [.agg [(.sc (.int .i64 (n.clocks))),SV,SC,SF,SP]])).alloc (.cells 2 [.agg [L,U]])).get 1=some (.cells 2 [.agg [L,U]]):=by rw [AStore.get_alloc]; rfl
 generalize (empty.alloc (.cells 5 [.agg [(.sc (.int .i64 (n.clocks))),SV,SC,SF,SP]])).alloc (.cells 2 [.agg [L,U]])=τ at g0 g1 ⊢
 simp -implicitDefEqProofs only [go_sem,g0,g1,kV,cV,iV,kC,cC,iC,kF,cF,iF,kP,cP,iP,kL,cL,iL,kU,cU,iU,hVn,hLn,hUn,hPn]
 (repeat' first|refine vw ?_ ?_<;>intro hq|refine vz ?_|simp -implicitDefEqProofs only [go_sem,g0,g1,kV,cV,iV,kC,cC,iC,kF,cF,iF,kP,cP,iP,kL,cL,iL,kU,cU,iU,hVn,hLn,hUn,hPn])
 all_goals (try (refine ret_bool ?_; rw [hB]; symm; simp only [Bool.and_eq_false_iff,decide_eq_false_iff_not]; omega))
 have hl1:s.locs.length=n.procs.length:=by omega
 have hl2:s.vars.length=n.vars.length:=by omega
 have bad1:∀ j,j < s.locs.length->ckL n s j=false->false=BB:=fun j hj h=>by
  rw [hB,range_bad hj h]
  simp
 have bad2:∀ j,j < s.vars.length->ckV n s j=false->false=BB:=fun j hj h=>by
  rw [hB,range_bad hj h]
  simp
 refine vlp (ι:=Nat) (fun j=>[(2,.ptr 0 0 0),(3,.ptr 1 0 0),(5,(.sc (.int .i64 (j))))]) (fun j σ=>j<=s.locs.length/\σ=τ/\(List.range j).all (ckL n s)=true) (fun j=>s.locs.length - j) (fun _=>rfl) 0 ?_ ?_ ?_
 ·exact vsu
 ·exact ⟨Nat.zero_le _,rfl,rfl⟩
 rintro j σ ⟨hj,rfl,hall⟩
 by_cases hlt:j < s.locs.length
 ·have d0:decide ((j:Int) < (s.locs.length:Int))=true:=dct (by omega)
  obtain ⟨l,hl⟩:∃ l,s.locs[j]?=some l:=⟨s.locs[j]'(by omega),by simp⟩
  obtain ⟨p,hp⟩:∃ p,n.procs[j]?=some p:=⟨n.procs[j]'(by omega),by simp⟩
  have hl':(s.locs.map iA)[j]?=some (iA l):=by rw [List.getElem?_map,hl]; rfl
  have hix:=fun (σ:AStore)=>hL.idx (σ:=σ) (k:=.i64) hl'
  obtain ⟨e,he,hpv⟩:=hPat j p hp
  have hie:=fun (σ:AStore)=>hP1.idx (σ:=σ) (k:=.i64) he
  have hw:=wrapS (i:=j) (by omega)
  have hck:ckL n s j=(decide (0<=l) && decide (l < p.locs.length)):=by
   unfold ckL
   rw [hl,hp]
  obtain ⟨SL,SE,rfl,hSL,hSE,ini⟩:=hpv
  obtain ⟨lels,hL1,hLl,hLat⟩:=hSL.at'
  obtain ⟨eels,hE1,hEl,hEat⟩:=hSE.at'
  have kSL:=hL1.fit
  have cSL:=hL1.cells
  have iSL:=hL1.isCell
  have kSE:=hE1.fit
  have cSE:=hE1.cells
  have iSE:=hE1.isCell
  have hSn:∀ σ:AStore,aLen (.slice 0) SL σ=some (.sc (.int .i64 (p.locs.length))):=fun σ=>hL1.lenN hLl
  simp -implicitDefEqProofs only [go_sem,g1,kL,cL,iL,kU,cU,iU,hLn,d0]
  (repeat' first|refine vw ?_ ?_<;>intro hq|refine vz ?_|simp -implicitDefEqProofs only [go_sem,g1,kL,cL,iL,kU,cU,iU,hLn,d0])
  by_cases h1:l < 0
  ·have d1:=dct h1
   ((try (refine Z_seq ?_; (try simp -implicitDefEqProofs only [go_sem]))); refine Z_draw (by kernel_rfl) [0,1,2,3,4,5,6,7,8,9,10,11,12,13,14,15,16,17,18,19,20] [(20,1048575),(19,524287),(18,258175),(17,127103),(16,61567),(15,28799),(14,127),(13,4223),(12,127),(11,2047),(10,1023),(9,127),(8,255),(7,127),(6,63),(5,31),(4,15),(3,7),(2,0),(1,1),(0,0)] (by kernel_rfl) (by kernel_rfl) ?_)
   simp -implicitDefEqProofs only [go_sem,g0,g1,kV,cV,iV,kC,cC,iC,kF,cF,iF,kP,cP,iP,kL,cL,iL,kU,cU,iU,hix,iA,hie,kSL,cSL,iSL,kSE,cSE,iSE,hSn,d1]
   (try (repeat' first|refine vw ?_ ?_<;>intro hq|refine vz ?_|simp -implicitDefEqProofs only [go_sem,d1]))
   refine ret_bool (bad1 j hlt ?_)
   rw [hck]
   simp only [Bool.and_eq_false_iff,decide_eq_false_iff_not]
   omega
  have d1:=dcf h1
  by_cases h2:(p.locs.length:Int)<=l
  ·have d2:=dct h2
   ((try (refine Z_seq ?_; (try simp -implicitDefEqProofs only [go_sem]))); refine Z_draw (by kernel_rfl) [0,1,2,3,4,5,6,7,8,9,10,11,12,13,14,15,16,17,18,19,20] [(20,1048575),(19,524287),(18,258175),(17,127103),(16,61567),(15,28799),(14,127),(13,4223),(12,127),(11,2047),(10,1023),(9,127),(8,255),(7,127),(6,63),(5,31),(4,15),(3,7),(2,0),(1,1),(0,0)] (by kernel_rfl) (by kernel_rfl) ?_)
   simp -implicitDefEqProofs only [go_sem,g0,g1,kV,cV,iV,kC,cC,iC,kF,cF,iF,kP,cP,iP,kL,cL,iL,kU,cU,iU,hix,iA,hie,kSL,cSL,iSL,kSE,cSE,iSE,hSn,d1,d2]
   (try (repeat' first|refine vw ?_ ?_<;>intro hq|refine vz ?_|simp -implicitDefEqProofs only [go_sem,d1,d2]))
   refine ret_bool (bad1 j hlt ?_)
   rw [hck]
   simp only [Bool.and_eq_false_iff,decide_eq_false_iff_not]
   omega
  have d2:=dcf h2
  ((try (refine Z_seq ?_; (try simp -implicitDefEqProofs only [go_sem]))); refine Z_draw (by kernel_rfl) [0,1,2,3,4,5,6,7,8,9,10,11,12,13,14,15,16,17,18,19,20] [(20,1048575),(19,524287),(18,258175),(17,127103),(16,61567),(15,28799),(14,127),(13,4223),(12,127),(11,2047),(10,1023),(9,127),(8,255),(7,127),(6,63),(5,31),(4,15),(3,7),(2,0),(1,1),(0,0)] (by kernel_rfl) (by kernel_rfl) ?_)
  simp -implicitDefEqProofs only [go_sem,g0,g1,kV,cV,iV,kC,cC,iC,kF,cF,iF,kP,cP,iP,kL,cL,iL,kU,cU,iU,hix,iA,hie,kSL,cSL,iSL,kSE,cSE,iSE,hSn,d1,d2]
  (try (repeat' first|refine vw ?_ ?_<;>intro hq|refine vz ?_|simp -implicitDefEqProofs only [go_sem,d1,d2,hw]))
  refine ⟨j+1,vom,⟨vom,rfl,?_⟩,vsu⟩
  rw [range_all1,hall,hck]
  simp only [Bool.true_and,Bool.and_eq_true,decide_eq_true_eq]
  omega
 obtain rfl:j=s.locs.length:=by omega
 have d0:decide ((s.locs.length:Int) < (s.locs.length:Int))=false:=dcf (by omega)
 simp -implicitDefEqProofs only [go_sem,g1,kL,cL,iL,kU,cU,iU,hLn,d0]
 (repeat' first|refine vw ?_ ?_<;>intro hq|refine vz ?_|simp -implicitDefEqProofs only [go_sem,g1,kL,cL,iL,kU,cU,iU,hLn,d0])
 refine vlp (ι:=Nat) (fun j=>[(2,.ptr 0 0 0),(3,.ptr 1 0 0),(6,(.sc (.int .i64 (j))))]) (fun j τ=>j<=s.vars.length/\τ=σ/\(List.range j).all (ckV n s)=true) (fun j=>s.vars.length - j) (fun _=>rfl) 0 ?_ ?_ ?_
 ·exact vsu
 ·exact ⟨Nat.zero_le _,rfl,rfl⟩
 rintro j τ ⟨hj,rfl,hall2⟩
 by_cases hlt:j < s.vars.length
 ·have d0:decide ((j:Int) < (s.vars.length:Int))=true:=dct (by omega)
  obtain ⟨l,hl⟩:∃ l,s.vars[j]?=some l:=⟨s.vars[j]'(by omega),by simp⟩
  obtain ⟨p,hp⟩:∃ p,n.vars[j]?=some p:=⟨n.vars[j]'(by omega),by simp⟩
  have hl':(s.vars.map iA)[j]?=some (iA l):=by rw [List.getElem?_map,hl]; rfl
  have hix:=fun (σ:AStore)=>hU.idx (σ:=σ) (k:=.i64) hl'
  have hp':(n.vars.map vrA)[j]?=some (vrA p):=by rw [List.getElem?_map,hp]; rfl
  have hie:=fun (σ:AStore)=>hV.idx (σ:=σ) (k:=.i64) hp'
  have hw:=wrapS (i:=j) (by omega)
  have hck:ckV n s j=(decide (p.lo<=l) && decide (l<=p.hi)):=by
   unfold ckV
   rw [hl,hp]
  obtain ⟨nm,lo,hi,ini⟩:=p
  simp only at hck
  simp -implicitDefEqProofs only [go_sem,g1,kL,cL,iL,kU,cU,iU,hUn,d0]
  (repeat' first|refine vw ?_ ?_<;>intro hq|refine vz ?_|simp -implicitDefEqProofs only [go_sem,g1,kL,cL,iL,kU,cU,iU,hUn,d0])
  by_cases h1:l < lo
  ·have d1:=dct h1
   ((try (refine Z_seq ?_; (try simp -implicitDefEqProofs only [go_sem]))); refine Z_draw (by kernel_rfl) [0,1,2,3,4,5,6,7,8,9,10,11,12,13,14,15,16,17,18,19,20,21,22,23,24,25] [(25,33554431),(24,16777215),(23,8134655),(22,3940351),(21,1843199),(20,8191),(19,270335),(18,8191),(17,131071),(16,65535),(15,8191),(14,16383),(13,8191),(12,4095),(11,2047),(10,992),(9,480),(8,224),(7,0),(6,32),(5,0),(4,15),(3,7),(2,0),(1,1),(0,0)] (by kernel_rfl) (by kernel_rfl) ?_)
   simp -implicitDefEqProofs only [go_sem,g0,g1,kV,cV,iV,kC,cC,iC,kF,cF,iF,kP,cP,iP,kL,cL,iL,kU,cU,iU,hix,iA,hie,vrA,sA,d1]
   (try (repeat' first|refine vw ?_ ?_<;>intro hq|refine vz ?_|simp -implicitDefEqProofs only [go_sem,d1]))
   refine ret_bool (bad2 j hlt ?_)
   rw [hck]
   simp only [Bool.and_eq_false_iff,decide_eq_false_iff_not]
   omega
  have d1:=dcf h1
  by_cases h2:hi < l
  ·have d2:=dct h2
   ((try (refine Z_seq ?_; (try simp -implicitDefEqProofs only [go_sem]))); refine Z_draw (by kernel_rfl) [0,1,2,3,4,5,6,7,8,9,10,11,12,13,14,15,16,17,18,19,20,21,22,23,24,25] [(25,33554431),(24,16777215),(23,8134655),(22,3940351),(21,1843199),(20,8191),(19,270335),(18,8191),(17,131071),(16,65535),(15,8191),(14,16383),(13,8191),(12,4095),(11,2047),(10,992),(9,480),(8,224),(7,0),(6,32),(5,0),(4,15),(3,7),(2,0),(1,1),(0,0)] (by kernel_rfl) (by kernel_rfl) ?_)
   simp -implicitDefEqProofs only [go_sem,g0,g1,kV,cV,iV,kC,cC,iC,kF,cF,iF,kP,cP,iP,kL,cL,iL,kU,cU,iU,hix,iA,hie,vrA,sA,d1,d2]
   (try (repeat' first|refine vw ?_ ?_<;>intro hq|refine vz ?_|simp -implicitDefEqProofs only [go_sem,d1,d2]))
   refine ret_bool (bad2 j hlt ?_)
   rw [hck]
   simp only [Bool.and_eq_false_iff,decide_eq_false_iff_not]
   omega
  have d2:=dcf h2
  ((try (refine Z_seq ?_; (try simp -implicitDefEqProofs only [go_sem]))); refine Z_draw (by kernel_rfl) [0,1,2,3,4,5,6,7,8,9,10,11,12,13,14,15,16,17,18,19,20,21,22,23,24,25] [(25,33554431),(24,16777215),(23,8134655),(22,3940351),(21,1843199),(20,8191),(19,270335),(18,8191),(17,131071),(16,65535),(15,8191),(14,16383),(13,8191),(12,4095),(11,2047),(10,992),(9,480),(8,224),(7,0),(6,32),(5,0),(4,15),(3,7),(2,0),(1,1),(0,0)] (by kernel_rfl) (by kernel_rfl) ?_)
  simp -implicitDefEqProofs only [go_sem,g0,g1,kV,cV,iV,kC,cC,iC,kF,cF,iF,kP,cP,iP,kL,cL,iL,kU,cU,iU,hix,iA,hie,vrA,sA,d1,d2]
  (try (repeat' first|refine vw ?_ ?_<;>intro hq|refine vz ?_|simp -implicitDefEqProofs only [go_sem,d1,d2,hw]))
  refine ⟨j+1,vom,⟨vom,rfl,?_⟩,vsu⟩
  rw [range_all1,hall2,hck]
  simp only [Bool.true_and,Bool.and_eq_true,decide_eq_true_eq]
  omega
 obtain rfl:j=s.vars.length:=by omega
 have d0:decide ((s.vars.length:Int) < (s.vars.length:Int))=false:=dcf (by omega)
 simp -implicitDefEqProofs only [go_sem,g1,kL,cL,iL,kU,cU,iU,hUn,d0]
 (repeat' first|refine vw ?_ ?_<;>intro hq|refine vz ?_|simp -implicitDefEqProofs only [go_sem,g1,kL,cL,iL,kU,cU,iU,hUn,d0])
 refine ret_bool ?_
 rw [hB,hall,hall2,dct hl1,dct hl2]
 rfl
theorem check13RC {w:WD} {n:Nt} {v:AVal} {s:Stt} {u:AVal} (h:IsNt n v) (hs:NtS n) (hu:IsStt s u):GivesV (EE w) 76 [v,u] (.sc (.int .i64 (if checkB n s then 0 else 2))):=by
 have hwf:=h.wf
 have hwu:=hu.wf
 have hVa:=fun w:WD=>validRC (w:=w) h hs
 have hSt:=fun w:WD=>stateRC (w:=w) h hs.pl hu
 obtain ⟨SV,SC,SF,SP,rfl,fV,fC,fF,fP⟩:=h.fit0
 obtain ⟨L,U,rfl,⟨hL,lL,iL0⟩,⟨hU,lU,iU0⟩⟩:=hu
 have kL:=hL.fit
 have cL:=hL.cells
 have iL:=hL.isCell
 have kU:=hU.fit
 have cU:=hU.cells
 have iU:=hU.isCell
 refine GivesV.of gWF (.cons _ _ hwf (.cons _ _ hwu .nil)) 1 ?_
 rw [checkB_eq]
 refine of_76 rfl rfl rfl (by kernel_rfl) ?_
 simp -implicitDefEqProofs only [go_sem,fV,fC,fF,fP,kL,cL,iL,kU,cU,iU]
 have g0:((empty.alloc (.cells 5 [.agg [(.sc (.int .i64 (n.clocks))),SV,SC,SF,SP]])).alloc (.cells 2 [.agg [L,U]])).get 0=some (.cells 5 [.agg [(.sc (.int .i64 (n.clocks))),SV,SC,SF,SP]]):=by rw [AStore.get_alloc]; rfl
 have g1:((empty.alloc (.cells 5 [.agg [(.sc (.int .i64 (n.clocks))),SV,SC,SF,SP]])).alloc (.cells 2 [.agg [L,U]])).get 1=some (.cells 2 [.agg [L,U]]):=by rw [AStore.get_alloc]; rfl
 generalize (empty.alloc (.cells 5 [.agg [(.sc (.int .i64 (n.clocks))),SV,SC,SF,SP]])).alloc (.cells 2 [.agg [L,U]])=τ at g0 g1 ⊢
 (try simp -implicitDefEqProofs only [go_sem,g0,g1,fV,fC,fF,fP,kL,cL,iL,kU,cU,iU])
 refine (hVa _).use ?_
 cases hv:validB n with
 | false=>
  (try simp -implicitDefEqProofs only [go_sem])
  (try (repeat' first|refine vw ?_ ?_<;>intro hq|refine vz ?_|simp -implicitDefEqProofs only [go_sem]))
  exact ⟨_,rfl,rfl⟩
 | true=>
  simp -implicitDefEqProofs only [go_sem,g0,g1,fV,fC,fF,fP,kL,cL,iL,kU,cU,iU]
  (try (repeat' first|refine vw ?_ ?_<;>intro hq|refine vz ?_|simp -implicitDefEqProofs only [go_sem,g0,g1,fV,fC,fF,fP,kL,cL,iL,kU,cU,iU]))
  refine (hSt _).use ?_
  cases hb:stB n s with
  | false=>
   simp -implicitDefEqProofs only [go_sem]
   (try (repeat' first|refine vw ?_ ?_<;>intro hq|refine vz ?_|simp -implicitDefEqProofs only [go_sem]))
   exact ⟨_,rfl,rfl⟩
  | true=>
   simp -implicitDefEqProofs only [go_sem]
   (try (repeat' first|refine vw ?_ ?_<;>intro hq|refine vz ?_|simp -implicitDefEqProofs only [go_sem]))
   exact ⟨_,rfl,rfl⟩
theorem inv13RC {w:WD} {n:Nt} {v:AVal} {s:Stt} {u:AVal} (h:IsNt n v) (hs:NtS n) (hu:IsStt s u):
  Gives (EE w) 35 [v,u] fun r=>(checkB n s=false/\r=.tuple [(.sc (.slice none 0 0)),(.sc (.int .i64 (2)))])\/(checkB n s=true/\∃ S,r=.tuple [S,(.sc (.int .i64 (0)))]/\IsD 4 S ((invsB n s).map cnA)):=by
 have hwf:=h.wf
 have hwu:=hu.wf
 have hCk:=fun w:WD=>check13RC (w:=w) h hs hu
 obtain ⟨SV,SC,SF,SP,fels,rfl,icl,⟨hV,lv,hvo⟩,⟨hC,lc,hco⟩,hF,hFs,lf,hP⟩:=h
 obtain ⟨L,U,rfl,⟨hL,lL,iL0⟩,⟨hU,lU,iU0⟩⟩:=hu
 obtain ⟨pels,hP1,hPl,hPat⟩:=hP.at'
 have hPn:∀ σ:AStore,aLen (.slice 0) SP σ=some (.sc (.int .i64 (n.procs.length))):=fun σ=>hP1.lenN hPl
 have kV:=hV.fit
 have cV:=hV.cells
 have iV:=hV.isCell
 have kC:=hC.fit
 have cC:=hC.cells
 have iC:=hC.isCell
 have kF:=hF.fit
 have cF:=hF.cells
 have iF:=hF.isCell
 have kP:=hP1.fit
 have cP:=hP1.cells
 have iP:=hP1.isCell
 have kL:=hL.fit
 have cL:=hL.cells
 have iL:=hL.isCell
 have kU:=hU.fit
 have cU:=hU.cells
 have iU:=hU.isCell
 refine Gives.of gWF (.cons _ _ hwf (.cons _ _ hwu .nil)) 4 ?_
 refine of_35 rfl rfl rfl (by kernel_rfl) ?_
 simp -implicitDefEqProofs only [go_sem,kV,cV,iV,kC,cC,iC,kF,cF,iF,kP,cP,iP,kL,cL,iL,kU,cU,iU]
 have g0:((empty.alloc (.cells 5 [.agg [(.sc (.int .i64 (n.clocks))),SV,SC,SF,SP]])).alloc (.cells 2 [.agg [L,U]])).get 0=some (.cells 5 [.agg [(.sc (.int .i64 (n.clocks))),SV,SC,SF,SP]]):=by rw [AStore.get_alloc]; rfl
 have g1:((empty.alloc (.cells 5 [.agg [(.sc (.int .i64 (n.clocks))),SV,SC,SF,SP]])).alloc (.cells 2 [.agg [L,U]])).get 1=some (.cells 2 [.agg [L,U]]):=by rw [AStore.get_alloc]; rfl
 have hn0:((empty.alloc (.cells 5 [.agg [(.sc (.int .i64 (n.clocks))),SV,SC,SF,SP]])).alloc (.cells 2 [.agg [L,U]])).next=2:=rfl
 generalize (empty.alloc (.cells 5 [.agg [(.sc (.int .i64 (n.clocks))),SV,SC,SF,SP]])).alloc (.cells 2 [.agg [L,U]])=τ at g0 g1 hn0 ⊢
 refine (hCk _).use ?_
 cases hc:checkB n s with
 | false=>
  simp only [Bool.false_eq_true,if_false,if_true]
  (repeat' first|refine vw ?_ ?_<;>intro hq|refine vz ?_|simp -implicitDefEqProofs only [go_sem,g0,g1])
  exact ⟨_,_,rfl,rfl,.inl rfl⟩
 | true=>
  have hv:validB n=true:=by
   simp only [checkB,Bool.and_eq_true] at hc
   exact hc.1.1.1.1
  have hp6:=(valid_procs hv).1
  simp only [if_true]
  (repeat' first|refine vw ?_ ?_<;>intro hq|refine vz ?_|simp -implicitDefEqProofs only [go_sem,g0,g1])
  refine vlp (ι:=Nat×AVal) (fun p=>[(2,.ptr 0 0 0),(3,.ptr 1 0 0),(6,p.2),(7,(.sc (.int .i64 (p.1))))]) (fun p τ=>p.1<=n.procs.length/\2<=τ.next/\τ.get 0=some (.cells 5 [.agg [(.sc (.int .i64 (n.clocks))),SV,SC,SF,SP]])/\τ.get 1=some (.cells 2 [.agg [L,U]])/\Own τ 4 p.2 (((List.range p.1).flatMap (stI n s)).map cnA)/\(∀ l,p.2≠.slice 0 0 l)/\∀ l,p.2≠.slice 1 0 l) (fun p=>n.procs.length - p.1) (fun _=>rfl) (0,(.sc (.slice none 0 0))) ?_ ?_ ?_
  ·exact vsu
  ·exact ⟨Nat.zero_le _,by omega,g0,g1,by simpa using Own.nil,(fun l h=>by cases h),fun l h=>by cases h⟩
  clear g0 g1 hn0
  rintro ⟨j,A⟩ τ ⟨hj,hnx,g0,g1,hA,n0,n1⟩
  simp only at hj hA n0 n1
  have hle:(((List.range j).flatMap (stI n s)).map cnA).length<=16*j:=by rw [List.length_map]; exact flat_len _ 16 (stI_len hv s) j
  by_cases hlt:j < n.procs.length
  ·have d0:decide ((j:Int) < (n.procs.length:Int))=true:=dct (by omega)
   obtain ⟨p,hp⟩:∃ p,n.procs[j]?=some p:=⟨n.procs[j]'(by omega),by simp⟩
   obtain ⟨ev,hev,hpx⟩:=hPat j p hp
   have hip:=fun (σ:AStore)=>hP1.idx (σ:=σ) (k:=.i64) hev
   have hw:=wrapS (i:=j) (by omega)
   obtain ⟨m,hm,y,hy,hst⟩:=check_loc hc hp
   have hm':(s.locs.map iA)[j]?=some (iA m):=by rw [List.getElem?_map,hm]; rfl
   have hil:=fun (σ:AStore)=>hL.idx (σ:=σ) (k:=.i64) hm'
   obtain ⟨SL,SE,rfl,hL2,hE2,iini⟩:=hpx
   obtain ⟨lels,hL3,hLl,hLat⟩:=hL2.at'
   obtain ⟨eels,hE3,hEl,hEat⟩:=hE2.at'
   have kSL:=hL3.fit
   have cSL:=hL3.cells
   have iSL:=hL3.isCell
   have kSE:=hE3.fit
   have cSE:=hE3.cells
   have iSE:=hE3.isCell
   obtain ⟨ey,hey,hyv⟩:=hLat m y hy
   have hiy:=fun (σ:AStore)=>hL3.idx (σ:=σ) (k:=.i64) hey
   obtain ⟨G,rfl,hG,iy1,iy2⟩:=hyv
   have kG:=hG.1.fit
   have cG:=hG.1.cells
   have iG:=hG.1.isCell
   have sG:∀ σ:AStore,aSrc 4 G σ=some (y.inv.map cnA):=fun σ=>hG.1.src
   have hly:(y.inv.map cnA).length<=16:=by rw [List.length_map,<-hst]; exact stI_len hv s j
   obtain ⟨A',σ',a1,a2,a3,a4,a5⟩:=hA.append' (bytes:=24) (xs:=y.inv.map cnA) (by omega) (by decide) (by decide) (allCells_cn _)
   simp -implicitDefEqProofs only [go_sem,g0,kV,cV,iV,kC,cC,iC,kF,cF,iF,kP,cP,iP,hPn,d0]
   (repeat' first|refine vw ?_ ?_<;>intro hq|refine vz ?_|simp -implicitDefEqProofs only [go_sem,g0,kV,cV,iV,kC,cC,iC,kF,cF,iF,kP,cP,iP,hPn,d0])
   ((try (refine Z_seq ?_; (try simp -implicitDefEqProofs only [go_sem]))); refine Z_draw (by kernel_rfl) [0,1,2,3,4,5,6,7,8,9,10,11,12,13,14,15,16] [(16,65535),(15,32767),(14,16382),(13,8190),(12,4094),(11,1920),(10,896),(9,0),(8,128),(7,0),(6,62),(5,30),(4,14),(3,0),(2,2),(1,0),(0,0)] (by kernel_rfl) (by kernel_rfl) ?_)
   simp -implicitDefEqProofs only [go_sem,g0,g1,kV,cV,iV,kC,cC,iC,kF,cF,iF,kP,cP,iP,kL,cL,iL,kU,cU,iU,hip,kSL,cSL,iSL,kSE,cSE,iSE,hil,iA,hiy,kG,cG,iG,sG,a1]
   (try (repeat' first|refine vw ?_ ?_<;>intro hq|refine vz ?_|simp -implicitDefEqProofs only [go_sem,hw]))
   refine ⟨(j+1,A'),vom,⟨vom,vom,a4 _ _ g0 n0,a4 _ _ g1 n1,?_,a5 0 (by omega) n0,a5 1 (by omega) n1⟩,vsu⟩
   dsimp only
   rw [range_flat,List.map_append,hst]
   exact a2
  ·obtain rfl:j=n.procs.length:=by omega
   have d0:decide ((n.procs.length:Int) < (n.procs.length:Int))=false:=dcf (by omega)
   simp -implicitDefEqProofs only [go_sem,g0,kV,cV,iV,kC,cC,iC,kF,cF,iF,kP,cP,iP,hPn,d0]
   (repeat' first|refine vw ?_ ?_<;>intro hq|refine vz ?_|simp -implicitDefEqProofs only [go_sem,g0,kV,cV,iV,kC,cC,iC,kF,cF,iF,kP,cP,iP,hPn,d0])
   have e1:=hA.frz (n:=2) (us:=((List.range n.procs.length).flatMap (stI n s)).map cnA) (frz_cns _ (Nat.le_refl _))
   have hD:IsD 4 (if ((List.range n.procs.length).flatMap (stI n s)).map cnA=[] then (.sc (.slice none 0 0)) else .data 4 false (((List.range n.procs.length).flatMap (stI n s)).map cnA)) ((invsB n s).map cnA):=by
    unfold invsB
    split
    ·rename_i h0
     exact .inl ⟨h0,_,_,rfl⟩
    ·exact .inr ⟨_,rfl⟩
   generalize (if ((List.range n.procs.length).flatMap (stI n s)).map cnA=[] then ((.sc (.slice none 0 0)):AVal) else .data 4 false (((List.range n.procs.length).flatMap (stI n s)).map cnA))=R at e1 hD
   exact ⟨_,.tuple [R,(.sc (.int .i64 (0)))],rfl,by rw [frz_tuple,mapO_cons',e1]; rfl,.inr ⟨R,rfl,hD⟩⟩
end Abs
end
