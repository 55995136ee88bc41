/-
  Functions of the program walked: each is shown to compute a plain function (N9).
-/
import Derived.Test.YtkhjmhdpaikokaaGreatDoorN1
set_option linter.unusedSimpArgs false
set_option linter.unusedVariables false
set_option maxRecDepth 100000
set_option maxHeartbeats 16000000
noncomputable section
namespace Abs
open Go Go.Proofs
def nmsB (n:Nt):List ByteArray:=n.vars.map Vr.nm++n.chans.map Ch.nm++n.funcs.map Fc.nm
def sgB (n:Nt) (s:Sg):Bool:=wiB s.v n.vars.length && decide (expP nameB s.e (n.vars.map Vr.nm) n.funcs=0)
def egB1 (n:Nt) (p:Pr) (x:Eg):Bool:=(wiB x.fr p.locs.length && wiB x.to p.locs.length) && ((decide (x.ch=-1) && !x.snd) || wiB x.ch n.chans.length)
def egB3 (x:Eg):Bool:=((decide (x.ss.length<=16) && decide (x.rs.length<=16)) && raB x.cost) && wiB x.kind 2
def egB (n:Nt) (p:Pr) (x:Eg):Bool:=egB1 n p x && cnsB n.clocks x.gd && egB3 x && x.rs.all (rtB n.clocks) && (noE x.cd || decide (expP nameB x.cd (n.vars.map Vr.nm) n.funcs=0)) && x.ss.all (sgB n) && bareB n.chans x
def prB0 (p:Pr):Bool:=(wiB p.ini p.locs.length && decide (p.locs.length<=20)) && decide (p.egs.length<=60)
def prB (n:Nt) (p:Pr):Bool:=prB0 p && p.locs.all (lcB n.clocks) && p.egs.all (egB n p)
def vlB (v:Vr):Bool:=decide (-2147483648<=v.lo) && decide (v.hi<=2147483648)
def hdB (n:Nt):Bool:=!(decide (n.clocks < 0) || decide (8 < n.clocks) || decide (16 < n.vars.length) || decide (16 < n.chans.length) || decide (6 < n.procs.length) || decide (checkF nameB n.funcs≠0))
def hd2B (n:Nt):Bool:=((((decide (nmsB n).Nodup && (nmsB n).all nameB) && n.vars.all vlB) && n.vars.all vrB) && decide ((funcsP nameB n.funcs (n.vars.map Vr.nm)).2=0)) && decide ((0:Int) < n.procs.length)
def validB (n:Nt):Bool:=hdB n && hd2B n && n.procs.all (prB n)
/-- No part is greater than what any machine counts. -/
structure NtS (n:Nt):Prop where
 pl:n.procs.length<=1000000
 ll:∀ p∈n.procs,p.locs.length<=1000000/\p.egs.length<=1000000
 lc:∀ p∈n.procs,(∀ y∈p.locs,y.inv.length<=1000000)/\∀ y∈p.egs,y.ss.length<=1000000/\y.rs.length<=1000000
 fs:n.funcs.length<=0
 fl:n.funcs.length<=900000
 cd:∀ p∈n.procs,∀ x∈p.egs,nodesE x.cd<=1000000/\∀ s∈x.ss,nodesE s.e<=1000000
theorem Z_join {G:Prop} {E:Env} {n:Nat} {c:Code} {Q:SPred} {ι:Type} (S:ι->Ev) (I:ι->AStore->Prop) (okS:∀ i,okT (S i)=true)
  (main:(∀ i σ e,I i σ->subE (S i) e->Z E n c Q e σ)->G) (rest:∀ i σ,I i σ->Z E n c Q (S i) σ):G:=
 main fun i σ _ hi hs=>Z_less (rest i σ hi) (okS i) hs
theorem valid_pre {n:Nt} {x:Pr} {y:Eg} {j m:Nat} (hx:x∈n.procs) (hy:y∈x.egs) (hv:validB n=true):
  (((((((n.procs.take j).all (prB n) && prB0 x) && x.locs.all (lcB n.clocks)) && (x.egs.take m).all (egB n x)) && egB1 n x y && cnsB n.clocks y.gd) && egB3 y) && y.rs.all (rtB n.clocks))=true:=by
 have hp:∀ x∈n.procs,prB n x=true:=by
  simp only [validB,Bool.and_eq_true,List.all_eq_true] at hv
  exact hv.2
 have h1:=hp x hx
 simp only [prB,Bool.and_eq_true,List.all_eq_true] at h1
 have h2:=h1.2 y hy
 simp only [egB,Bool.and_eq_true] at h2
 have q1:(n.procs.take j).all (prB n)=true:=List.all_eq_true.2 fun z hz=>hp z (List.mem_of_mem_take hz)
 have q2:(x.egs.take m).all (egB n x)=true:=List.all_eq_true.2 fun z hz=>h1.2 z (List.mem_of_mem_take hz)
 have q3:x.locs.all (lcB n.clocks)=true:=List.all_eq_true.2 h1.1.2
 rw [q1,q2,q3,h1.1.1,h2.1.1.1.1.1.1,h2.1.1.1.1.1.2,h2.1.1.1.1.2,h2.1.1.1.2]
 rfl
theorem validC {w:WD} {n:Nt} {v:AVal} (h:IsNt n v) (hs:NtS n):GivesV (EE w) 25 [v] (.sc (.int .i64 (if validB n then 0 else 2))):=by
 have hwf:=h.wf
 obtain ⟨SV,SC,SF,SP,fels,rfl,icl,⟨hV,lv,hvo⟩,⟨hC,lc,hco⟩,hF,hFs,lf,hP⟩:=h
 have hVn:∀ σ:AStore,aLen (.slice 0) SV σ=some (.sc (.int .i64 (n.vars.length))):=fun σ=>by have:=hV.len (σ:=σ); rwa [List.length_map] at this
 have hCn:∀ σ:AStore,aLen (.slice 0) SC σ=some (.sc (.int .i64 (n.chans.length))):=fun σ=>by have:=hC.len (σ:=σ); rwa [List.length_map] at this
 obtain ⟨pels,hP1,hPl,hPat⟩:=hP.at'
 have hPn:∀ σ:AStore,aLen (.slice 0) SP σ=some (.sc (.int .i64 (n.procs.length))):=fun σ=>hP1.lenN hPl
 have kV:=hV.fit
 have cV:=hV.cells
 have iV:=hV.isCell
 have kC:=hC.fit
 have cC:=hC.cells
 have iC:=hC.isCell
 have kF:=hF.fit
 have cF:=hF.cells
 have iF:=hF.isCell
 have kP:=hP1.fit
 have cP:=hP1.cells
 have iP:=hP1.isCell
 refine GivesV.of gWF (.cons _ _ hwf .nil) 2 ?_
 refine of_25 rfl rfl rfl (by kernel_rfl) ?_
 simp -implicitDefEqProofs only [go_sem,kV,cV,iV,kC,cC,iC,kF,cF,iF,kP,cP,iP]
 have g0:(empty.alloc (.cells 5 [.agg [(.sc (.int .i64 (n.clocks))),SV,SC,SF,SP]])).get 0=some (.cells 5 [.agg [(.sc (.int .i64 (n.clocks))),SV,SC,SF,SP]]):=by rw [AStore.get_alloc]; rfl
 have hnx:(empty.alloc (.cells 5 [.agg [(.sc (.int .i64 (n.clocks))),SV,SC,SF,SP]])).next=1:=rfl
 generalize empty.alloc (.cells 5 [.agg [(.sc (.int .i64 (n.clocks))),SV,SC,SF,SP]])=τ at g0 hnx ⊢
 refine Z_scope0 ?_
 have hF0:=fun w:WD=>checkFuncsC (w:=w) hF hFs lf (by have:=hs.fs; omega)
 have ret2:∀ {σ:AStore},validB n=false->∃ u,AEnd.ret (.sc (.int .i64 (2)))=AEnd.ret u/\frz σ 2 u=some (.sc (.int .i64 (if validB n then 0 else 2))):=fun h=>⟨_,rfl,by rw [h]; rfl⟩
 cases hb1:decide (n.clocks < 0) with
 | true=>
  simp -implicitDefEqProofs only [go_sem,g0,hb1]
  (repeat' first|refine vw ?_ ?_<;>intro hq|refine vz ?_|simp -implicitDefEqProofs only [go_sem,g0,hb1])
  exact ret2 (by simp [validB,hdB,hb1])
 | false=>
 cases hb2:decide (8 < n.clocks) with
 | true=>
  simp -implicitDefEqProofs only [go_sem,g0,hb1,hb2]
  (repeat' first|refine vw ?_ ?_<;>intro hq|refine vz ?_|simp -implicitDefEqProofs only [go_sem,g0,hb1,hb2])
  exact ret2 (by simp [validB,hdB,hb2])
 | false=>
 have e3:decide ((16:Int) < n.vars.length)=decide (16 < n.vars.length):=decide_eq_decide.2 (by omega)
 cases hb3:decide (16 < n.vars.length) with
 | true=>
  rw [hb3] at e3
  simp -implicitDefEqProofs only [go_sem,g0,hb1,hb2,hVn,e3]
  (repeat' first|refine vw ?_ ?_<;>intro hq|refine vz ?_|simp -implicitDefEqProofs only [go_sem,g0,hb1,hb2,hVn,e3])
  exact ret2 (by simp [validB,hdB,hb3])
 | false=>
 rw [hb3] at e3
 have e4:decide ((16:Int) < n.chans.length)=decide (16 < n.chans.length):=decide_eq_decide.2 (by omega)
 cases hb4:decide (16 < n.chans.length) with
 | true=>
  rw [hb4] at e4
  simp -implicitDefEqProofs only [go_sem,g0,hb1,hb2,hVn,e3,hCn,e4]
  (repeat' first|refine vw ?_ ?_<;>intro hq|refine vz ?_|simp -implicitDefEqProofs only [go_sem,g0,hb1,hb2,hVn,e3,hCn,e4])
  exact ret2 (by simp [validB,hdB,hb4])
 | false=>
 rw [hb4] at e4
 have e5:decide ((6:Int) < n.procs.length)=decide (6 < n.procs.length):=decide_eq_decide.2 (by omega)
 cases hb5:decide (6 < n.procs.length) with
 | true=>
  rw [hb5] at e5
  simp -implicitDefEqProofs only [go_sem,g0,hb1,hb2,hVn,e3,hCn,e4,hPn,e5]
  (repeat' first|refine vw ?_ ?_<;>intro hq|refine vz ?_|simp -implicitDefEqProofs only [go_sem,g0,hb1,hb2,hVn,e3,hCn,e4,hPn,e5])
  exact ret2 (by simp [validB,hdB,hb5])
 | false=>
 rw [hb5] at e5
 cases hb6:decide (checkF nameB n.funcs=0) with
 | false=>
  simp -implicitDefEqProofs only [go_sem,g0,hb1,hb2,hVn,e3,hCn,e4,hPn,e5]
  refine (hF0 _).use ?_
  (repeat' first|refine vw ?_ ?_<;>intro hq|refine vz ?_|simp -implicitDefEqProofs only [go_sem,hb6])
  exact ret2 (by simp [validB,hdB,of_decide_eq_false hb6])
 | true=>
 have hhd:hdB n=true:=by simp [hdB,hb1,hb2,hb3,hb4,hb5,of_decide_eq_true hb6]
 simp -implicitDefEqProofs only [go_sem,g0,hb1,hb2,hVn,e3,hCn,e4,hPn,e5]
 refine (hF0 _).use ?_
 (repeat' first|refine vw ?_ ?_<;>intro hq|refine vz ?_|simp -implicitDefEqProofs only [go_sem,g0,hb6,kV,cV,iV,kC,cC,iC,kF,cF,iF,kP,cP,iP])
 have hl1:n.vars.length<=16:=by have:=of_decide_eq_false hb3; omega
 have hl2:n.chans.length<=16:=by have:=of_decide_eq_false hb4; omega
 obtain ⟨lnm,hlnm⟩:∃ l,l=nmsB n:=⟨_,rfl⟩
 have hln:lnm.length<=1000000:=by have:=hs.fl; rw [hlnm]; simp [nmsB]; omega
 have hN1:=hs.fl
 refine (namesC hV hC hF hFs (by omega) (by omega) (by omega)).use fun nv hnv=>?_
 change IsD 1 nv ((nmsB n).map sA) at hnv
 rw [<-hlnm] at hnv
 have kN:=hnv.fit
 have cN:=hnv.cells
 have iN:=hnv.isCell
 have hNn:∀ σ:AStore,aLen (.slice 0) nv σ=some (.sc (.int .i64 (lnm.length))):=fun σ=>by have:=hnv.len (σ:=σ); rwa [List.length_map] at this
 (repeat' first|refine vw ?_ ?_<;>intro hq|refine vz ?_|simp -implicitDefEqProofs only [go_sem,g0,kN,cN,iN])
 have r0:Ru (τ.alloc (.cells 1 [.agg [(.sc (.int .i64 (0)))]])) τ.next true:=⟨0,by rw [AStore.get_alloc,if_pos rfl],rfl⟩
 have k0:KeepM 1 τ (τ.alloc (.cells 1 [.agg [(.sc (.int .i64 (0)))]])):=(KeepS.alloc τ _).m
 have g0':=k0.2 _ _ (by decide) g0
 rw [hnx] at r0
 refine (differentC hnv hln).use ?_
 rw [hnx]
 have hn1:(τ.alloc (.cells 1 [.agg [(.sc (.int .i64 (0)))]])).next=2:=by rw [alloc_next,hnx]
 generalize τ.alloc (.cells 1 [.agg [(.sc (.int .i64 (0)))]])=τ1 at r0 k0 g0' hn1 ⊢
 clear k0 g0 hnx
 (repeat' first|refine vw ?_ ?_<;>intro hq|refine vz ?_|simp -implicitDefEqProofs only [go_sem])
 refine (demandC (c:=2) (by decide) r0).mono ?_
 rintro _ τ0 ⟨⟨v,rfl⟩,k0,r0⟩
 have g0:=k0.2 _ _ (by decide) g0'
 clear k0 g0'
 rw [Bool.true_and] at r0
 (repeat' first|refine vw ?_ ?_<;>intro hq|refine vz ?_|simp -implicitDefEqProofs only [go_sem,hNn])
 refine vlp (ι:=Nat) (fun j=>[(1,.ptr 0 0 0),(4,.ptr 1 0 0),(65,nv),(66,(.sc (.int .i64 (lnm.length)))),(67,(.sc (.int .i64 (j))))]) (fun j τ=>j<=lnm.length/\τ.get 0=some (.cells 5 [.agg [(.sc (.int .i64 (n.clocks))),SV,SC,SF,SP]])/\Ru τ 1 (decide lnm.Nodup && (lnm.take j).all nameB)) (fun j=>lnm.length - j) (fun _=>rfl) 0 ?_ ?_ ?_
 ·exact vsu
 ·exact ⟨Nat.zero_le _,g0,by simpa using r0⟩
 clear g0 r0
 rintro j τ ⟨hj,g0,r0⟩
 simp -implicitDefEqProofs only [go_sem]
 (refine vif ?_ ?_<;>intro hlt)
 ·obtain ⟨x,hx⟩:∃ x,lnm[j]?=some x:=⟨lnm[j]'(by omega),by simp⟩
  have hx':(lnm.map sA)[j]?=some (sA x):=by rw [List.getElem?_map,hx]; rfl
  have hix:=fun (σ:AStore)=>hnv.idx (σ:=σ) (k:=.i64) hx'
  have hw:=wrapS (i:=j) (by omega)
  have hat:=all_take1 (P:=nameB) hx
  (repeat' first|refine vw ?_ ?_<;>intro hq|refine vz ?_|simp -implicitDefEqProofs only [go_sem,hix,sA])
  refine (nameC _).use ?_
  (repeat' first|refine vw ?_ ?_<;>intro hq|refine vz ?_|simp -implicitDefEqProofs only [go_sem])
  refine (demandC (c:=2) (by decide) r0).mono ?_
  rintro _ τ' ⟨⟨v,rfl⟩,k',r'⟩
  (repeat' first|refine vw ?_ ?_<;>intro hq|refine vz ?_|simp -implicitDefEqProofs only [go_sem,hw])
  exact ⟨j+1,vom,⟨by omega,k'.2 _ _ (by decide) g0,by rw [hat]; simpa [Bool.and_assoc] using r'⟩,vsu⟩
 obtain rfl:j=lnm.length:=by omega
 rw [List.take_length] at r0
 (repeat' first|refine vw ?_ ?_<;>intro hq|refine vz ?_|simp -implicitDefEqProofs only [go_sem,g0,kV,cV,iV,kC,cC,iC,kF,cF,iF,kP,cP,iP,hVn])
 refine vlp (ι:=Nat) (fun j=>[(1,.ptr 0 0 0),(4,.ptr 1 0 0),(76,SV),(77,(.sc (.int .i64 (n.vars.length)))),(78,(.sc (.int .i64 (j))))]) (fun j τ=>j<=n.vars.length/\τ.get 0=some (.cells 5 [.agg [(.sc (.int .i64 (n.clocks))),SV,SC,SF,SP]])/\Ru τ 1 ((decide lnm.Nodup && lnm.all nameB) && (n.vars.take j).all vlB)) (fun j=>n.vars.length - j) (fun _=>rfl) 0 ?_ ?_ ?_
 ·exact vsu
 ·exact ⟨Nat.zero_le _,g0,by simpa using r0⟩
 clear g0 r0 hlt
 rintro j τ ⟨hj,g0,r0⟩
 simp -implicitDefEqProofs only [go_sem]
 (refine vif ?_ ?_<;>intro hlt)
 ·obtain ⟨x,hx⟩:∃ x,n.vars[j]?=some x:=⟨n.vars[j]'(by omega),by simp⟩
  have hx':(n.vars.map vrA)[j]?=some (vrA x):=by rw [List.getElem?_map,hx]; rfl
  have hix:=fun (σ:AStore)=>hV.idx (σ:=σ) (k:=.i64) hx'
  have hw:=wrapS (i:=j) (by omega)
  have hat:=all_take1 (P:=vlB) hx
  obtain ⟨nm,lo,hi,ini⟩:=x
  have hvb:vlB ⟨nm,lo,hi,ini⟩=(decide (-2147483648<=lo) && decide (hi<=2147483648)):=rfl
  have gx:∀ y z,((τ.alloc y).set τ.next z).get τ.next=some z:=fun y z=>by rw [AStore.get_set,if_pos ⟨rfl,by simp only [alloc_next]; omega⟩]
  cases hb7:decide (-2147483648<=lo)<;>cases hb8:decide (hi<=2147483648)
  all_goals
   rw [hb7,hb8] at hvb
   simp -implicitDefEqProofs only [go_sem,hix,vrA,sA,gx,hb7,hb8]
   (try (repeat' first|refine vw ?_ ?_<;>intro hq|refine vz ?_|simp -implicitDefEqProofs only [go_sem,hix,vrA,sA,gx,hb7,hb8]))
   refine (demandC (c:=2) (by decide) (r0.als _ _)).mono ?_
   rintro _ τ' ⟨⟨v,rfl⟩,k',r'⟩
   (repeat' first|refine vw ?_ ?_<;>intro hq|refine vz ?_|simp -implicitDefEqProofs only [go_sem,hw])
   exact ⟨j+1,vom,⟨by omega,k'.2 _ _ (by decide) (get_al g0),by rw [hat,hvb]; simpa [Bool.and_assoc] using r'⟩,vsu⟩
 obtain rfl:j=n.vars.length:=by omega
 rw [List.take_length] at r0
 (repeat' first|refine vw ?_ ?_<;>intro hq|refine vz ?_|simp -implicitDefEqProofs only [go_sem,g0,kV,cV,iV,kC,cC,iC,kF,cF,iF,kP,cP,iP,hPn])
 refine (declaredC r0 hV (by omega) hF hFs lf (by have:=hs.fs; omega)).mono ?_
 rintro _ τ' ⟨A,rfl,k',hA,r'⟩
 have g0':=k'.2 _ _ (by decide) g0
 clear g0 r0 hlt
 have kA:A.fit=true:=by
  rcases hA with hA|⟨b,rfl,_⟩
  ·exact hA.fit
  ·rfl
 have iA:A.isCell=true:=by
  rcases hA with hA|⟨b,rfl,_⟩
  ·exact hA.isCell
  ·rfl
 have cA:A.cells=[A]:=by
  rcases hA with hA|⟨b,rfl,_⟩
  ·exact hA.cells
  ·rfl
 obtain ⟨e,ge,hee⟩:=r'
 have h1l:=AStore.lt_of_get ge
 have hz1:τ'.next < τ'.next+1:=Nat.lt_succ_self _
 have hz2:¬ 1=τ'.next:=by omega
 have hrr:Ru τ' 1 ((((decide lnm.Nodup && lnm.all nameB) && n.vars.all vlB) && n.vars.all vrB && decide ((funcsP nameB n.funcs (n.vars.map Vr.nm)).2=0)) && decide ((0:Int) < n.procs.length)):=⟨e,ge,hee⟩
 have hh2:hd2B n=decide (e=0):=by rw [hee,hlnm]; rfl
 clear hee
 have q0:=get_al (y:=.cells 2 [.agg [(.sc (.slice none 0 0)),(.sc (.slice none 0 0))]]) (z:=.cells 2 [.agg [A,SF]]) g0'
 have qe:=get_al (y:=.cells 2 [.agg [(.sc (.slice none 0 0)),(.sc (.slice none 0 0))]]) (z:=.cells 2 [.agg [A,SF]]) ge
 have qA:=hA.keepM hrr (KeepM.als τ' (.cells 2 [.agg [(.sc (.slice none 0 0)),(.sc (.slice none 0 0))]]) (.cells 2 [.agg [A,SF]]))
 have q9:((τ'.alloc (.cells 2 [.agg [(.sc (.slice none 0 0)),(.sc (.slice none 0 0))]])).set τ'.next (.cells 2 [.agg [A,SF]])).get τ'.next=some (.cells 2 [.agg [A,SF]]):=by rw [AStore.get_set,if_pos ⟨rfl,by simp only [alloc_next]; omega⟩]
 simp -implicitDefEqProofs only [go_sem,g0',kF,cF,iF,kA,cA,iA,ge,hz1,hz2]
 obtain ⟨c9,hc9⟩:∃ c,c=τ'.next:=⟨_,rfl⟩
 rw [<-hc9] at q0 qe qA q9 h1l ⊢
 generalize (τ'.alloc (.cells 2 [.agg [(.sc (.slice none 0 0)),(.sc (.slice none 0 0))]])).set c9 (.cells 2 [.agg [A,SF]])=σ0 at q0 qe qA q9 ⊢
 have hc91:c9≠1:=by omega
 clear g0' ge hA hrr hc9 h1l hz1 hz2 k'
 cases hb9:decide (e=0) with
 | false=>
  (repeat' first|refine vw ?_ ?_<;>intro hq|refine vz ?_|simp -implicitDefEqProofs only [go_sem,qe,hb9])
  exact ret2 (by simp [validB,hh2,hb9])
 | true=>
 rw [hb9] at hh2
 have r0:Ru σ0 1 true:=⟨e,qe,hb9⟩
 (repeat' first|refine vw ?_ ?_<;>intro hq|refine vz ?_|simp -implicitDefEqProofs only [go_sem,qe,hb9,q0,kV,cV,iV,kC,cC,iC,kF,cF,iF,kP,cP,iP,hPn])
 refine vlp (ι:=Nat) (fun j=>[(1,.ptr 0 0 0),(4,.ptr 1 0 0),(9,.ptr c9 0 0),(10,.func (.func 51) [] [.ptr 1 0 0,.ptr 0 0 0]),(105,SP),(106,(.sc (.int .i64 (n.procs.length)))),(107,(.sc (.int .i64 (j))))]) (fun j τ=>j<=n.procs.length/\KeepM 1 σ0 τ/\Ru τ 1 ((n.procs.take j).all (prB n))) (fun j=>n.procs.length - j) (fun _=>rfl) 0 ?_ ?_ ?_
 ·exact vsu
 ·exact ⟨Nat.zero_le _,KeepM.refl' _ _,by simpa using r0⟩
 rintro j τ ⟨hj,k1,r1⟩
 have h1l:=AStore.lt_of_get r1.choose_spec.1
 simp -implicitDefEqProofs only [go_sem]
 (refine vif ?_ ?_<;>intro hlt)
 ·obtain ⟨x,hx⟩:∃ x,n.procs[j]?=some x:=⟨n.procs[j]'(by omega),by simp⟩
  obtain ⟨ev,hev,hpx⟩:=hPat j x hx
  have hix:=fun (σ:AStore)=>hP1.idx (σ:=σ) (k:=.i64) hev
  have hw:=wrapS (i:=j) (by have:=hs.pl; omega)
  have hat:=all_take1 (P:=prB n) hx
  have hxm:=List.mem_of_getElem? hx
  have hcd:=hs.cd x hxm
  obtain ⟨SL,SE,rfl,hL,hE,iini⟩:=hpx
  obtain ⟨lels,hL1,hLl,hLat⟩:=hL.at'
  obtain ⟨eels,hE1,hEl,hEat⟩:=hE.at'
  have kL:=hL1.fit
  have cL:=hL1.cells
  have iL:=hL1.isCell
  have kE:=hE1.fit
  have cE:=hE1.cells
  have iE:=hE1.isCell
  have hLn:∀ σ:AStore,aLen (.slice 0) SL σ=some (.sc (.int .i64 (x.locs.length))):=fun σ=>hL1.lenN hLl
  have hEn:∀ σ:AStore,aLen (.slice 0) SE σ=some (.sc (.int .i64 (x.egs.length))):=fun σ=>hE1.lenN hEl
  have gx:∀ y z,((τ.alloc y).set τ.next z).get τ.next=some z:=fun y z=>by rw [AStore.get_set,if_pos ⟨rfl,by simp only [alloc_next]; omega⟩]
  simp -implicitDefEqProofs only [go_sem]
  obtain ⟨cp,hcp⟩:∃ c,c=τ.next:=⟨_,rfl⟩
  have hcp1:cp≠1:=by omega
  apply Z_join (ι:=Unit) (fun _=>[(1,.ptr 0 0 0),(4,.ptr 1 0 0),(9,.ptr c9 0 0),(10,.func (.func 51) [] [.ptr 1 0 0,.ptr 0 0 0]),(105,SP),(106,(.sc (.int .i64 (n.procs.length)))),(107,(.sc (.int .i64 (j)))),(12,.ptr cp 0 0),(131,SL),(132,(.sc (.int .i64 (x.locs.length)))),(133,(.sc (.int .i64 (0))))])
   (fun _ τ'=>KeepM 1 σ0 τ'/\Ru τ' 1 ((n.procs.take j).all (prB n) && prB0 x)/\τ'.get cp=some (.cells 3 [.agg [(.sc (.int .i64 (x.ini))),SL,SE]])) (fun _=>rfl)
  ·intro J
   have hvb:prB0 x=((wiB x.ini x.locs.length && decide (x.locs.length<=20)) && decide (x.egs.length<=60)):=rfl
   have e20:decide ((x.locs.length:Int)<=20)=decide (x.locs.length<=20):=decide_eq_decide.2 (by omega)
   have e60:decide ((x.egs.length:Int)<=60)=decide (x.egs.length<=60):=decide_eq_decide.2 (by omega)
   cases hb1:wiB x.ini x.locs.length<;>cases hb2:decide (x.locs.length<=20)
   all_goals
    rw [hb1,hb2] at hvb
    rw [hb2] at e20
    (repeat' first|refine vw ?_ ?_<;>intro hq|refine vz ?_|simp -implicitDefEqProofs only [go_sem,hix,kL,cL,iL,kE,cE,iE,gx,hLn,e20])
    refine (withinC _ _).use ?_
    (repeat' first|refine vw ?_ ?_<;>intro hq|refine vz ?_|simp -implicitDefEqProofs only [go_sem,gx,hb1,kL,cL,iL,kE,cE,iE,hLn,hEn,e20,e60])
    refine (demandC (c:=2) (by decide) (r1.als _ _)).mono ?_
    rintro _ τ' ⟨⟨v,rfl⟩,k',r'⟩
    have gp:=k'.2 τ.next _ (by omega) (gx _ _)
    simp -implicitDefEqProofs only [go_sem,gp,kL,cL,iL,kE,cE,iE,hLn]
    refine J () _ _ ⟨k1.trans ((KeepM.als _ _ _).trans k'),by rw [hvb]; simpa [Bool.and_assoc] using r',by rw [hcp]; exact gp⟩ ?_
    rw [hcp]
    exact vsu
  rintro _ τ' ⟨k2,r2,gp⟩
  refine vlp (ι:=Nat) (fun i=>[(1,.ptr 0 0 0),(4,.ptr 1 0 0),(9,.ptr c9 0 0),(10,.func (.func 51) [] [.ptr 1 0 0,.ptr 0 0 0]),(105,SP),(106,(.sc (.int .i64 (n.procs.length)))),(107,(.sc (.int .i64 (j)))),(12,.ptr cp 0 0),(131,SL),(132,(.sc (.int .i64 (x.locs.length)))),(133,(.sc (.int .i64 (i))))]) (fun i τ=>i<=x.locs.length/\KeepM 1 σ0 τ/\Ru τ 1 (((n.procs.take j).all (prB n) && prB0 x) && (x.locs.take i).all (lcB n.clocks))/\τ.get cp=some (.cells 3 [.agg [(.sc (.int .i64 (x.ini))),SL,SE]])) (fun i=>x.locs.length - i) (fun _=>rfl) 0 ?_ ?_ ?_
  ·exact vsu
  ·exact ⟨Nat.zero_le _,k2,by simpa using r2,gp⟩
  rintro i σ ⟨hi,k2,r2,gp⟩
  have h1l:=AStore.lt_of_get r2.choose_spec.1
  simp -implicitDefEqProofs only [go_sem]
  (refine vif ?_ ?_<;>intro hli)
  ·obtain ⟨y,hy⟩:∃ y,x.locs[i]?=some y:=⟨x.locs[i]'(by omega),by simp⟩
   obtain ⟨ev,hev,hly⟩:=hLat i y hy
   have hix:=fun (σ:AStore)=>hL1.idx (σ:=σ) (k:=.i64) hev
   have hwi:=wrapS (i:=i) (by have:=(hs.ll x hxm).1; omega)
   have hai:=all_take1 (P:=lcB n.clocks) hy
   have hlv:=(hs.lc x hxm).1 y (List.mem_of_getElem? hy)
   obtain ⟨S,rfl,hI,iy1,iy2⟩:=hly
   have kS:=hI.1.fit
   have cS:=hI.1.cells
   have iS:=hI.1.isCell
   have hSn:∀ σ:AStore,aLen (.slice 0) S σ=some (.sc (.int .i64 (y.inv.length))):=fun σ=>by have:=hI.1.len (σ:=σ); rwa [List.length_map] at this
   have gx:∀ y z,((σ.alloc y).set σ.next z).get σ.next=some z:=fun y z=>by rw [AStore.get_set,if_pos ⟨rfl,by simp only [alloc_next]; omega⟩]
   apply Z_join (ι:=Unit) (fun _=>[(1,.ptr 0 0 0),(4,.ptr 1 0 0),(9,.ptr c9 0 0),(10,.func (.func 51) [] [.ptr 1 0 0,.ptr 0 0 0]),(105,SP),(106,(.sc (.int .i64 (n.procs.length)))),(107,(.sc (.int .i64 (j)))),(12,.ptr cp 0 0),(131,SL),(132,(.sc (.int .i64 (x.locs.length)))),(133,(.sc (.int .i64 (i)))),(151,S),(152,(.sc (.int .i64 (y.inv.length)))),(153,(.sc (.int .i64 (0))))])
    (fun _ τ'=>KeepM 1 σ0 τ'/\Ru τ' 1 ((((n.procs.take j).all (prB n) && prB0 x) && (x.locs.take i).all (lcB n.clocks)) && (wiB y.kind 3 && raB y.rate) && cnsB n.clocks y.inv)/\τ'.get cp=some (.cells 3 [.agg [(.sc (.int .i64 (x.ini))),SL,SE]])) (fun _=>rfl)
   ·intro J
    cases hb1:wiB y.kind 3
    all_goals
     (repeat' first|refine vw ?_ ?_<;>intro hq|refine vz ?_|simp -implicitDefEqProofs only [go_sem,hix,kS,cS,iS,gx])
     refine (withinC _ _).use ?_
     (repeat' first|refine vw ?_ ?_<;>intro hq|refine vz ?_|simp -implicitDefEqProofs only [go_sem,gx,hb1,kS,cS,iS])
     (try (refine (rateC _).use ?_; (repeat' first|refine vw ?_ ?_<;>intro hq|refine vz ?_|simp -implicitDefEqProofs only [go_sem,gx,hb1,kS,cS,iS])))
     refine (demandC (c:=2) (by decide) (r2.als _ _)).mono ?_
     rintro _ τ1 ⟨⟨v1,rfl⟩,k3,r3⟩
     have gy:=k3.2 σ.next _ (by omega) (gx _ _)
     (repeat' first|refine vw ?_ ?_<;>intro hq|refine vz ?_|simp -implicitDefEqProofs only [go_sem,gy,kS,cS,iS])
     refine (consC r3 rfl (k3.2 0 _ (by decide) (get_al (k2.2 0 _ (by decide) q0))) (by decide) icl hI).mono ?_
     rintro _ τ2 ⟨⟨v2,rfl⟩,k4,r4⟩
     have gy2:=k4.2 σ.next _ (by omega) gy
     simp -implicitDefEqProofs only [go_sem,gy2,kS,cS,iS,hSn]
     refine J () _ _ ⟨k2.trans ((KeepM.als _ _ _).trans (k3.trans k4)),?_,k4.2 _ _ hcp1 (k3.2 _ _ hcp1 (get_al gp))⟩ vsu
     simpa [Bool.and_assoc,hb1] using r4
   rintro _ τ' ⟨k2,r2,gp⟩
   refine vlp (ι:=Nat) (fun k=>[(1,.ptr 0 0 0),(4,.ptr 1 0 0),(9,.ptr c9 0 0),(10,.func (.func 51) [] [.ptr 1 0 0,.ptr 0 0 0]),(105,SP),(106,(.sc (.int .i64 (n.procs.length)))),(107,(.sc (.int .i64 (j)))),(12,.ptr cp 0 0),(131,SL),(132,(.sc (.int .i64 (x.locs.length)))),(133,(.sc (.int .i64 (i)))),(151,S),(152,(.sc (.int .i64 (y.inv.length)))),(153,(.sc (.int .i64 (k))))]) (fun k τ=>k<=y.inv.length/\KeepM 1 σ0 τ/\Ru τ 1 (((((n.procs.take j).all (prB n) && prB0 x) && (x.locs.take i).all (lcB n.clocks)) && (wiB y.kind 3 && raB y.rate) && cnsB n.clocks y.inv) && (y.inv.take k).all upB)/\τ.get cp=some (.cells 3 [.agg [(.sc (.int .i64 (x.ini))),SL,SE]])) (fun k=>y.inv.length - k) (fun _=>rfl) 0 ?_ ?_ ?_
   ·exact vsu
   ·exact ⟨Nat.zero_le _,k2,by simpa using r2,gp⟩
   rintro k σ' ⟨hk,k2,r2,gp⟩
   have h1l:=AStore.lt_of_get r2.choose_spec.1
   simp -implicitDefEqProofs only [go_sem]
   (refine vif ?_ ?_<;>intro hlk)
   ·obtain ⟨z,hz⟩:∃ z,y.inv[k]?=some z:=⟨y.inv[k]'(by omega),by simp⟩
    have hz':(y.inv.map cnA)[k]?=some (cnA z):=by rw [List.getElem?_map,hz]; rfl
    have hiz:=fun (σ:AStore)=>hI.1.idx (σ:=σ) (k:=.i64) hz'
    have hwk:=wrapS (i:=k) (by omega)
    have hak:=all_take1 (P:=upB) hz
    obtain ⟨zk,zl,zs,zc⟩:=z
    have gz:∀ y z,((σ'.alloc y).set σ'.next z).get σ'.next=some z:=fun y z=>by rw [AStore.get_set,if_pos ⟨rfl,by simp only [alloc_next]; omega⟩]
    (repeat' first|refine vw ?_ ?_<;>intro hq|refine vz ?_|simp -implicitDefEqProofs only [go_sem,hiz,cnA,gz])
    refine (upperC (x:=⟨zk,zl,zs,zc⟩) (r2.als _ _)).mono ?_
    rintro _ τ2 ⟨⟨v2,rfl⟩,k4,r4⟩
    (repeat' first|refine vw ?_ ?_<;>intro hq|refine vz ?_|simp -implicitDefEqProofs only [go_sem,hwk])
    exact ⟨k+1,vom,⟨by omega,k2.trans ((KeepM.als _ _ _).trans k4),by rw [hak]; simpa [Bool.and_assoc] using r4,k4.2 _ _ hcp1 (get_al gp)⟩,vsu⟩
   ·obtain rfl:k=y.inv.length:=by omega
    rw [List.take_length] at r2
    (repeat' first|refine vw ?_ ?_<;>intro hq|refine vz ?_|simp -implicitDefEqProofs only [go_sem,hwi])
    exact ⟨i+1,vom,⟨by omega,k2,by rw [hai]; simpa [lcB,Bool.and_assoc] using r2,gp⟩,vsu⟩
  ·obtain rfl:i=x.locs.length:=by omega
   rw [List.take_length] at r2
   (repeat' first|refine vw ?_ ?_<;>intro hq|refine vz ?_|simp -implicitDefEqProofs only [go_sem,gp,kE,cE,iE,hEn,kL,cL,iL])
   refine vlp (ι:=Nat) (fun m=>[(1,.ptr 0 0 0),(4,.ptr 1 0 0),(9,.ptr c9 0 0),(10,.func (.func 51) [] [.ptr 1 0 0,.ptr 0 0 0]),(105,SP),(106,(.sc (.int .i64 (n.procs.length)))),(107,(.sc (.int .i64 (j)))),(12,.ptr cp 0 0),(162,SE),(163,(.sc (.int .i64 (x.egs.length)))),(164,(.sc (.int .i64 (m))))]) (fun m τ=>m<=x.egs.length/\KeepM 1 σ0 τ/\Ru τ 1 ((((n.procs.take j).all (prB n) && prB0 x) && x.locs.all (lcB n.clocks)) && (x.egs.take m).all (egB n x))/\τ.get cp=some (.cells 3 [.agg [(.sc (.int .i64 (x.ini))),SL,SE]])) (fun m=>x.egs.length - m) (fun _=>rfl) 0 ?_ ?_ ?_
   ·exact vsu
   ·exact ⟨Nat.zero_le _,k2,by simpa using r2,gp⟩
   rintro m σ ⟨hm,k2,r2,gp⟩
   have h1l:=AStore.lt_of_get r2.choose_spec.1
   simp -implicitDefEqProofs only [go_sem]
   (refine vif ?_ ?_<;>intro hlm)
   ·obtain ⟨y,hy⟩:∃ y,x.egs[m]?=some y:=⟨x.egs[m]'(by omega),by simp⟩
    obtain ⟨ev,hev,hey⟩:=hEat m y hy
    have hix:=fun (σ:AStore)=>hE1.idx (σ:=σ) (k:=.i64) hev
    have hwm:=wrapS (i:=m) (by have:=(hs.ll x hxm).2; omega)
    have ham:=all_take1 (P:=egB n x) hy
    have hym:=List.mem_of_getElem? hy
    have hlv:=(hs.lc x hxm).2 y hym
    have hcy:=hcd y hym
    have hey0:=hey
    obtain ⟨fr,to,gd,cd,ch,snd,ss,rs,cost,kind⟩:=y
    obtain ⟨G,a,a2,a3,a4,SS,SR,rfl,hG,hEx,hSs,hR,i1,i2,i3,i4,i5⟩:=hey
    have kG:=hG.1.fit
    have cG:=hG.1.cells
    have iG:=hG.1.isCell
    obtain ⟨sels,hS1,hSl,hSat⟩:=hSs.at'
    have kSS:=hS1.fit
    have cSS:=hS1.cells
    have iSS:=hS1.isCell
    have kR:=hR.1.fit
    have cR:=hR.1.cells
    have iR:=hR.1.isCell
    have hSn:∀ σ:AStore,aLen (.slice 0) SS σ=some (.sc (.int .i64 (ss.length))):=fun σ=>hS1.lenN hSl
    have hRn:∀ σ:AStore,aLen (.slice 0) SR σ=some (.sc (.int .i64 (rs.length))):=fun σ=>by have:=hR.1.len (σ:=σ); rwa [List.length_map] at this
    obtain ⟨kk,nn,ii,rfl,rfl,rfl,kX,cX,iX⟩:∃ (kk:Int) (nn:ByteArray) (ii:Int),a=(.sc (.int .i64 (kk)))/\a2=.sc (.string nn)/\a3=(.sc (.int .i64 (ii)))/\a4.fit=true/\a4.cells=[a4]/\a4.isCell=true:=by
     obtain ⟨k,nm,i,l⟩:=cd
     simp only [IsEx] at hEx
     obtain ⟨S,els,he,hS,_⟩:=hEx
     simp only [AVal.agg.injEq,List.cons.injEq,and_true] at he
     obtain ⟨rfl,rfl,rfl,rfl⟩:=he
     exact ⟨_,_,_,rfl,rfl,rfl,hS.fit,hS.cells,hS.isCell⟩
    have gx:∀ y z,((σ.alloc y).set σ.next z).get σ.next=some z:=fun y z=>by rw [AStore.get_set,if_pos ⟨rfl,by simp only [alloc_next]; omega⟩]
    have gp':∀ y z,((σ.alloc y).set σ.next z).get cp=some (.cells 3 [.agg [(.sc (.int .i64 (x.ini))),SL,SE]]):=fun y z=>get_al gp
    have g0':∀ y z,((σ.alloc y).set σ.next z).get 0=some (.cells 5 [.agg [(.sc (.int .i64 (n.clocks))),SV,SC,SF,SP]]):=fun y z=>get_al (k2.2 0 _ (by decide) q0)
    have hvb:egB1 n x ⟨fr,to,gd,cd,ch,snd,ss,rs,cost,kind⟩=((wiB fr x.locs.length && wiB to x.locs.length) && ((decide (ch=-1) && !snd) || wiB ch n.chans.length)):=rfl
    have hvc:egB3 ⟨fr,to,gd,cd,ch,snd,ss,rs,cost,kind⟩=(((decide (ss.length<=16) && decide (rs.length<=16)) && raB cost) && wiB kind 2):=rfl
    have e16:decide ((ss.length:Int)<=16)=decide (ss.length<=16):=decide_eq_decide.2 (by omega)
    have e17:decide ((rs.length:Int)<=16)=decide (rs.length<=16):=decide_eq_decide.2 (by omega)
    have hb3:decide (kind=kind)=true:=by simp
    obtain ⟨ce,hce⟩:∃ c,c=σ.next:=⟨_,rfl⟩
    have hce1:ce≠1:=by omega
    apply Z_join (ι:=Unit) (fun _=>[(1,.ptr 0 0 0),(4,.ptr 1 0 0),(9,.ptr c9 0 0),(10,.func (.func 51) [] [.ptr 1 0 0,.ptr 0 0 0]),(105,SP),(106,(.sc (.int .i64 (n.procs.length)))),(107,(.sc (.int .i64 (j)))),(12,.ptr cp 0 0),(162,SE),(163,(.sc (.int .i64 (x.egs.length)))),(164,(.sc (.int .i64 (m)))),(18,.ptr ce 0 0),(227,SR),(228,(.sc (.int .i64 (rs.length)))),(229,(.sc (.int .i64 (0))))])
     (fun _ τ=>KeepM 1 σ0 τ/\Ru τ 1 ((((((n.procs.take j).all (prB n) && prB0 x) && x.locs.all (lcB n.clocks)) && (x.egs.take m).all (egB n x)) && egB1 n x ⟨fr,to,gd,cd,ch,snd,ss,rs,cost,kind⟩ && cnsB n.clocks gd) && egB3 ⟨fr,to,gd,cd,ch,snd,ss,rs,cost,kind⟩)/\τ.get cp=some (.cells 3 [.agg [(.sc (.int .i64 (x.ini))),SL,SE]])/\τ.get ce=some (.cells 13 [.agg [(.sc (.int .i64 (fr))),(.sc (.int .i64 (to))),G,(.sc (.int .i64 (kk))),.sc (.string nn),(.sc (.int .i64 (ii))),a4,(.sc (.int .i64 (ch))),(.sc (.bool (snd))),SS,SR,(.sc (.int .i64 (cost))),(.sc (.int .i64 (kind)))]])) (fun _=>rfl)
    ·intro J
     have h5:(wiB fr x.locs.length=false)\/(wiB fr x.locs.length=true/\wiB to x.locs.length=false)\/(wiB fr x.locs.length=true/\wiB to x.locs.length=true/\decide (ch=-1)=false)\/(wiB fr x.locs.length=true/\wiB to x.locs.length=true/\decide (ch=-1)=true/\snd=false)\/(wiB fr x.locs.length=true/\wiB to x.locs.length=true/\decide (ch=-1)=true/\snd=true):=by
      cases wiB fr x.locs.length<;>cases wiB to x.locs.length<;>cases decide (ch=-1)<;>cases snd<;>simp
     have h4:(decide (ss.length<=16)=false)\/(decide (ss.length<=16)=true/\decide (rs.length<=16)=false)\/(decide (ss.length<=16)=true/\decide (rs.length<=16)=true/\raB cost=false)\/(decide (ss.length<=16)=true/\decide (rs.length<=16)=true/\raB cost=true):=by
      cases decide (ss.length<=16)<;>cases decide (rs.length<=16)<;>cases raB cost<;>simp
     rcases h5 with h51|⟨h51,h52⟩|⟨h51,h52,h53⟩|⟨h51,h52,h53,rfl⟩|⟨h51,h52,h53,rfl⟩
     ·rw [h51] at hvb
      (repeat' first|refine vw ?_ ?_<;>intro hq|refine vz ?_|simp -implicitDefEqProofs only [go_sem,hix,kX,cX,iX,kG,cG,iG,kSS,cSS,iSS,kR,cR,iR,kL,cL,iL,kE,cE,iE,gx,gp',g0',hLn,hCn,kC,cC,iC,kV,cV,iV,kF,cF,iF,kP,cP,iP,h51])
      refine (withinC _ _).use ?_
      (repeat' first|refine vw ?_ ?_<;>intro hq|refine vz ?_|simp -implicitDefEqProofs only [go_sem,kX,cX,iX,kG,cG,iG,kSS,cSS,iSS,kR,cR,iR,kL,cL,iL,kE,cE,iE,gx,gp',g0',hLn,hCn,kC,cC,iC,kV,cV,iV,kF,cF,iF,kP,cP,iP,h51])
      refine (demandC (c:=2) (by decide) (r2.als _ _)).mono ?_
      rintro _ τ1 ⟨⟨v1,rfl⟩,k3,r3⟩
      have gy:=k3.2 σ.next _ (by omega) (gx _ _)
      have gp1:=k3.2 cp _ hcp1 (get_al gp)
      have g01:=k3.2 0 _ (by decide) (get_al (k2.2 0 _ (by decide) q0))
      (repeat' first|refine vw ?_ ?_<;>intro hq|refine vz ?_|simp -implicitDefEqProofs only [go_sem,gy,gp1,kX,cX,iX,kG,cG,iG,kSS,cSS,iSS,kR,cR,iR,kL,cL,iL,kE,cE,iE])
      refine (consC r3 rfl g01 (by decide) icl hG).mono ?_
      rintro _ τ2 ⟨⟨v2,rfl⟩,k4,r4⟩
      have gy2:=k4.2 σ.next _ (by omega) gy
      have gp2:=k4.2 cp _ hcp1 gp1
      have hkk:=k2.trans ((KeepM.als _ _ _).trans (k3.trans k4))
      rcases h4 with h41|⟨h41,h42⟩|⟨h41,h42,h43⟩|⟨h41,h42,h43⟩
      ·rw [h41] at hvc
       rw [h41] at e16
       (repeat' first|refine vw ?_ ?_<;>intro hq|refine vz ?_|simp -implicitDefEqProofs only [go_sem,gy2,hSn,hRn,kX,cX,iX,kG,cG,iG,kSS,cSS,iSS,kR,cR,iR,kL,cL,iL,kE,cE,iE,e16])
       refine (demandC (c:=2) (by decide) r4).mono ?_
       rintro _ τ3 ⟨⟨v3,rfl⟩,k5,r5⟩
       have gy3:=k5.2 σ.next _ (by omega) gy2
       simp -implicitDefEqProofs only [go_sem,gy3,kX,cX,iX,kG,cG,iG,kSS,cSS,iSS,kR,cR,iR,kL,cL,iL,kE,cE,iE,hRn]
       refine J () _ _ ⟨hkk.trans k5,?_,k5.2 _ _ hcp1 gp2,by rw [hce]; exact gy3⟩ (by rw [hce]; exact vsu)
       rw [hvb,hvc]
       simpa [Bool.and_assoc] using r5
      ·rw [h41,h42] at hvc
       rw [h41] at e16
       rw [h42] at e17
       (repeat' first|refine vw ?_ ?_<;>intro hq|refine vz ?_|simp -implicitDefEqProofs only [go_sem,gy2,hSn,hRn,kX,cX,iX,kG,cG,iG,kSS,cSS,iSS,kR,cR,iR,kL,cL,iL,kE,cE,iE,e16,e17])
       refine (demandC (c:=2) (by decide) r4).mono ?_
       rintro _ τ3 ⟨⟨v3,rfl⟩,k5,r5⟩
       have gy3:=k5.2 σ.next _ (by omega) gy2
       simp -implicitDefEqProofs only [go_sem,gy3,kX,cX,iX,kG,cG,iG,kSS,cSS,iSS,kR,cR,iR,kL,cL,iL,kE,cE,iE,hRn]
       refine J () _ _ ⟨hkk.trans k5,?_,k5.2 _ _ hcp1 gp2,by rw [hce]; exact gy3⟩ (by rw [hce]; exact vsu)
       rw [hvb,hvc]
       simpa [Bool.and_assoc] using r5
      ·rw [h41,h42,h43] at hvc
       rw [h41] at e16
       rw [h42] at e17
       (repeat' first|refine vw ?_ ?_<;>intro hq|refine vz ?_|simp -implicitDefEqProofs only [go_sem,gy2,hSn,hRn,kX,cX,iX,kG,cG,iG,kSS,cSS,iSS,kR,cR,iR,kL,cL,iL,kE,cE,iE,e16,e17,h43])
       refine (rateC _).use ?_
       (repeat' first|refine vw ?_ ?_<;>intro hq|refine vz ?_|simp -implicitDefEqProofs only [go_sem,gy2,hSn,hRn,kX,cX,iX,kG,cG,iG,kSS,cSS,iSS,kR,cR,iR,kL,cL,iL,kE,cE,iE,e16,e17,h43])
       refine (demandC (c:=2) (by decide) r4).mono ?_
       rintro _ τ3 ⟨⟨v3,rfl⟩,k5,r5⟩
       have gy3:=k5.2 σ.next _ (by omega) gy2
       simp -implicitDefEqProofs only [go_sem,gy3,kX,cX,iX,kG,cG,iG,kSS,cSS,iSS,kR,cR,iR,kL,cL,iL,kE,cE,iE,hRn]
       refine J () _ _ ⟨hkk.trans k5,?_,k5.2 _ _ hcp1 gp2,by rw [hce]; exact gy3⟩ (by rw [hce]; exact vsu)
       rw [hvb,hvc]
       simpa [Bool.and_assoc] using r5
      ·rw [h41,h42,h43] at hvc
       rw [h41] at e16
       rw [h42] at e17
       (repeat' first|refine vw ?_ ?_<;>intro hq|refine vz ?_|simp -implicitDefEqProofs only [go_sem,gy2,hSn,hRn,kX,cX,iX,kG,cG,iG,kSS,cSS,iSS,kR,cR,iR,kL,cL,iL,kE,cE,iE,e16,e17,h43])
       refine (rateC _).use ?_
       (repeat' first|refine vw ?_ ?_<;>intro hq|refine vz ?_|simp -implicitDefEqProofs only [go_sem,gy2,hSn,hRn,kX,cX,iX,kG,cG,iG,kSS,cSS,iSS,kR,cR,iR,kL,cL,iL,kE,cE,iE,e16,e17,h43])
       refine (withinC _ _).use ?_
       (repeat' first|refine vw ?_ ?_<;>intro hq|refine vz ?_|simp -implicitDefEqProofs only [go_sem,gy2,hSn,hRn,kX,cX,iX,kG,cG,iG,kSS,cSS,iSS,kR,cR,iR,kL,cL,iL,kE,cE,iE,e16,e17,h43])
       refine (demandC (c:=2) (by decide) r4).mono ?_
       rintro _ τ3 ⟨⟨v3,rfl⟩,k5,r5⟩
       have gy3:=k5.2 σ.next _ (by omega) gy2
       simp -implicitDefEqProofs only [go_sem,gy3,kX,cX,iX,kG,cG,iG,kSS,cSS,iSS,kR,cR,iR,kL,cL,iL,kE,cE,iE,hRn]
       refine J () _ _ ⟨hkk.trans k5,?_,k5.2 _ _ hcp1 gp2,by rw [hce]; exact gy3⟩ (by rw [hce]; exact vsu)
       rw [hvb,hvc]
       simpa [Bool.and_assoc] using r5
     ·rw [h51,h52] at hvb
      (repeat' first|refine vw ?_ ?_<;>intro hq|refine vz ?_|simp -implicitDefEqProofs only [go_sem,hix,kX,cX,iX,kG,cG,iG,kSS,cSS,iSS,kR,cR,iR,kL,cL,iL,kE,cE,iE,gx,gp',g0',hLn,hCn,kC,cC,iC,kV,cV,iV,kF,cF,iF,kP,cP,iP,h51,h52])
      refine (withinC _ _).use ?_
      (repeat' first|refine vw ?_ ?_<;>intro hq|refine vz ?_|simp -implicitDefEqProofs only [go_sem,kX,cX,iX,kG,cG,iG,kSS,cSS,iSS,kR,cR,iR,kL,cL,iL,kE,cE,iE,gx,gp',g0',hLn,hCn,kC,cC,iC,kV,cV,iV,kF,cF,iF,kP,cP,iP,h51,h52])
      refine (withinC _ _).use ?_
      (repeat' first|refine vw ?_ ?_<;>intro hq|refine vz ?_|simp -implicitDefEqProofs only [go_sem,kX,cX,iX,kG,cG,iG,kSS,cSS,iSS,kR,cR,iR,kL,cL,iL,kE,cE,iE,gx,gp',g0',hLn,hCn,kC,cC,iC,kV,cV,iV,kF,cF,iF,kP,cP,iP,h51,h52])
      refine (demandC (c:=2) (by decide) (r2.als _ _)).mono ?_
      rintro _ τ1 ⟨⟨v1,rfl⟩,k3,r3⟩
      have gy:=k3.2 σ.next _ (by omega) (gx _ _)
      have gp1:=k3.2 cp _ hcp1 (get_al gp)
      have g01:=k3.2 0 _ (by decide) (get_al (k2.2 0 _ (by decide) q0))
      (repeat' first|refine vw ?_ ?_<;>intro hq|refine vz ?_|simp -implicitDefEqProofs only [go_sem,gy,gp1,kX,cX,iX,kG,cG,iG,kSS,cSS,iSS,kR,cR,iR,kL,cL,iL,kE,cE,iE])
      refine (consC r3 rfl g01 (by decide) icl hG).mono ?_
      rintro _ τ2 ⟨⟨v2,rfl⟩,k4,r4⟩
      have gy2:=k4.2 σ.next _ (by omega) gy
      have gp2:=k4.2 cp _ hcp1 gp1
      have hkk:=k2.trans ((KeepM.als _ _ _).trans (k3.trans k4))
      rcases h4 with h41|⟨h41,h42⟩|⟨h41,h42,h43⟩|⟨h41,h42,h43⟩
      ·rw [h41] at hvc
       rw [h41] at e16
       (repeat' first|refine vw ?_ ?_<;>intro hq|refine vz ?_|simp -implicitDefEqProofs only [go_sem,gy2,hSn,hRn,kX,cX,iX,kG,cG,iG,kSS,cSS,iSS,kR,cR,iR,kL,cL,iL,kE,cE,iE,e16])
       refine (demandC (c:=2) (by decide) r4).mono ?_
       rintro _ τ3 ⟨⟨v3,rfl⟩,k5,r5⟩
       have gy3:=k5.2 σ.next _ (by omega) gy2
       simp -implicitDefEqProofs only [go_sem,gy3,kX,cX,iX,kG,cG,iG,kSS,cSS,iSS,kR,cR,iR,kL,cL,iL,kE,cE,iE,hRn]
       refine J () _ _ ⟨hkk.trans k5,?_,k5.2 _ _ hcp1 gp2,by rw [hce]; exact gy3⟩ (by rw [hce]; exact vsu)
       rw [hvb,hvc]
       simpa [Bool.and_assoc] using r5
      ·rw [h41,h42] at hvc
       rw [h41] at e16
       rw [h42] at e17
       (repeat' first|refine vw ?_ ?_<;>intro hq|refine vz ?_|simp -implicitDefEqProofs only [go_sem,gy2,hSn,hRn,kX,cX,iX,kG,cG,iG,kSS,cSS,iSS,kR,cR,iR,kL,cL,iL,kE,cE,iE,e16,e17])
       refine (demandC (c:=2) (by decide) r4).mono ?_
       rintro _ τ3 ⟨⟨v3,rfl⟩,k5,r5⟩
       have gy3:=k5.2 σ.next _ (by omega) gy2
       simp -implicitDefEqProofs only [go_sem,gy3,kX,cX,iX,kG,cG,iG,kSS,cSS,iSS,kR,cR,iR,kL,cL,iL,kE,cE,iE,hRn]
       refine J () _ _ ⟨hkk.trans k5,?_,k5.2 _ _ hcp1 gp2,by rw [hce]; exact gy3⟩ (by rw [hce]; exact vsu)
       rw [hvb,hvc]
       simpa [Bool.and_assoc] using r5
      ·rw [h41,h42,h43] at hvc
       rw [h41] at e16
       rw [h42] at e17
       (repeat' first|refine vw ?_ ?_<;>intro hq|refine vz ?_|simp -implicitDefEqProofs only [go_sem,gy2,hSn,hRn,kX,cX,iX,kG,cG,iG,kSS,cSS,iSS,kR,cR,iR,kL,cL,iL,kE,cE,iE,e16,e17,h43])
       refine (rateC _).use ?_
       (repeat' first|refine vw ?_ ?_<;>intro hq|refine vz ?_|simp -implicitDefEqProofs only [go_sem,gy2,hSn,hRn,kX,cX,iX,kG,cG,iG,kSS,cSS,iSS,kR,cR,iR,kL,cL,iL,kE,cE,iE,e16,e17,h43])
       refine (demandC (c:=2) (by decide) r4).mono ?_
       rintro _ τ3 ⟨⟨v3,rfl⟩,k5,r5⟩
       have gy3:=k5.2 σ.next _ (by omega) gy2
       simp -implicitDefEqProofs only [go_sem,gy3,kX,cX,iX,kG,cG,iG,kSS,cSS,iSS,kR,cR,iR,kL,cL,iL,kE,cE,iE,hRn]
       refine J () _ _ ⟨hkk.trans k5,?_,k5.2 _ _ hcp1 gp2,by rw [hce]; exact gy3⟩ (by rw [hce]; exact vsu)
       rw [hvb,hvc]
       simpa [Bool.and_assoc] using r5
      ·rw [h41,h42,h43] at hvc
       rw [h41] at e16
       rw [h42] at e17
       (repeat' first|refine vw ?_ ?_<;>intro hq|refine vz ?_|simp -implicitDefEqProofs only [go_sem,gy2,hSn,hRn,kX,cX,iX,kG,cG,iG,kSS,cSS,iSS,kR,cR,iR,kL,cL,iL,kE,cE,iE,e16,e17,h43])
       refine (rateC _).use ?_
       (repeat' first|refine vw ?_ ?_<;>intro hq|refine vz ?_|simp -implicitDefEqProofs only [go_sem,gy2,hSn,hRn,kX,cX,iX,kG,cG,iG,kSS,cSS,iSS,kR,cR,iR,kL,cL,iL,kE,cE,iE,e16,e17,h43])
       refine (withinC _ _).use ?_
       (repeat' first|refine vw ?_ ?_<;>intro hq|refine vz ?_|simp -implicitDefEqProofs only [go_sem,gy2,hSn,hRn,kX,cX,iX,kG,cG,iG,kSS,cSS,iSS,kR,cR,iR,kL,cL,iL,kE,cE,iE,e16,e17,h43])
       refine (demandC (c:=2) (by decide) r4).mono ?_
       rintro _ τ3 ⟨⟨v3,rfl⟩,k5,r5⟩
       have gy3:=k5.2 σ.next _ (by omega) gy2
       simp -implicitDefEqProofs only [go_sem,gy3,kX,cX,iX,kG,cG,iG,kSS,cSS,iSS,kR,cR,iR,kL,cL,iL,kE,cE,iE,hRn]
       refine J () _ _ ⟨hkk.trans k5,?_,k5.2 _ _ hcp1 gp2,by rw [hce]; exact gy3⟩ (by rw [hce]; exact vsu)
       rw [hvb,hvc]
       simpa [Bool.and_assoc] using r5
     ·rw [h51,h52,h53] at hvb
      (repeat' first|refine vw ?_ ?_<;>intro hq|refine vz ?_|simp -implicitDefEqProofs only [go_sem,hix,kX,cX,iX,kG,cG,iG,kSS,cSS,iSS,kR,cR,iR,kL,cL,iL,kE,cE,iE,gx,gp',g0',hLn,hCn,kC,cC,iC,kV,cV,iV,kF,cF,iF,kP,cP,iP,h51,h52,h53])
      refine (withinC _ _).use ?_
      (repeat' first|refine vw ?_ ?_<;>intro hq|refine vz ?_|simp -implicitDefEqProofs only [go_sem,kX,cX,iX,kG,cG,iG,kSS,cSS,iSS,kR,cR,iR,kL,cL,iL,kE,cE,iE,gx,gp',g0',hLn,hCn,kC,cC,iC,kV,cV,iV,kF,cF,iF,kP,cP,iP,h51,h52,h53])
      refine (withinC _ _).use ?_
      (repeat' first|refine vw ?_ ?_<;>intro hq|refine vz ?_|simp -implicitDefEqProofs only [go_sem,kX,cX,iX,kG,cG,iG,kSS,cSS,iSS,kR,cR,iR,kL,cL,iL,kE,cE,iE,gx,gp',g0',hLn,hCn,kC,cC,iC,kV,cV,iV,kF,cF,iF,kP,cP,iP,h51,h52,h53])
      refine (withinC _ _).use ?_
      (repeat' first|refine vw ?_ ?_<;>intro hq|refine vz ?_|simp -implicitDefEqProofs only [go_sem,kX,cX,iX,kG,cG,iG,kSS,cSS,iSS,kR,cR,iR,kL,cL,iL,kE,cE,iE,gx,gp',g0',hLn,hCn,kC,cC,iC,kV,cV,iV,kF,cF,iF,kP,cP,iP,h51,h52,h53])
      refine (demandC (c:=2) (by decide) (r2.als _ _)).mono ?_
      rintro _ τ1 ⟨⟨v1,rfl⟩,k3,r3⟩
      have gy:=k3.2 σ.next _ (by omega) (gx _ _)
      have gp1:=k3.2 cp _ hcp1 (get_al gp)
      have g01:=k3.2 0 _ (by decide) (get_al (k2.2 0 _ (by decide) q0))
      (repeat' first|refine vw ?_ ?_<;>intro hq|refine vz ?_|simp -implicitDefEqProofs only [go_sem,gy,gp1,kX,cX,iX,kG,cG,iG,kSS,cSS,iSS,kR,cR,iR,kL,cL,iL,kE,cE,iE])
      refine (consC r3 rfl g01 (by decide) icl hG).mono ?_
      rintro _ τ2 ⟨⟨v2,rfl⟩,k4,r4⟩
      have gy2:=k4.2 σ.next _ (by omega) gy
      have gp2:=k4.2 cp _ hcp1 gp1
      have hkk:=k2.trans ((KeepM.als _ _ _).trans (k3.trans k4))
      rcases h4 with h41|⟨h41,h42⟩|⟨h41,h42,h43⟩|⟨h41,h42,h43⟩
      ·rw [h41] at hvc
       rw [h41] at e16
       (repeat' first|refine vw ?_ ?_<;>intro hq|refine vz ?_|simp -implicitDefEqProofs only [go_sem,gy2,hSn,hRn,kX,cX,iX,kG,cG,iG,kSS,cSS,iSS,kR,cR,iR,kL,cL,iL,kE,cE,iE,e16])
       refine (demandC (c:=2) (by decide) r4).mono ?_
       rintro _ τ3 ⟨⟨v3,rfl⟩,k5,r5⟩
       have gy3:=k5.2 σ.next _ (by omega) gy2
       simp -implicitDefEqProofs only [go_sem,gy3,kX,cX,iX,kG,cG,iG,kSS,cSS,iSS,kR,cR,iR,kL,cL,iL,kE,cE,iE,hRn]
       refine J () _ _ ⟨hkk.trans k5,?_,k5.2 _ _ hcp1 gp2,by rw [hce]; exact gy3⟩ (by rw [hce]; exact vsu)
       rw [hvb,hvc]
       simpa [Bool.and_assoc] using r5
      ·rw [h41,h42] at hvc
       rw [h41] at e16
       rw [h42] at e17
       (repeat' first|refine vw ?_ ?_<;>intro hq|refine vz ?_|simp -implicitDefEqProofs only [go_sem,gy2,hSn,hRn,kX,cX,iX,kG,cG,iG,kSS,cSS,iSS,kR,cR,iR,kL,cL,iL,kE,cE,iE,e16,e17])
       refine (demandC (c:=2) (by decide) r4).mono ?_
       rintro _ τ3 ⟨⟨v3,rfl⟩,k5,r5⟩
       have gy3:=k5.2 σ.next _ (by omega) gy2
       simp -implicitDefEqProofs only [go_sem,gy3,kX,cX,iX,kG,cG,iG,kSS,cSS,iSS,kR,cR,iR,kL,cL,iL,kE,cE,iE,hRn]
       refine J () _ _ ⟨hkk.trans k5,?_,k5.2 _ _ hcp1 gp2,by rw [hce]; exact gy3⟩ (by rw [hce]; exact vsu)
       rw [hvb,hvc]
       simpa [Bool.and_assoc] using r5
      ·rw [h41,h42,h43] at hvc
       rw [h41] at e16
       rw [h42] at e17
       (repeat' first|refine vw ?_ ?_<;>intro hq|refine vz ?_|simp -implicitDefEqProofs only [go_sem,gy2,hSn,hRn,kX,cX,iX,kG,cG,iG,kSS,cSS,iSS,kR,cR,iR,kL,cL,iL,kE,cE,iE,e16,e17,h43])
       refine (rateC _).use ?_
       (repeat' first|refine vw ?_ ?_<;>intro hq|refine vz ?_|simp -implicitDefEqProofs only [go_sem,gy2,hSn,hRn,kX,cX,iX,kG,cG,iG,kSS,cSS,iSS,kR,cR,iR,kL,cL,iL,kE,cE,iE,e16,e17,h43])
       refine (demandC (c:=2) (by decide) r4).mono ?_
       rintro _ τ3 ⟨⟨v3,rfl⟩,k5,r5⟩
       have gy3:=k5.2 σ.next _ (by omega) gy2
       simp -implicitDefEqProofs only [go_sem,gy3,kX,cX,iX,kG,cG,iG,kSS,cSS,iSS,kR,cR,iR,kL,cL,iL,kE,cE,iE,hRn]
       refine J () _ _ ⟨hkk.trans k5,?_,k5.2 _ _ hcp1 gp2,by rw [hce]; exact gy3⟩ (by rw [hce]; exact vsu)
       rw [hvb,hvc]
       simpa [Bool.and_assoc] using r5
      ·rw [h41,h42,h43] at hvc
       rw [h41] at e16
       rw [h42] at e17
       (repeat' first|refine vw ?_ ?_<;>intro hq|refine vz ?_|simp -implicitDefEqProofs only [go_sem,gy2,hSn,hRn,kX,cX,iX,kG,cG,iG,kSS,cSS,iSS,kR,cR,iR,kL,cL,iL,kE,cE,iE,e16,e17,h43])
       refine (rateC _).use ?_
       (repeat' first|refine vw ?_ ?_<;>intro hq|refine vz ?_|simp -implicitDefEqProofs only [go_sem,gy2,hSn,hRn,kX,cX,iX,kG,cG,iG,kSS,cSS,iSS,kR,cR,iR,kL,cL,iL,kE,cE,iE,e16,e17,h43])
       refine (withinC _ _).use ?_
       (repeat' first|refine vw ?_ ?_<;>intro hq|refine vz ?_|simp -implicitDefEqProofs only [go_sem,gy2,hSn,hRn,kX,cX,iX,kG,cG,iG,kSS,cSS,iSS,kR,cR,iR,kL,cL,iL,kE,cE,iE,e16,e17,h43])
       refine (demandC (c:=2) (by decide) r4).mono ?_
       rintro _ τ3 ⟨⟨v3,rfl⟩,k5,r5⟩
       have gy3:=k5.2 σ.next _ (by omega) gy2
       simp -implicitDefEqProofs only [go_sem,gy3,kX,cX,iX,kG,cG,iG,kSS,cSS,iSS,kR,cR,iR,kL,cL,iL,kE,cE,iE,hRn]
       refine J () _ _ ⟨hkk.trans k5,?_,k5.2 _ _ hcp1 gp2,by rw [hce]; exact gy3⟩ (by rw [hce]; exact vsu)
       rw [hvb,hvc]
       simpa [Bool.and_assoc] using r5
     ·rw [h51,h52,h53] at hvb
      (repeat' first|refine vw ?_ ?_<;>intro hq|refine vz ?_|simp -implicitDefEqProofs only [go_sem,hix,kX,cX,iX,kG,cG,iG,kSS,cSS,iSS,kR,cR,iR,kL,cL,iL,kE,cE,iE,gx,gp',g0',hLn,hCn,kC,cC,iC,kV,cV,iV,kF,cF,iF,kP,cP,iP,h51,h52,h53])
      refine (withinC _ _).use ?_
      (repeat' first|refine vw ?_ ?_<;>intro hq|refine vz ?_|simp -implicitDefEqProofs only [go_sem,kX,cX,iX,kG,cG,iG,kSS,cSS,iSS,kR,cR,iR,kL,cL,iL,kE,cE,iE,gx,gp',g0',hLn,hCn,kC,cC,iC,kV,cV,iV,kF,cF,iF,kP,cP,iP,h51,h52,h53])
      refine (withinC _ _).use ?_
      (repeat' first|refine vw ?_ ?_<;>intro hq|refine vz ?_|simp -implicitDefEqProofs only [go_sem,kX,cX,iX,kG,cG,iG,kSS,cSS,iSS,kR,cR,iR,kL,cL,iL,kE,cE,iE,gx,gp',g0',hLn,hCn,kC,cC,iC,kV,cV,iV,kF,cF,iF,kP,cP,iP,h51,h52,h53])
      refine (demandC (c:=2) (by decide) (r2.als _ _)).mono ?_
      rintro _ τ1 ⟨⟨v1,rfl⟩,k3,r3⟩
      have gy:=k3.2 σ.next _ (by omega) (gx _ _)
      have gp1:=k3.2 cp _ hcp1 (get_al gp)
      have g01:=k3.2 0 _ (by decide) (get_al (k2.2 0 _ (by decide) q0))
      (repeat' first|refine vw ?_ ?_<;>intro hq|refine vz ?_|simp -implicitDefEqProofs only [go_sem,gy,gp1,kX,cX,iX,kG,cG,iG,kSS,cSS,iSS,kR,cR,iR,kL,cL,iL,kE,cE,iE])
      refine (consC r3 rfl g01 (by decide) icl hG).mono ?_
      rintro _ τ2 ⟨⟨v2,rfl⟩,k4,r4⟩
      have gy2:=k4.2 σ.next _ (by omega) gy
      have gp2:=k4.2 cp _ hcp1 gp1
      have hkk:=k2.trans ((KeepM.als _ _ _).trans (k3.trans k4))
      rcases h4 with h41|⟨h41,h42⟩|⟨h41,h42,h43⟩|⟨h41,h42,h43⟩
      ·rw [h41] at hvc
       rw [h41] at e16
       (repeat' first|refine vw ?_ ?_<;>intro hq|refine vz ?_|simp -implicitDefEqProofs only [go_sem,gy2,hSn,hRn,kX,cX,iX,kG,cG,iG,kSS,cSS,iSS,kR,cR,iR,kL,cL,iL,kE,cE,iE,e16])
       refine (demandC (c:=2) (by decide) r4).mono ?_
       rintro _ τ3 ⟨⟨v3,rfl⟩,k5,r5⟩
       have gy3:=k5.2 σ.next _ (by omega) gy2
       simp -implicitDefEqProofs only [go_sem,gy3,kX,cX,iX,kG,cG,iG,kSS,cSS,iSS,kR,cR,iR,kL,cL,iL,kE,cE,iE,hRn]
       refine J () _ _ ⟨hkk.trans k5,?_,k5.2 _ _ hcp1 gp2,by rw [hce]; exact gy3⟩ (by rw [hce]; exact vsu)
       rw [hvb,hvc]
       simpa [Bool.and_assoc] using r5
      ·rw [h41,h42] at hvc
       rw [h41] at e16
       rw [h42] at e17
       (repeat' first|refine vw ?_ ?_<;>intro hq|refine vz ?_|simp -implicitDefEqProofs only [go_sem,gy2,hSn,hRn,kX,cX,iX,kG,cG,iG,kSS,cSS,iSS,kR,cR,iR,kL,cL,iL,kE,cE,iE,e16,e17])
       refine (demandC (c:=2) (by decide) r4).mono ?_
       rintro _ τ3 ⟨⟨v3,rfl⟩,k5,r5⟩
       have gy3:=k5.2 σ.next _ (by omega) gy2
       simp -implicitDefEqProofs only [go_sem,gy3,kX,cX,iX,kG,cG,iG,kSS,cSS,iSS,kR,cR,iR,kL,cL,iL,kE,cE,iE,hRn]
       refine J () _ _ ⟨hkk.trans k5,?_,k5.2 _ _ hcp1 gp2,by rw [hce]; exact gy3⟩ (by rw [hce]; exact vsu)
       rw [hvb,hvc]
       simpa [Bool.and_assoc] using r5
      ·rw [h41,h42,h43] at hvc
       rw [h41] at e16
       rw [h42] at e17
       (repeat' first|refine vw ?_ ?_<;>intro hq|refine vz ?_|simp -implicitDefEqProofs only [go_sem,gy2,hSn,hRn,kX,cX,iX,kG,cG,iG,kSS,cSS,iSS,kR,cR,iR,kL,cL,iL,kE,cE,iE,e16,e17,h43])
       refine (rateC _).use ?_
       (repeat' first|refine vw ?_ ?_<;>intro hq|refine vz ?_|simp -implicitDefEqProofs only [go_sem,gy2,hSn,hRn,kX,cX,iX,kG,cG,iG,kSS,cSS,iSS,kR,cR,iR,kL,cL,iL,kE,cE,iE,e16,e17,h43])
       refine (demandC (c:=2) (by decide) r4).mono ?_
       rintro _ τ3 ⟨⟨v3,rfl⟩,k5,r5⟩
       have gy3:=k5.2 σ.next _ (by omega) gy2
       simp -implicitDefEqProofs only [go_sem,gy3,kX,cX,iX,kG,cG,iG,kSS,cSS,iSS,kR,cR,iR,kL,cL,iL,kE,cE,iE,hRn]
       refine J () _ _ ⟨hkk.trans k5,?_,k5.2 _ _ hcp1 gp2,by rw [hce]; exact gy3⟩ (by rw [hce]; exact vsu)
       rw [hvb,hvc]
       simpa [Bool.and_assoc] using r5
      ·rw [h41,h42,h43] at hvc
       rw [h41] at e16
       rw [h42] at e17
       (repeat' first|refine vw ?_ ?_<;>intro hq|refine vz ?_|simp -implicitDefEqProofs only [go_sem,gy2,hSn,hRn,kX,cX,iX,kG,cG,iG,kSS,cSS,iSS,kR,cR,iR,kL,cL,iL,kE,cE,iE,e16,e17,h43])
       refine (rateC _).use ?_
       (repeat' first|refine vw ?_ ?_<;>intro hq|refine vz ?_|simp -implicitDefEqProofs only [go_sem,gy2,hSn,hRn,kX,cX,iX,kG,cG,iG,kSS,cSS,iSS,kR,cR,iR,kL,cL,iL,kE,cE,iE,e16,e17,h43])
       refine (withinC _ _).use ?_
       (repeat' first|refine vw ?_ ?_<;>intro hq|refine vz ?_|simp -implicitDefEqProofs only [go_sem,gy2,hSn,hRn,kX,cX,iX,kG,cG,iG,kSS,cSS,iSS,kR,cR,iR,kL,cL,iL,kE,cE,iE,e16,e17,h43])
       refine (demandC (c:=2) (by decide) r4).mono ?_
       rintro _ τ3 ⟨⟨v3,rfl⟩,k5,r5⟩
       have gy3:=k5.2 σ.next _ (by omega) gy2
       simp -implicitDefEqProofs only [go_sem,gy3,kX,cX,iX,kG,cG,iG,kSS,cSS,iSS,kR,cR,iR,kL,cL,iL,kE,cE,iE,hRn]
       refine J () _ _ ⟨hkk.trans k5,?_,k5.2 _ _ hcp1 gp2,by rw [hce]; exact gy3⟩ (by rw [hce]; exact vsu)
       rw [hvb,hvc]
       simpa [Bool.and_assoc] using r5
     ·rw [h51,h52,h53] at hvb
      (repeat' first|refine vw ?_ ?_<;>intro hq|refine vz ?_|simp -implicitDefEqProofs only [go_sem,hix,kX,cX,iX,kG,cG,iG,kSS,cSS,iSS,kR,cR,iR,kL,cL,iL,kE,cE,iE,gx,gp',g0',hLn,hCn,kC,cC,iC,kV,cV,iV,kF,cF,iF,kP,cP,iP,h51,h52,h53])
      refine (withinC _ _).use ?_
      (repeat' first|refine vw ?_ ?_<;>intro hq|refine vz ?_|simp -implicitDefEqProofs only [go_sem,kX,cX,iX,kG,cG,iG,kSS,cSS,iSS,kR,cR,iR,kL,cL,iL,kE,cE,iE,gx,gp',g0',hLn,hCn,kC,cC,iC,kV,cV,iV,kF,cF,iF,kP,cP,iP,h51,h52,h53])
      refine (withinC _ _).use ?_
      (repeat' first|refine vw ?_ ?_<;>intro hq|refine vz ?_|simp -implicitDefEqProofs only [go_sem,kX,cX,iX,kG,cG,iG,kSS,cSS,iSS,kR,cR,iR,kL,cL,iL,kE,cE,iE,gx,gp',g0',hLn,hCn,kC,cC,iC,kV,cV,iV,kF,cF,iF,kP,cP,iP,h51,h52,h53])
      refine (withinC _ _).use ?_
      (repeat' first|refine vw ?_ ?_<;>intro hq|refine vz ?_|simp -implicitDefEqProofs only [go_sem,kX,cX,iX,kG,cG,iG,kSS,cSS,iSS,kR,cR,iR,kL,cL,iL,kE,cE,iE,gx,gp',g0',hLn,hCn,kC,cC,iC,kV,cV,iV,kF,cF,iF,kP,cP,iP,h51,h52,h53])
      refine (demandC (c:=2) (by decide) (r2.als _ _)).mono ?_
      rintro _ τ1 ⟨⟨v1,rfl⟩,k3,r3⟩
      have gy:=k3.2 σ.next _ (by omega) (gx _ _)
      have gp1:=k3.2 cp _ hcp1 (get_al gp)
      have g01:=k3.2 0 _ (by decide) (get_al (k2.2 0 _ (by decide) q0))
      (repeat' first|refine vw ?_ ?_<;>intro hq|refine vz ?_|simp -implicitDefEqProofs only [go_sem,gy,gp1,kX,cX,iX,kG,cG,iG,kSS,cSS,iSS,kR,cR,iR,kL,cL,iL,kE,cE,iE])
      refine (consC r3 rfl g01 (by decide) icl hG).mono ?_
      rintro _ τ2 ⟨⟨v2,rfl⟩,k4,r4⟩
      have gy2:=k4.2 σ.next _ (by omega) gy
      have gp2:=k4.2 cp _ hcp1 gp1
      have hkk:=k2.trans ((KeepM.als _ _ _).trans (k3.trans k4))
      rcases h4 with h41|⟨h41,h42⟩|⟨h41,h42,h43⟩|⟨h41,h42,h43⟩
      ·rw [h41] at hvc
       rw [h41] at e16
       (repeat' first|refine vw ?_ ?_<;>intro hq|refine vz ?_|simp -implicitDefEqProofs only [go_sem,gy2,hSn,hRn,kX,cX,iX,kG,cG,iG,kSS,cSS,iSS,kR,cR,iR,kL,cL,iL,kE,cE,iE,e16])
       refine (demandC (c:=2) (by decide) r4).mono ?_
       rintro _ τ3 ⟨⟨v3,rfl⟩,k5,r5⟩
       have gy3:=k5.2 σ.next _ (by omega) gy2
       simp -implicitDefEqProofs only [go_sem,gy3,kX,cX,iX,kG,cG,iG,kSS,cSS,iSS,kR,cR,iR,kL,cL,iL,kE,cE,iE,hRn]
       refine J () _ _ ⟨hkk.trans k5,?_,k5.2 _ _ hcp1 gp2,by rw [hce]; exact gy3⟩ (by rw [hce]; exact vsu)
       rw [hvb,hvc]
       simpa [Bool.and_assoc] using r5
      ·rw [h41,h42] at hvc
       rw [h41] at e16
       rw [h42] at e17
       (repeat' first|refine vw ?_ ?_<;>intro hq|refine vz ?_|simp -implicitDefEqProofs only [go_sem,gy2,hSn,hRn,kX,cX,iX,kG,cG,iG,kSS,cSS,iSS,kR,cR,iR,kL,cL,iL,kE,cE,iE,e16,e17])
       refine (demandC (c:=2) (by decide) r4).mono ?_
       rintro _ τ3 ⟨⟨v3,rfl⟩,k5,r5⟩
       have gy3:=k5.2 σ.next _ (by omega) gy2
       simp -implicitDefEqProofs only [go_sem,gy3,kX,cX,iX,kG,cG,iG,kSS,cSS,iSS,kR,cR,iR,kL,cL,iL,kE,cE,iE,hRn]
       refine J () _ _ ⟨hkk.trans k5,?_,k5.2 _ _ hcp1 gp2,by rw [hce]; exact gy3⟩ (by rw [hce]; exact vsu)
       rw [hvb,hvc]
       simpa [Bool.and_assoc] using r5
      ·rw [h41,h42,h43] at hvc
       rw [h41] at e16
       rw [h42] at e17
       (repeat' first|refine vw ?_ ?_<;>intro hq|refine vz ?_|simp -implicitDefEqProofs only [go_sem,gy2,hSn,hRn,kX,cX,iX,kG,cG,iG,kSS,cSS,iSS,kR,cR,iR,kL,cL,iL,kE,cE,iE,e16,e17,h43])
       refine (rateC _).use ?_
       (repeat' first|refine vw ?_ ?_<;>intro hq|refine vz ?_|simp -implicitDefEqProofs only [go_sem,gy2,hSn,hRn,kX,cX,iX,kG,cG,iG,kSS,cSS,iSS,kR,cR,iR,kL,cL,iL,kE,cE,iE,e16,e17,h43])
       refine (demandC (c:=2) (by decide) r4).mono ?_
       rintro _ τ3 ⟨⟨v3,rfl⟩,k5,r5⟩
       have gy3:=k5.2 σ.next _ (by omega) gy2
       simp -implicitDefEqProofs only [go_sem,gy3,kX,cX,iX,kG,cG,iG,kSS,cSS,iSS,kR,cR,iR,kL,cL,iL,kE,cE,iE,hRn]
       refine J () _ _ ⟨hkk.trans k5,?_,k5.2 _ _ hcp1 gp2,by rw [hce]; exact gy3⟩ (by rw [hce]; exact vsu)
       rw [hvb,hvc]
       simpa [Bool.and_assoc] using r5
      ·rw [h41,h42,h43] at hvc
       rw [h41] at e16
       rw [h42] at e17
       (repeat' first|refine vw ?_ ?_<;>intro hq|refine vz ?_|simp -implicitDefEqProofs only [go_sem,gy2,hSn,hRn,kX,cX,iX,kG,cG,iG,kSS,cSS,iSS,kR,cR,iR,kL,cL,iL,kE,cE,iE,e16,e17,h43])
       refine (rateC _).use ?_
       (repeat' first|refine vw ?_ ?_<;>intro hq|refine vz ?_|simp -implicitDefEqProofs only [go_sem,gy2,hSn,hRn,kX,cX,iX,kG,cG,iG,kSS,cSS,iSS,kR,cR,iR,kL,cL,iL,kE,cE,iE,e16,e17,h43])
       refine (withinC _ _).use ?_
       (repeat' first|refine vw ?_ ?_<;>intro hq|refine vz ?_|simp -implicitDefEqProofs only [go_sem,gy2,hSn,hRn,kX,cX,iX,kG,cG,iG,kSS,cSS,iSS,kR,cR,iR,kL,cL,iL,kE,cE,iE,e16,e17,h43])
       refine (demandC (c:=2) (by decide) r4).mono ?_
       rintro _ τ3 ⟨⟨v3,rfl⟩,k5,r5⟩
       have gy3:=k5.2 σ.next _ (by omega) gy2
       simp -implicitDefEqProofs only [go_sem,gy3,kX,cX,iX,kG,cG,iG,kSS,cSS,iSS,kR,cR,iR,kL,cL,iL,kE,cE,iE,hRn]
       refine J () _ _ ⟨hkk.trans k5,?_,k5.2 _ _ hcp1 gp2,by rw [hce]; exact gy3⟩ (by rw [hce]; exact vsu)
       rw [hvb,hvc]
       simpa [Bool.and_assoc] using r5
    rintro _ τ' ⟨k2,r2,gp,gce⟩
    refine vlp (ι:=Nat) (fun q=>[(1,.ptr 0 0 0),(4,.ptr 1 0 0),(9,.ptr c9 0 0),(10,.func (.func 51) [] [.ptr 1 0 0,.ptr 0 0 0]),(105,SP),(106,(.sc (.int .i64 (n.procs.length)))),(107,(.sc (.int .i64 (j)))),(12,.ptr cp 0 0),(162,SE),(163,(.sc (.int .i64 (x.egs.length)))),(164,(.sc (.int .i64 (m)))),(18,.ptr ce 0 0),(227,SR),(228,(.sc (.int .i64 (rs.length)))),(229,(.sc (.int .i64 (q))))]) (fun q τ=>q<=rs.length/\KeepM 1 σ0 τ/\Ru τ 1 (((((((n.procs.take j).all (prB n) && prB0 x) && x.locs.all (lcB n.clocks)) && (x.egs.take m).all (egB n x)) && egB1 n x ⟨fr,to,gd,cd,ch,snd,ss,rs,cost,kind⟩ && cnsB n.clocks gd) && egB3 ⟨fr,to,gd,cd,ch,snd,ss,rs,cost,kind⟩) && (rs.take q).all (rtB n.clocks))/\τ.get cp=some (.cells 3 [.agg [(.sc (.int .i64 (x.ini))),SL,SE]])/\τ.get ce=some (.cells 13 [.agg [(.sc (.int .i64 (fr))),(.sc (.int .i64 (to))),G,(.sc (.int .i64 (kk))),.sc (.string nn),(.sc (.int .i64 (ii))),a4,(.sc (.int .i64 (ch))),(.sc (.bool (snd))),SS,SR,(.sc (.int .i64 (cost))),(.sc (.int .i64 (kind)))]])) (fun q=>rs.length - q) (fun _=>rfl) 0 ?_ ?_ ?_
    ·exact vsu
    ·exact ⟨Nat.zero_le _,k2,by simpa using r2,gp,gce⟩
    rintro q σq ⟨hq,k2,r2,gp,gce⟩
    have h1l:=AStore.lt_of_get r2.choose_spec.1
    simp -implicitDefEqProofs only [go_sem]
    (refine vif ?_ ?_<;>intro hlq)
    ·obtain ⟨z,hz⟩:∃ z,rs[q]?=some z:=⟨rs[q]'(by omega),by simp⟩
     have hz':(rs.map rtA)[q]?=some (rtA z):=by rw [List.getElem?_map,hz]; rfl
     have hiz:=fun (σ:AStore)=>hR.1.idx (σ:=σ) (k:=.i64) hz'
     have hwk:=wrapS (i:=q) (by have:=hlv.2; simp only at this; omega)
     have hak:=all_take1 (P:=rtB n.clocks) hz
     have hox:=hR.2.2 z (List.mem_of_getElem? hz)
     obtain ⟨zk,zt⟩:=z
     have hcb:rtB n.clocks ⟨zk,zt⟩=(wiB (zk - 1) n.clocks && ctB zt):=rfl
     have hwi:=wi_wrap hox.1 icl
     have gz:∀ y z,((σq.alloc y).set σq.next z).get σq.next=some z:=fun y z=>by rw [AStore.get_set,if_pos ⟨rfl,by simp only [alloc_next]; omega⟩]
     have g0':∀ y z,((σq.alloc y).set σq.next z).get 0=some (.cells 5 [.agg [(.sc (.int .i64 (n.clocks))),SV,SC,SF,SP]]):=fun y z=>get_al (k2.2 0 _ (by decide) q0)
     cases hb1:wiB (zk - 1) n.clocks
     all_goals
      rw [hb1] at hwi hcb
      (repeat' first|refine vw ?_ ?_<;>intro hq|refine vz ?_|simp -implicitDefEqProofs only [go_sem,hiz,rtA,gz,g0',kV,cV,iV,kC,cC,iC,kF,cF,iF,kP,cP,iP])
      refine (withinC _ _).use ?_
      (repeat' first|refine vw ?_ ?_<;>intro hq|refine vz ?_|simp -implicitDefEqProofs only [go_sem,hwi,gz])
      (try (refine (constantC _).use ?_; (repeat' first|refine vw ?_ ?_<;>intro hq|refine vz ?_|simp -implicitDefEqProofs only [go_sem])))
      refine (demandC (c:=2) (by decide) (r2.als _ _)).mono ?_
      rintro _ τ2 ⟨⟨v2,rfl⟩,k4,r4⟩
      (repeat' first|refine vw ?_ ?_<;>intro hq|refine vz ?_|simp -implicitDefEqProofs only [go_sem,hwk])
      exact ⟨q+1,vom,⟨by omega,k2.trans ((KeepM.als _ _ _).trans k4),by rw [hak,hcb]; simpa [Bool.and_assoc] using r4,k4.2 _ _ hcp1 (get_al gp),k4.2 _ _ hce1 (get_al gce)⟩,vsu⟩
    obtain rfl:q=rs.length:=by omega
    rw [List.take_length] at r2
    obtain ⟨e2,ge2,he2⟩:=r2
    cases hb7:decide (e2=0) with
    | false=>
     (repeat' first|refine vw ?_ ?_<;>intro hq|refine vz ?_|simp -implicitDefEqProofs only [go_sem,ge2,hb7])
     refine ret2 ?_
     rw [hb7] at he2
     cases hv:validB n with
     | false=>rfl
     | true=>
      have:=valid_pre (j:=j) (m:=m) (List.mem_of_getElem? hx) hym hv
      simp only at this
      rw [this] at he2
      cases he2
    | true=>
    rw [hb7] at he2
    have r2:Ru σq 1 (((((((n.procs.take j).all (prB n) && prB0 x) && x.locs.all (lcB n.clocks)) && (x.egs.take m).all (egB n x)) && egB1 n x ⟨fr,to,gd,cd,ch,snd,ss,rs,cost,kind⟩ && cnsB n.clocks gd) && egB3 ⟨fr,to,gd,cd,ch,snd,ss,rs,cost,kind⟩) && rs.all (rtB n.clocks)):=⟨e2,ge2,by rw [hb7]; exact he2⟩
    have hin:ch < n.chans.length:=by
     have h1:egB1 n x ⟨fr,to,gd,cd,ch,snd,ss,rs,cost,kind⟩=true:=by
      have h2:=he2.symm
      simp only [Bool.and_eq_true] at h2
      exact h2.1.1.1.2
     simp only [egB1,wiB,Bool.and_eq_true,Bool.or_eq_true,decide_eq_true_eq] at h1
     omega
    have hnb:(n.vars.map Vr.nm).length<=281474976710656:=by rw [List.length_map]; omega
    have hfb:n.funcs.length<=0:=by have:=hs.fs; omega
    have hh:e2=0:=of_decide_eq_true hb7
    apply Z_join (ι:=Unit) (fun _=>[(1,.ptr 0 0 0),(4,.ptr 1 0 0),(9,.ptr c9 0 0),(10,.func (.func 51) [] [.ptr 1 0 0,.ptr 0 0 0]),(105,SP),(106,(.sc (.int .i64 (n.procs.length)))),(107,(.sc (.int .i64 (j)))),(12,.ptr cp 0 0),(162,SE),(163,(.sc (.int .i64 (x.egs.length)))),(164,(.sc (.int .i64 (m)))),(18,.ptr ce 0 0),(259,SS),(260,(.sc (.int .i64 (ss.length)))),(261,(.sc (.int .i64 (0))))])
     (fun _ τ=>KeepM 1 σ0 τ/\Ru τ 1 ((((((((n.procs.take j).all (prB n) && prB0 x) && x.locs.all (lcB n.clocks)) && (x.egs.take m).all (egB n x)) && egB1 n x ⟨fr,to,gd,cd,ch,snd,ss,rs,cost,kind⟩ && cnsB n.clocks gd) && egB3 ⟨fr,to,gd,cd,ch,snd,ss,rs,cost,kind⟩) && rs.all (rtB n.clocks)) && (noE cd || decide (expP nameB cd (n.vars.map Vr.nm) n.funcs=0)))/\τ.get cp=some (.cells 3 [.agg [(.sc (.int .i64 (x.ini))),SL,SE]])/\τ.get ce=some (.cells 13 [.agg [(.sc (.int .i64 (fr))),(.sc (.int .i64 (to))),G,(.sc (.int .i64 (kk))),.sc (.string nn),(.sc (.int .i64 (ii))),a4,(.sc (.int .i64 (ch))),(.sc (.bool (snd))),SS,SR,(.sc (.int .i64 (cost))),(.sc (.int .i64 (kind)))]])) (fun _=>rfl)
    ·intro J
     cases hb8:noE cd
     ·(repeat' first|refine vw ?_ ?_<;>intro hq|refine vz ?_|simp -implicitDefEqProofs only [go_sem,ge2,hb7,gce,kX,cX,iX,kG,cG,iG,kSS,cSS,iSS,kR,cR,iR,kL,cL,iL,kE,cE,iE])
      refine (emptyC hEx).use ?_
      (repeat' first|refine vw ?_ ?_<;>intro hq|refine vz ?_|simp -implicitDefEqProofs only [go_sem,hb8,gce,kX,cX,iX,kG,cG,iG,kSS,cSS,iSS,kR,cR,iR,kL,cL,iL,kE,cE,iE,k2.2 c9 _ hc91 q9,kA,cA,iA,kF,cF,iF])
      refine (bookL hEx (by have:=hcy.1; simp only at this; omega) hF hFs lf hfb (qA.keepM r0 k2) hnb).use1 ?_
      (repeat' first|refine vw ?_ ?_<;>intro hq|refine vz ?_|simp -implicitDefEqProofs only [go_sem])
      refine (takeC r2).mono ?_
      rintro _ τ3 ⟨⟨v3,rfl⟩,k5,r5⟩
      have gce5:=k5.2 _ _ hce1 gce
      simp -implicitDefEqProofs only [go_sem,gce5,kX,cX,iX,kG,cG,iG,kSS,cSS,iSS,kR,cR,iR,kL,cL,iL,kE,cE,iE,hSn]
      exact J () _ _ ⟨k2.trans k5,by simpa [Bool.and_assoc,hb8] using r5,k5.2 _ _ hcp1 gp,gce5⟩ vsu
     ·(repeat' first|refine vw ?_ ?_<;>intro hq|refine vz ?_|simp -implicitDefEqProofs only [go_sem,ge2,hb7,gce,kX,cX,iX,kG,cG,iG,kSS,cSS,iSS,kR,cR,iR,kL,cL,iL,kE,cE,iE])
      refine (emptyC hEx).use ?_
      simp -implicitDefEqProofs only [go_sem,hb8]
      refine vzf ?_
      simp -implicitDefEqProofs only [go_sem,gce,kX,cX,iX,kG,cG,iG,kSS,cSS,iSS,kR,cR,iR,kL,cL,iL,kE,cE,iE,hSn]
      refine J () _ _ ⟨k2,by simpa [hb8] using r2,gp,gce⟩ ?_
      exact vsu
    rintro _ τ' ⟨k2,r2,gp,gce⟩
    refine vlp (ι:=Nat) (fun q=>[(1,.ptr 0 0 0),(4,.ptr 1 0 0),(9,.ptr c9 0 0),(10,.func (.func 51) [] [.ptr 1 0 0,.ptr 0 0 0]),(105,SP),(106,(.sc (.int .i64 (n.procs.length)))),(107,(.sc (.int .i64 (j)))),(12,.ptr cp 0 0),(162,SE),(163,(.sc (.int .i64 (x.egs.length)))),(164,(.sc (.int .i64 (m)))),(18,.ptr ce 0 0),(259,SS),(260,(.sc (.int .i64 (ss.length)))),(261,(.sc (.int .i64 (q))))]) (fun q τ=>q<=ss.length/\KeepM 1 σ0 τ/\Ru τ 1 (((((((((n.procs.take j).all (prB n) && prB0 x) && x.locs.all (lcB n.clocks)) && (x.egs.take m).all (egB n x)) && egB1 n x ⟨fr,to,gd,cd,ch,snd,ss,rs,cost,kind⟩ && cnsB n.clocks gd) && egB3 ⟨fr,to,gd,cd,ch,snd,ss,rs,cost,kind⟩) && rs.all (rtB n.clocks)) && (noE cd || decide (expP nameB cd (n.vars.map Vr.nm) n.funcs=0))) && (ss.take q).all (sgB n))/\τ.get cp=some (.cells 3 [.agg [(.sc (.int .i64 (x.ini))),SL,SE]])/\τ.get ce=some (.cells 13 [.agg [(.sc (.int .i64 (fr))),(.sc (.int .i64 (to))),G,(.sc (.int .i64 (kk))),.sc (.string nn),(.sc (.int .i64 (ii))),a4,(.sc (.int .i64 (ch))),(.sc (.bool (snd))),SS,SR,(.sc (.int .i64 (cost))),(.sc (.int .i64 (kind)))]])) (fun q=>ss.length - q) (fun _=>rfl) 0 ?_ ?_ ?_
    ·exact vsu
    ·exact ⟨Nat.zero_le _,k2,by simpa using r2,gp,gce⟩
    rintro q σq ⟨hq,k2,r2,gp,gce⟩
    have h1l:=AStore.lt_of_get r2.choose_spec.1
    simp -implicitDefEqProofs only [go_sem]
    (refine vif ?_ ?_<;>intro hlq)
    ·obtain ⟨z,hz⟩:∃ z,ss[q]?=some z:=⟨ss[q]'(by omega),by simp⟩
     obtain ⟨ev,hev,hzv⟩:=hSat q z hz
     have hiz:=fun (σ:AStore)=>hS1.idx (σ:=σ) (k:=.i64) hev
     have hwk:=wrapS (i:=q) (by have:=hlv.1; simp only at this; omega)
     have hak:=all_take1 (P:=sgB n) hz
     have hcz:=hcy.2 z (List.mem_of_getElem? hz)
     obtain ⟨zv,ze⟩:=z
     have hcb:sgB n ⟨zv,ze⟩=(wiB zv n.vars.length && decide (expP nameB ze (n.vars.map Vr.nm) n.funcs=0)):=rfl
     obtain ⟨za,rfl,hZe,_⟩:=hzv
     simp only at hZe hcz
     obtain ⟨zk,zn,zi,zS,rfl,kZ,cZ,iZ⟩:∃ (zk:Int) (zn:ByteArray) (zi:Int) (zS:AVal),za=[(.sc (.int .i64 (zk))),.sc (.string zn),(.sc (.int .i64 (zi))),zS]/\zS.fit=true/\zS.cells=[zS]/\zS.isCell=true:=by
      obtain ⟨k,nm,i,l⟩:=ze
      simp only [IsEx] at hZe
      obtain ⟨S,els,he,hS,_⟩:=hZe
      simp only [AVal.agg.injEq] at he
      exact ⟨_,_,_,_,he,hS.fit,hS.cells,hS.isCell⟩
     have gz:∀ y z,((σq.alloc y).set σq.next z).get σq.next=some z:=fun y z=>by rw [AStore.get_set,if_pos ⟨rfl,by simp only [alloc_next]; omega⟩]
     have g0':∀ y z,((σq.alloc y).set σq.next z).get 0=some (.cells 5 [.agg [(.sc (.int .i64 (n.clocks))),SV,SC,SF,SP]]):=fun y z=>get_al (k2.2 0 _ (by decide) q0)
     (repeat' first|refine vw ?_ ?_<;>intro hq|refine vz ?_|simp -implicitDefEqProofs only [go_sem,hiz,gz,g0',kZ,cZ,iZ,hVn,kV,cV,iV,kC,cC,iC,kF,cF,iF,kP,cP,iP])
     refine (withinC _ _).use ?_
     (repeat' first|refine vw ?_ ?_<;>intro hq|refine vz ?_|simp -implicitDefEqProofs only [go_sem])
     refine (demandC (c:=2) (by decide) (r2.als _ _)).mono ?_
     rintro _ τ2 ⟨⟨v2,rfl⟩,k4,r4⟩
     have hkk:=k2.trans ((KeepM.als _ _ _).trans k4)
     have gz2:=k4.2 σq.next _ (by omega) (gz _ _)
     (repeat' first|refine vw ?_ ?_<;>intro hq|refine vz ?_|simp -implicitDefEqProofs only [go_sem,gz2,kZ,cZ,iZ,hkk.2 c9 _ hc91 q9,kA,cA,iA,kF,cF,iF])
     refine (bookL hZe (by omega) hF hFs lf hfb (qA.keepM r0 hkk) hnb).use1 ?_
     (repeat' first|refine vw ?_ ?_<;>intro hq|refine vz ?_|simp -implicitDefEqProofs only [go_sem])
     refine (takeC r4).mono ?_
     rintro _ τ3 ⟨⟨v3,rfl⟩,k5,r5⟩
     (repeat' first|refine vw ?_ ?_<;>intro hq|refine vz ?_|simp -implicitDefEqProofs only [go_sem,hwk])
     exact ⟨q+1,vom,⟨by omega,hkk.trans k5,by rw [hak,hcb]; simpa [Bool.and_assoc] using r5,k5.2 _ _ hcp1 (k4.2 _ _ hcp1 (get_al gp)),k5.2 _ _ hce1 (k4.2 _ _ hce1 (get_al gce))⟩,vsu⟩
    obtain rfl:q=ss.length:=by omega
    rw [List.take_length] at r2
    (repeat' first|refine vw ?_ ?_<;>intro hq|refine vz ?_|simp -implicitDefEqProofs only [go_sem,gce,kX,cX,iX,kG,cG,iG,kSS,cSS,iSS,kR,cR,iR,kL,cL,iL,kE,cE,iE,k2.2 0 _ (by decide) q0,kV,cV,iV,kC,cC,iC,kF,cF,iF,kP,cP,iP])
    refine (bareC r2 hC hey0 (fun _=>hin)).mono ?_
    rintro _ τ3 ⟨⟨v3,rfl⟩,k5,r5⟩
    (repeat' first|refine vw ?_ ?_<;>intro hq|refine vz ?_|simp -implicitDefEqProofs only [go_sem,hwm])
    exact ⟨m+1,vom,⟨by omega,k2.trans k5,by rw [ham]; simpa [egB,Bool.and_assoc] using r5,k5.2 _ _ hcp1 gp⟩,vsu⟩
   ·obtain rfl:m=x.egs.length:=by omega
    rw [List.take_length] at r2
    (repeat' first|refine vw ?_ ?_<;>intro hq|refine vz ?_|simp -implicitDefEqProofs only [go_sem,hw])
    exact ⟨j+1,vom,⟨by omega,k2,by rw [hat]; simpa [prB,Bool.and_assoc] using r2⟩,vsu⟩
 ·obtain rfl:j=n.procs.length:=by omega
  rw [List.take_length] at r1
  obtain ⟨e2,ge2,he2⟩:=r1
  have hv:validB n=decide (e2=0):=by rw [validB,hhd,hh2,he2]; simp
  cases hb7:decide (e2=0) with
  | false=>
   (repeat' first|refine vw ?_ ?_<;>intro hq|refine vz ?_|simp -implicitDefEqProofs only [go_sem,ge2,hb7])
   exact ret2 (by rw [hv,hb7])
  | true=>
   (repeat' first|refine vw ?_ ?_<;>intro hq|refine vz ?_|simp -implicitDefEqProofs only [go_sem,ge2,hb7])
   exact ⟨_,rfl,by rw [hv,hb7]; rfl⟩
end Abs
end
