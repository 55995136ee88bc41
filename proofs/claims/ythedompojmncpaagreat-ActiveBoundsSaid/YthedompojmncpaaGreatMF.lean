/-
  Functions of the program walked: each is shown to compute a plain function (MF).
-/
import Derived.Test.YthedompojmncpaaGreatMA
import Derived.Test.YthedompojmncpaaGreatNO
import Derived.Test.YthedompojmncpaaGreatNB
noncomputable section
namespace Abs
set_option linter.unusedSimpArgs false
set_option linter.unusedVariables false
set_option maxRecDepth 100000
set_option maxHeartbeats 16000000
open Go Go.Proofs
def rowA (f:Nat->Int) (C:Nat):List AVal:=(List.range C).map fun k=>iA (f k)
def RBn (n:Nt) (s:Stt) (l:List Cn) (r:AVal):Prop:=(actI n s l≠0/\r=.tuple [(.sc (.slice none 0 0)),(.sc (.slice none 0 0)),(.sc (.int .i64 (actI n s l)))])\/
 (actI n s l=0/\∃ D6 D7,r=.tuple [D6,D7,(.sc (.int .i64 (0)))]/\IsD 1 D6 (rowA (bnd n s l false) n.clocks.toNat)/\IsD 1 D7 (rowA (bnd n s l true) n.clocks.toNat))
noncomputable def gst (n:Nt) (s:Stt) (l:List Cn) (k:Nat):Int:=max (bnd n s l false k) (bnd n s l true k)
def RGr (n:Nt) (s:Stt) (l:List Cn) (r:AVal):Prop:=(actI n s l≠0/\r=.tuple [(.sc (.slice none 0 0)),(.sc (.int .i64 (actI n s l)))])\/(actI n s l=0/\∃ D,r=.tuple [D,(.sc (.int .i64 (0)))]/\IsD 1 D (rowA (gst n s l) n.clocks.toNat))
noncomputable def mts (n:Nt) (s:Stt) (l:List Cn) (C:Nat):List Nat:=(List.range C).filter fun k=>decide (gst n s l k≠-1)
def mtA (k:Nat):AVal:=(.sc (.int .i64 ((k:Int)+1)))
def RMt (n:Nt) (s:Stt) (l:List Cn) (r:AVal):Prop:=(actI n s l≠0/\r=.tuple [(.sc (.slice none 0 0)),(.sc (.int .i64 (actI n s l)))])\/(actI n s l=0/\∃ D,r=.tuple [D,(.sc (.int .i64 (0)))]/\IsD 1 D ((mts n s l n.clocks.toNat).map mtA))
theorem act_valid {n:Nt} {s:Stt} {l:List Cn} (ha:actI n s l=0):checkB n s=true/\validB n=true/\l.all (exB n)=true/\l.length<=100:=by
 have hc:checkB n s=true:=by
  cases hc:checkB n s with
  | true=>rfl
  | false=>simp only [actI,hc,if_true] at ha; cases ha
 refine ⟨hc,?_,?_⟩
 ·simp only [checkB,Bool.and_eq_true] at hc
  exact hc.1.1.1.1
 ·by_cases h1:100 < l.length
  ·simp only [actI,hc,Bool.true_eq_false,if_false,if_pos h1] at ha
   cases ha
  ·cases h2:l.all (exB n) with
   | true=>exact ⟨rfl,by omega⟩
   | false=>
    simp only [actI,hc,Bool.true_eq_false,if_false,if_neg h1,h2,Bool.false_eq_true] at ha
    cases ha
theorem mapO_iA {σ:AStore} {α:Type} {M:Nat} (f:α->Int):∀ l:List α,mapO (Abs.frz σ (M+1)) (l.map fun k=>iA (f k))=some (l.map fun k=>iA (f k))
 | []=>rfl
 | x::l=>by rw [List.map_cons,mapO_cons',mapO_iA f l]; rfl
theorem Rw.frz {σ:AStore} {b C M:Nat} {f:Nat->Int} (h:Rw σ b C f):Abs.frz σ (M+2) (.slice b 0 C)=some (.data 1 false (rowA f C)):=by
 unfold Rw at h
 rw [frz_slice,h,frzS_cells (by simp),List.drop_zero,List.take_of_length_le (by simp),mapO_iA]
 rfl
theorem boundsG {w:WD} {n:Nt} {v:AVal} {s:Stt} {u S:AVal} {l:List Cn} (h:IsNt n v) (hs:NtS n) (hu:IsStt s u) (hl:IsCns l S):Gives (EE w) 6 [v,u,S] (RBn n s l):=by
 refine Gives.of (fun _=>.sc _) (.cons _ _ h.wf (.cons _ _ hu.wf (.cons _ _ hl.wf .nil))) 3 ?_
 refine (boundsC h hs hu hl).mono ?_
 rintro _ σ ⟨_,⟨ha,rfl⟩|⟨ha,b6,b7,rfl,_,_,_,h6,h7⟩⟩
 ·exact ⟨_,_,rfl,rfl,.inl ⟨ha,rfl⟩⟩
 ·refine ⟨_,.tuple [.data 1 false (rowA (bnd n s l false) n.clocks.toNat),.data 1 false (rowA (bnd n s l true) n.clocks.toNat),(.sc (.int .i64 (0)))],rfl,?_,.inr ⟨ha,_,_,rfl,.inr ⟨_,rfl⟩,.inr ⟨_,rfl⟩⟩⟩
  rw [frz_tuple,mapO_cons',mapO_cons',h6.frz,h7.frz]
  rfl
theorem sameC {w:WD} {A B:AVal} {a b:List Int} (hA:IsD 1 A (a.map iA)) (hB:IsD 1 B (b.map iA)) (la:a.length<=1000000) (lb:b.length<=1000000):GivesV (EE w) 8 [A,B] (.sc (.bool (decide (a=b)))):=by
 have hAn:∀ σ:AStore,aLen (.slice 0) A σ=some (.sc (.int .i64 (a.length))):=fun σ=>by have:=hA.len (σ:=σ); rwa [List.length_map] at this
 have hBn:∀ σ:AStore,aLen (.slice 0) B σ=some (.sc (.int .i64 (b.length))):=fun σ=>by have:=hB.len (σ:=σ); rwa [List.length_map] at this
 refine GivesV.of (fun _=>.sc _) (.cons _ _ (hA.wf (WFs.map wf_iA)) (.cons _ _ (hB.wf (WFs.map wf_iA)) .nil)) 1 ?_
 refine of_8 rfl rfl rfl (by kernel_rfl) ?_
 by_cases hab:a.length=b.length
 ·have d0:decide ((a.length:Int)=(b.length:Int))=true:=dct (by omega)
  simp -implicitDefEqProofs only [go_sem,hAn,hBn,d0]
  (try (repeat' first|(refine vy ?_ ?_<;>rintro ⟨hd,hq⟩<;>first|(exfalso; omega)|simp -implicitDefEqProofs only [go_sem,hd]|skip)|refine vz ?_|simp -implicitDefEqProofs only [go_sem,hAn,hBn,d0]))
  refine vlp (ι:=Nat) (fun j=>[(0,A),(1,B),(5,(.sc (.int .i64 (j))))]) (fun j τ=>j<=a.length/\a.take j=b.take j) (fun j=>a.length - j) (fun _=>rfl) 0 ?_ ?_ ?_
  ·(repeat' (first|exact trivial|refine ⟨rfl,?_⟩))
  ·exact ⟨Nat.zero_le _,by simp⟩
  rintro j τ ⟨hj,htk⟩
  by_cases hlt:j < a.length
  ·have d1:decide ((j:Int) < (a.length:Int))=true:=dct (by omega)
   obtain ⟨x,hx⟩:∃ x,a[j]?=some x:=⟨a[j]'(by omega),by simp⟩
   obtain ⟨y,hy⟩:∃ y,b[j]?=some y:=⟨b[j]'(by omega),by simp⟩
   have hx':(a.map iA)[j]?=some (iA x):=by rw [List.getElem?_map,hx]; rfl
   have hy':(b.map iA)[j]?=some (iA y):=by rw [List.getElem?_map,hy]; rfl
   have hix:=fun (σ:AStore)=>hA.idx (σ:=σ) (k:=.i64) hx'
   have hiy:=fun (σ:AStore)=>hB.idx (σ:=σ) (k:=.i64) hy'
   have hw:=wrapS (i:=j) (by omega)
   by_cases hxy:x=y
   ·have d2:=dct hxy
    simp -implicitDefEqProofs only [go_sem,hAn,d1]
    (repeat' first|(refine vy ?_ ?_<;>rintro ⟨hd,hq⟩<;>first|(exfalso; omega)|simp -implicitDefEqProofs only [go_sem,hd]|skip)|refine vz ?_|simp -implicitDefEqProofs only [go_sem,hAn,d1])
    ((try (refine Z_seq ?_; (try simp -implicitDefEqProofs only [go_sem]))); refine Z_draw (by kernel_rfl) [0,1,2,3,4,5,6,7,8] [(8,255),(7,112),(6,48),(5,0),(4,0),(3,7),(2,3),(1,0),(0,0)] (by kernel_rfl) (by kernel_rfl) ?_)
    simp -implicitDefEqProofs only [go_sem,hix,hiy,iA,d2]
    (try (repeat' first|(refine vy ?_ ?_<;>rintro ⟨hd,hq⟩<;>first|(exfalso; omega)|simp -implicitDefEqProofs only [go_sem,hd]|skip)|refine vz ?_|simp -implicitDefEqProofs only [go_sem,d2,hw]))
    refine ⟨j+1,by dsimp only; omega,⟨by omega,?_⟩,by (repeat' (first|exact trivial|refine ⟨rfl,?_⟩))⟩
    rw [List.take_add_one,List.take_add_one,htk,hx,hy,hxy]
   ·have d2:=dcf hxy
    simp -implicitDefEqProofs only [go_sem,hAn,d1]
    (repeat' first|(refine vy ?_ ?_<;>rintro ⟨hd,hq⟩<;>first|(exfalso; omega)|simp -implicitDefEqProofs only [go_sem,hd]|skip)|refine vz ?_|simp -implicitDefEqProofs only [go_sem,hAn,d1])
    ((try (refine Z_seq ?_; (try simp -implicitDefEqProofs only [go_sem]))); refine Z_draw (by kernel_rfl) [0,1,2,3,4,5,6,7,8] [(8,255),(7,112),(6,48),(5,0),(4,0),(3,7),(2,3),(1,0),(0,0)] (by kernel_rfl) (by kernel_rfl) ?_)
    simp -implicitDefEqProofs only [go_sem,hix,hiy,iA,d2]
    (try (repeat' first|(refine vy ?_ ?_<;>rintro ⟨hd,hq⟩<;>first|(exfalso; omega)|simp -implicitDefEqProofs only [go_sem,hd]|skip)|refine vz ?_|simp -implicitDefEqProofs only [go_sem,d2]))
    refine ret_bool (dcf fun h=>hxy ?_).symm
    rw [h,hy] at hx
    injection hx with hx
    exact hx.symm
  ·have d1:decide ((j:Int) < (a.length:Int))=false:=dcf (by omega)
   simp -implicitDefEqProofs only [go_sem,hAn,d1]
   (repeat' first|(refine vy ?_ ?_<;>rintro ⟨hd,hq⟩<;>first|(exfalso; omega)|simp -implicitDefEqProofs only [go_sem,hd]|skip)|refine vz ?_|simp -implicitDefEqProofs only [go_sem,hAn,d1])
   refine ret_bool (dct ?_).symm
   rw [List.take_of_length_le (by omega),List.take_of_length_le (by omega)] at htk
   exact htk
 ·have d0:decide ((a.length:Int)=(b.length:Int))=false:=dcf (by omega)
  simp -implicitDefEqProofs only [go_sem,hAn,hBn,d0]
  (try (repeat' first|(refine vy ?_ ?_<;>rintro ⟨hd,hq⟩<;>first|(exfalso; omega)|simp -implicitDefEqProofs only [go_sem,hd]|skip)|refine vz ?_|simp -implicitDefEqProofs only [go_sem,hAn,hBn,d0]))
  exact ret_bool (dcf fun h=>hab (by rw [h])).symm
theorem valid_up {n:Nt} (hv:validB n=true) {p:Pr} (hp:p∈n.procs):∀ y∈p.locs,∀ x∈y.inv,x.lo=false:=fun y hy x hx=>by
 simp only [validB,Bool.and_eq_true,List.all_eq_true] at hv
 have h1:=hv.2 p hp
 simp only [prB,Bool.and_eq_true,List.all_eq_true] at h1
 have h2:=h1.1.2 y hy
 simp only [lcB,Bool.and_eq_true,List.all_eq_true] at h2
 have h3:=h2.2 x hx
 simp only [upB,Bool.and_eq_true,Bool.not_eq_true'] at h3
 exact h3.1.1
theorem bnd_take1 {n:Nt} {s:Stt} {l:List Cn} {q:Nat} {x:Cn} (up:Bool) (k:Nat) (h:l[q]?=some x):bnd n s (l.take (q+1)) up k=if x.k=(k:Int)+1 then max (bnd n s (l.take q) up k) x.c else bnd n s (l.take q) up k:=by
 unfold bnd
 rw [fold_take _ h]
 rfl
theorem rowA_succ (f:Nat->Int) (C:Nat):rowA f (C+1)=rowA f C++[iA (f C)]:=by
 unfold rowA
 rw [List.range_succ,List.map_append]
 rfl
structure BR (σ:AStore) (N T:AVal) (c:Nat) (A B:AVal) (f g:Nat->Int):Prop where
 g0:σ.get 0=some (.cells 5 [N])
 g1:σ.get 1=some (.cells 2 [T])
 oA:Own σ 1 A (rowA f c)
 oB:Own σ 1 B (rowA g c)
 hn:2<=σ.next
 a0:∀ b l,A=.slice b 0 l->2<=b
 b0:∀ b l,B=.slice b 0 l->2<=b
 ab:∀ b l l',A=.slice b 0 l->B≠.slice b 0 l'
theorem bounds16RC {w:WD} {n:Nt} {v:AVal} {s:Stt} {u S:AVal} {l:List Cn} (h:IsNt n v) (hs:NtS n) (hu:IsStt s u) (hl:IsCns l S):Gives (EE w) 7 [v,u,S] (RBn n s l):=by
 have hwf:=h.wf
 have hwu:=hu.wf
 have hwS:=hl.wf
 have hCh:=fun w:WD=>check16RC (w:=w) h hs hu hl
 obtain ⟨SV,SC,SF,SP,fels,rfl,icl,⟨hV,lv,hvo⟩,⟨hC,lc,hco⟩,hF,hFs,lf,hP⟩:=h
 obtain ⟨L,U,rfl,⟨hL,lL,iL0⟩,⟨hU,lU,iU0⟩⟩:=hu
 obtain ⟨hS,ll,hok⟩:=hl
 have hSn:∀ σ:AStore,aLen (.slice 0) S σ=some (.sc (.int .i64 (l.length))):=fun σ=>by have:=hS.len (σ:=σ); rwa [List.length_map] at this
 obtain ⟨pels,hP1,hPl,hPat⟩:=hP.at'
 have hPn:∀ σ:AStore,aLen (.slice 0) SP σ=some (.sc (.int .i64 (n.procs.length))):=fun σ=>hP1.lenN hPl
 have kV:=hV.fit
 have cV:=hV.cells
 have iV:=hV.isCell
 have kC:=hC.fit
 have cC:=hC.cells
 have iC:=hC.isCell
 have kF:=hF.fit
 have cF:=hF.cells
 have iF:=hF.isCell
 have kP:=hP1.fit
 have cP:=hP1.cells
 have iP:=hP1.isCell
 have kL:=hL.fit
 have cL:=hL.cells
 have iL:=hL.isCell
 have kU:=hU.fit
 have cU:=hU.cells
 have iU:=hU.isCell
 refine Gives.of (fun _=>.sc _) (.cons _ _ hwf (.cons _ _ hwu (.cons _ _ hwS .nil))) 3 ?_
 refine of_7 rfl rfl rfl (by kernel_rfl) ?_
 simp -implicitDefEqProofs only [go_sem,kV,cV,iV,kC,cC,iC,kF,cF,iF,kP,cP,iP,kL,cL,iL,kU,cU,iU]
 have g0:((empty.alloc (.cells 5 [.agg [(.sc (.int .i64 (n.clocks))),SV,SC,SF,SP]])).alloc (.cells 2 [.agg [L,U]])).get 0=some (.cells 5 [.agg [(.sc (.int .i64 (n.clocks))),SV,SC,SF,SP]]):=by rw [AStore.get_alloc]; rfl
 have g1:((empty.alloc (.cells 5 [.agg [(.sc (.int .i64 (n.clocks))),SV,SC,SF,SP]])).alloc (.cells 2 [.agg [L,U]])).get 1=some (.cells 2 [.agg [L,U]]):=by rw [AStore.get_alloc]; rfl
 have hn0:((empty.alloc (.cells 5 [.agg [(.sc (.int .i64 (n.clocks))),SV,SC,SF,SP]])).alloc (.cells 2 [.agg [L,U]])).next=2:=rfl
 generalize (empty.alloc (.cells 5 [.agg [(.sc (.int .i64 (n.clocks))),SV,SC,SF,SP]])).alloc (.cells 2 [.agg [L,U]])=τ at g0 g1 hn0 ⊢
 refine (hCh _).use ?_
 by_cases ha:actI n s l=0
 ·obtain ⟨hcb,hv,hall,hl100⟩:=act_valid ha
  have hvp:=valid_procs hv
  obtain ⟨C,hCn⟩:∃ C:Nat,n.clocks=C:=⟨n.clocks.toNat,by omega⟩
  have hCt:n.clocks.toNat=C:=by omega
  have hpk:=fun p hp=>prOk (n:=n) hv (p:=p) hp
  rw [hCt] at hpk
  have fin:∀ {σ:AStore} {A B:AVal},Own σ 1 A (rowA (bnd n s l false) C)->Own σ 1 B (rowA (bnd n s l true) C)->∃ v u,AEnd.ret (.tuple [A,B,(.sc (.int .i64 (0)))])=AEnd.ret v/\frz σ 3 v=some u/\RBn n s l u:=by
   intro σ A B hA hB
   have e1:=hA.frz (n:=1) (us:=rowA (bnd n s l false) C) (mapO_iA _ _)
   have e2:=hB.frz (n:=1) (us:=rowA (bnd n s l true) C) (mapO_iA _ _)
   have d1:IsD 1 (if rowA (bnd n s l false) C=[] then (.sc (.slice none 0 0)) else .data 1 false (rowA (bnd n s l false) C)) (rowA (bnd n s l false) C):=by
    split
    ·rename_i h0; exact .inl ⟨h0,_,_,rfl⟩
    ·exact .inr ⟨_,rfl⟩
   have d2:IsD 1 (if rowA (bnd n s l true) C=[] then (.sc (.slice none 0 0)) else .data 1 false (rowA (bnd n s l true) C)) (rowA (bnd n s l true) C):=by
    split
    ·rename_i h0; exact .inl ⟨h0,_,_,rfl⟩
    ·exact .inr ⟨_,rfl⟩
   generalize (if rowA (bnd n s l false) C=[] then ((.sc (.slice none 0 0)):AVal) else .data 1 false (rowA (bnd n s l false) C))=D1 at e1 d1
   generalize (if rowA (bnd n s l true) C=[] then ((.sc (.slice none 0 0)):AVal) else .data 1 false (rowA (bnd n s l true) C))=D2 at e2 d2
   refine ⟨_,.tuple [D1,D2,(.sc (.int .i64 (0)))],rfl,by rw [frz_tuple,mapO_cons',mapO_cons',e1,e2]; rfl,.inr ⟨ha,D1,D2,rfl,?_,?_⟩⟩
   ·rw [hCt]; exact d1
   ·rw [hCt]; exact d2
  have ea:=dct ha
  simp -implicitDefEqProofs only [go_sem,ea]
  (try (repeat' first|(refine vy ?_ ?_<;>rintro ⟨hd,hq⟩<;>first|(exfalso; omega)|simp -implicitDefEqProofs only [go_sem,hd]|skip)|refine vz ?_|simp -implicitDefEqProofs only [go_sem,ea]))
  rw [hCn] at g0
  have hC8:C<=8:=by omega
  refine vlp (ι:=Nat×AVal×AVal) (fun x=>[(2,S),(3,.ptr 0 0 0),(4,.ptr 1 0 0),(6,x.2.1),(7,x.2.2),(9,(.sc (.int .i64 ((x.1:Int)+1))))]) (fun x τ=>x.1<=C/\BR τ (.agg [(.sc (.int .i64 (C))),SV,SC,SF,SP]) (.agg [L,U]) x.1 x.2.1 x.2.2 (bnd n s l false) (bnd n s l true)) (fun x=>C - x.1) (fun _=>rfl) (0,(.sc (.slice none 0 0)),(.sc (.slice none 0 0))) ?_ ?_ ?_
  ·(repeat' (first|exact trivial|refine ⟨rfl,?_⟩))
  ·exact ⟨Nat.zero_le _,g0,g1,Own.nil,Own.nil,by omega,(fun b l h=>by cases h),(fun b l h=>by cases h),fun b l l' h=>by cases h⟩
  clear g0 g1 hn0
  rintro ⟨c,A,B⟩ τ ⟨hc,hB⟩
  simp only at hc hB
  have g0:=hB.g0
  have g1:=hB.g1
  by_cases hcl:c < C
  ·have d0:decide ((c:Int)+1<=(C:Int))=true:=dct (by omega)
   have hwc:IntKind.i64.wrap ((c:Int)+1+1)=((c+1:Nat):Int)+1:=by rw [wrap64 (by omega) (by omega)]; omega
   simp -implicitDefEqProofs only [go_sem,g0,g1,kV,cV,iV,kC,cC,iC,kF,cF,iF,kP,cP,iP,kL,cL,iL,kU,cU,iU,d0]
   (repeat' first|(refine vy ?_ ?_<;>rintro ⟨hd,hq⟩<;>first|(exfalso; omega)|simp -implicitDefEqProofs only [go_sem,hd]|skip)|refine vz ?_|simp -implicitDefEqProofs only [go_sem,g0,g1,kV,cV,iV,kC,cC,iC,kF,cF,iF,kP,cP,iP,kL,cL,iL,kU,cU,iU,d0])
   refine vlp (ι:=Nat) (fun j=>[(2,S),(3,.ptr 0 0 0),(4,.ptr 1 0 0),(6,A),(7,B),(9,(.sc (.int .i64 ((c:Int)+1)))),(10,(.sc (.int .i64 (bndP n s false j c)))),(11,(.sc (.int .i64 (bndP n s true j c)))),(12,(.sc (.int .i64 (j))))]) (fun j σ=>j<=n.procs.length/\σ=τ) (fun j=>n.procs.length - j) (fun _=>rfl) 0 ?_ ?_ ?_
   ·(repeat' (first|exact trivial|refine ⟨rfl,?_⟩))
   ·exact ⟨Nat.zero_le _,rfl⟩
   rintro j σ ⟨hj,rfl⟩
   by_cases hjl:j < n.procs.length
   ·have d1:decide ((j:Int) < (n.procs.length:Int))=true:=dct (by omega)
    obtain ⟨p,hp⟩:∃ p,n.procs[j]?=some p:=⟨n.procs[j]'(by omega),by simp⟩
    obtain ⟨e,he,hpv⟩:=hPat j p hp
    have hie:=fun (σ:AStore)=>hP1.idx (σ:=σ) (k:=.i64) he
    have hpm:=List.mem_of_getElem? hp
    obtain ⟨m,hm,y,hy,_⟩:=check_loc hcb hp
    have hml:m < p.locs.length:=(List.getElem?_eq_some_iff.1 hy).1
    have hm':(s.locs.map iA)[j]?=some (iA m):=by rw [List.getElem?_map,hm]; rfl
    have him:=fun (σ:AStore)=>hL.idx (σ:=σ) (k:=.i64) hm'
    have hwj:=wrapS (i:=j) (by omega)
    have hCo:=fun (w:WD) (lower:Bool)=>constantRC (w:=w) lower hpv (hpk p hpm) (valid_up hv hpm) hml hcl (by omega)
    have e1:=bndP_succ (up:=false) hp hm c
    have e2:=bndP_succ (up:=true) hp hm c
    rw [hCt] at e1 e2
    obtain ⟨SL,SE,rfl,hSL,hSE,ini⟩:=hpv
    obtain ⟨lels,hL1,hLl,hLat⟩:=hSL.at'
    obtain ⟨eels,hE1,hEl,hEat⟩:=hSE.at'
    have kSL:=hL1.fit
    have cSL:=hL1.cells
    have iSL:=hL1.isCell
    have kSE:=hE1.fit
    have cSE:=hE1.cells
    have iSE:=hE1.isCell
    simp -implicitDefEqProofs only [go_sem,g0,kV,cV,iV,kC,cC,iC,kF,cF,iF,kP,cP,iP,kL,cL,iL,kU,cU,iU,hPn,d1]
    (repeat' first|(refine vy ?_ ?_<;>rintro ⟨hd,hq⟩<;>first|(exfalso; omega)|simp -implicitDefEqProofs only [go_sem,hd]|skip)|refine vz ?_|simp -implicitDefEqProofs only [go_sem,g0,kV,cV,iV,kC,cC,iC,kF,cF,iF,kP,cP,iP,kL,cL,iL,kU,cU,iU,hPn,d1])
    ((try (refine Z_seq ?_; (try simp -implicitDefEqProofs only [go_sem]))); refine Z_draw (by kernel_rfl) [0,1,2,3,4,5,6,7,8,9,10,11,12,13,14] [(14,16383),(13,8191),(12,4094),(11,0),(10,960),(9,448),(8,0),(7,64),(6,0),(5,30),(4,14),(3,0),(2,2),(1,0),(0,0)] (by kernel_rfl) (by kernel_rfl) ?_)
    simp -implicitDefEqProofs only [go_sem,g0,g1,kV,cV,iV,kC,cC,iC,kF,cF,iF,kP,cP,iP,kL,cL,iL,kU,cU,iU,hie,kSL,cSL,iSL,kSE,cSE,iSE,him,iA]
    refine (hCo _ true).useD ?_
    simp -implicitDefEqProofs only [go_sem,mx_int]
    ((try (refine Z_seq ?_; (try simp -implicitDefEqProofs only [go_sem]))); refine Z_draw (by kernel_rfl) [0,1,2,3,4,5,6,7,8,9,10,11,12,13,14] [(14,16383),(13,8191),(12,4094),(11,0),(10,960),(9,448),(8,0),(7,64),(6,0),(5,30),(4,14),(3,0),(2,2),(1,0),(0,0)] (by kernel_rfl) (by kernel_rfl) ?_)
    simp -implicitDefEqProofs only [go_sem,g0,g1,kV,cV,iV,kC,cC,iC,kF,cF,iF,kP,cP,iP,kL,cL,iL,kU,cU,iU,hie,kSL,cSL,iSL,kSE,cSE,iSE,him,iA]
    refine (hCo _ false).useD ?_
    simp -implicitDefEqProofs only [go_sem,mx_int,hwj]
    (try (repeat' first|(refine vy ?_ ?_<;>rintro ⟨hd,hq⟩<;>first|(exfalso; omega)|simp -implicitDefEqProofs only [go_sem,hd]|skip)|refine vz ?_|simp -implicitDefEqProofs only [go_sem,mx_int,hwj]))
    refine ⟨j+1,by dsimp only; omega,⟨by omega,rfl⟩,?_⟩
    simp only [e1,e2]
    (repeat' (first|exact trivial|refine ⟨rfl,?_⟩))
   ·obtain rfl:j=n.procs.length:=by omega
    have d1:decide ((n.procs.length:Int) < (n.procs.length:Int))=false:=dcf (by omega)
    simp -implicitDefEqProofs only [go_sem,g0,kV,cV,iV,kC,cC,iC,kF,cF,iF,kP,cP,iP,kL,cL,iL,kU,cU,iU,hPn,d1]
    (repeat' first|(refine vy ?_ ?_<;>rintro ⟨hd,hq⟩<;>first|(exfalso; omega)|simp -implicitDefEqProofs only [go_sem,hd]|skip)|refine vz ?_|simp -implicitDefEqProofs only [go_sem,g0,kV,cV,iV,kC,cC,iC,kF,cF,iF,kP,cP,iP,kL,cL,iL,kU,cU,iU,hPn,d1])
    refine vlp (ι:=Nat) (fun q=>[(2,S),(3,.ptr 0 0 0),(4,.ptr 1 0 0),(6,A),(7,B),(9,(.sc (.int .i64 ((c:Int)+1)))),(10,(.sc (.int .i64 (bnd n s (l.take q) false c)))),(11,(.sc (.int .i64 (bnd n s (l.take q) true c)))),(13,(.sc (.int .i64 (q))))]) (fun q τ=>q<=l.length/\τ=σ) (fun q=>l.length - q) (fun _=>rfl) 0 ?_ ?_ ?_
    ·(repeat' (first|exact trivial|refine ⟨rfl,?_⟩))
    ·exact ⟨Nat.zero_le _,rfl⟩
    rintro q τ ⟨hq,rfl⟩
    by_cases hql:q < l.length
    ·have d2:decide ((q:Int) < (l.length:Int))=true:=dct (by omega)
     obtain ⟨x,hx⟩:∃ x,l[q]?=some x:=⟨l[q]'(by omega),by simp⟩
     have hx':(l.map cnA)[q]?=some (cnA x):=by rw [List.getElem?_map,hx]; rfl
     have hix:=fun (σ:AStore)=>hS.idx (σ:=σ) (k:=.i64) hx'
     have hwq:=wrapS (i:=q) (by omega)
     have e1:=bnd_take1 (n:=n) (s:=s) false c hx
     have e2:=bnd_take1 (n:=n) (s:=s) true c hx
     obtain ⟨xk,xl,xs,xc⟩:=x
     simp only at e1 e2
     by_cases hk:xk=(c:Int)+1
     ·have d3:=dct hk
      rw [if_pos hk] at e1 e2
      simp -implicitDefEqProofs only [go_sem,hSn,d2]
      (repeat' first|(refine vy ?_ ?_<;>rintro ⟨hd,hq⟩<;>first|(exfalso; omega)|simp -implicitDefEqProofs only [go_sem,hd]|skip)|refine vz ?_|simp -implicitDefEqProofs only [go_sem,hSn,d2,hix,cnA,d3])
      ((try (refine Z_seq ?_; (try simp -implicitDefEqProofs only [go_sem]))); refine Z_draw (by kernel_rfl) [0,1,2,3,4,5,6,7,8,9,10,11,12,13,14,15] [(15,32767),(14,127),(13,8064),(12,3840),(11,1792),(10,768),(9,0),(8,0),(7,0),(6,63),(5,30),(4,14),(3,6),(2,0),(1,0),(0,0)] (by kernel_rfl) (by kernel_rfl) ?_)
      simp -implicitDefEqProofs only [go_sem,hix,cnA,mx_int,hwq]
      (try (repeat' first|(refine vy ?_ ?_<;>rintro ⟨hd,hq⟩<;>first|(exfalso; omega)|simp -implicitDefEqProofs only [go_sem,hd]|skip)|refine vz ?_|simp -implicitDefEqProofs only [go_sem,hwq]))
      refine ⟨q+1,by dsimp only; omega,⟨by omega,rfl⟩,?_⟩
      simp only [e1,e2]
      (repeat' (first|exact trivial|refine ⟨rfl,?_⟩))
     ·have d3:=dcf hk
      rw [if_neg hk] at e1 e2
      simp -implicitDefEqProofs only [go_sem,hSn,d2]
      (repeat' first|(refine vy ?_ ?_<;>rintro ⟨hd,hq⟩<;>first|(exfalso; omega)|simp -implicitDefEqProofs only [go_sem,hd]|skip)|refine vz ?_|simp -implicitDefEqProofs only [go_sem,hSn,d2,hix,cnA,d3,hwq])
      refine ⟨q+1,by dsimp only; omega,⟨by omega,rfl⟩,?_⟩
      simp only [e1,e2]
      (repeat' (first|exact trivial|refine ⟨rfl,?_⟩))
    ·obtain rfl:q=l.length:=by omega
     have d2:decide ((l.length:Int) < (l.length:Int))=false:=dcf (by omega)
     rw [List.take_length]
     simp -implicitDefEqProofs only [go_sem,hSn,d2]
     (try (repeat' first|(refine vy ?_ ?_<;>rintro ⟨hd,hq⟩<;>first|(exfalso; omega)|simp -implicitDefEqProofs only [go_sem,hd]|skip)|refine vz ?_|simp -implicitDefEqProofs only [go_sem,hSn,d2]))
     have hlA:(rowA (bnd n s l false) c).length=c:=by simp [rowA]
     have hlB:(rowA (bnd n s l true) c).length=c:=by simp [rowA]
     have hlA1:(rowA (bnd n s l false) (c+1)).length=c+1:=by simp [rowA]
     have hlB1:(rowA (bnd n s l true) (c+1)).length=c+1:=by simp [rowA]
     have hBlt:∀ b l,B=.slice b 0 l->b < τ.next:=fun b l hb=>by
      rcases hB.oB with ⟨_,h2⟩|⟨_,b',h2,h3⟩
      ·rw [h2] at hb; cases hb
      ·rw [h2] at hb
       injection hb with hb
       rw [<-hb]
       exact AStore.lt_of_get h3
     obtain ⟨σ1,a1,a2,a3,a4⟩:=(hB.oA.alloc (.cells 1 [(.sc (.int .i64 (bnd n s l false c)))])).append (bytes:=8) (xs:=[(.sc (.int .i64 (bnd n s l false c)))]) (by simp) (by rw [hlA]; simp; omega) (by decide) (by decide) rfl
     rw [show rowA (bnd n s l false) c++[(.sc (.int .i64 (bnd n s l false c)))]=rowA (bnd n s l false) (c+1) by rw [rowA_succ]; rfl,hlA1] at a1
     rw [show rowA (bnd n s l false) c++[(.sc (.int .i64 (bnd n s l false c)))]=rowA (bnd n s l false) (c+1) by rw [rowA_succ]; rfl] at a2
     have oB1:Own σ1 1 B (rowA (bnd n s l true) c):=(hB.oB.alloc _).mono fun b y hb hg=>a4 _ _ hg fun l' hl'=>hB.ab _ _ _ hl' hb
     obtain ⟨σ2,b1,b2,b3,b4⟩:=(oB1.alloc (.cells 1 [(.sc (.int .i64 (bnd n s l true c)))])).append (bytes:=8) (xs:=[(.sc (.int .i64 (bnd n s l true c)))]) (by simp) (by rw [hlB]; simp; omega) (by decide) (by decide) rfl
     rw [show rowA (bnd n s l true) c++[(.sc (.int .i64 (bnd n s l true c)))]=rowA (bnd n s l true) (c+1) by rw [rowA_succ]; rfl,hlB1] at b1
     rw [show rowA (bnd n s l true) c++[(.sc (.int .i64 (bnd n s l true c)))]=rowA (bnd n s l true) (c+1) by rw [rowA_succ]; rfl] at b2
     have hz1:τ.next < τ.next+1:=Nat.lt_succ_self _
     have hz2:σ1.next < σ1.next+1:=Nat.lt_succ_self _
     simp -implicitDefEqProofs only [go_sem,a1,b1,hz1,hz2,hwc]
     (try (repeat' first|(refine vy ?_ ?_<;>rintro ⟨hd,hq⟩<;>first|(exfalso; omega)|simp -implicitDefEqProofs only [go_sem,hd]|skip)|refine vz ?_|simp -implicitDefEqProofs only [go_sem,a1,b1,hz1,hz2,hwc]))
     rw [hlA1] at a2
     rw [hlB1] at b2
     have ha3:σ1.next=τ.next+1+1:=a3
     have hb3:σ2.next=σ1.next+1+1:=b3
     have hBn:∀ d,d < 2->∀ l',B≠.slice d 0 l':=fun d hd l' hb=>by have:=hB.b0 _ _ hb; omega
     have hAn:∀ d,d < 2->∀ l',A≠.slice d 0 l':=fun d hd l' hb=>by have:=hB.a0 _ _ hb; omega
     have oA2:Own σ2 1 (.slice (τ.next+1) 0 (c+1)) (rowA (bnd n s l false) (c+1)):=(Own.alloc a2 (.cells 1 [(.sc (.int .i64 (bnd n s l true c)))])).mono fun b y hb hg=>b4 _ _ hg fun l' hl'=>by
      have:=hBlt _ _ hl'
      injection hb with hb
      omega
     refine ⟨(c+1,.slice (τ.next+1) 0 (c+1),.slice (σ1.next+1) 0 (c+1)),by dsimp only; omega,⟨by dsimp only; omega,b4 _ _ (get_alloc_old (a4 _ _ (get_alloc_old g0) (hAn 0 (by decide)))) (hBn 0 (by decide)),b4 _ _ (get_alloc_old (a4 _ _ (get_alloc_old g1) (hAn 1 (by decide)))) (hBn 1 (by decide)),oA2,b2,by omega,fun b l' hb=>?_,fun b l' hb=>?_,fun b l1 l2 hb hb'=>?_⟩,by (repeat' (first|exact trivial|refine ⟨rfl,?_⟩))⟩
     ·have:=hB.hn
      injection hb with hb
      omega
     ·have:=hB.hn
      injection hb with hb
      omega
     ·injection hb with hb
      injection hb' with hb'
      omega
  ·obtain rfl:C=c:=by omega
   have d0:decide ((C:Int)+1<=(C:Int))=false:=dcf (by omega)
   simp -implicitDefEqProofs only [go_sem,g0,kV,cV,iV,kC,cC,iC,kF,cF,iF,kP,cP,iP,kL,cL,iL,kU,cU,iU,d0]
   (repeat' first|(refine vy ?_ ?_<;>rintro ⟨hd,hq⟩<;>first|(exfalso; omega)|simp -implicitDefEqProofs only [go_sem,hd]|skip)|refine vz ?_|simp -implicitDefEqProofs only [go_sem,g0,kV,cV,iV,kC,cC,iC,kF,cF,iF,kP,cP,iP,kL,cL,iL,kU,cU,iU,d0])
   exact fin hB.oA hB.oB
 ·have ea:=dcf ha
  simp -implicitDefEqProofs only [go_sem,ea]
  (try (repeat' first|(refine vy ?_ ?_<;>rintro ⟨hd,hq⟩<;>first|(exfalso; omega)|simp -implicitDefEqProofs only [go_sem,hd]|skip)|refine vz ?_|simp -implicitDefEqProofs only [go_sem,ea]))
  exact ⟨_,_,rfl,rfl,.inl ⟨ha,rfl⟩⟩
theorem rowA_at {f:Nat->Int} {C k:Nat} (h:k < C):(rowA f C)[k]?=some (iA (f k)):=by
 unfold rowA
 rw [List.getElem?_map,List.getElem?_range h]; rfl
theorem rowA_len (f:Nat->Int) (C:Nat):(rowA f C).length=C:=by simp [rowA]
theorem greatestG {w:WD} {n:Nt} {v:AVal} {s:Stt} {u S:AVal} {l:List Cn} (h:IsNt n v) (hs:NtS n) (hu:IsStt s u) (hl:IsCns l S):Gives (EE w) 9 [v,u,S] (RGr n s l):=by
 have hwf:=h.wf
 have hwu:=hu.wf
 have hwS:=hl.wf
 have hBo:=fun (w:WD) (σ:AStore)=>boundsC (w:=w) (σ:=σ) h hs hu hl
 obtain ⟨SV,SC,SF,SP,rfl,fV,fC,fF,fP⟩:=h.fit0
 obtain ⟨L,U,rfl,⟨hL,lL,iL0⟩,⟨hU,lU,iU0⟩⟩:=hu
 have kL:=hL.fit
 have cL:=hL.cells
 have iL:=hL.isCell
 have kU:=hU.fit
 have cU:=hU.cells
 have iU:=hU.isCell
 refine Gives.of (fun _=>.sc _) (.cons _ _ hwf (.cons _ _ hwu (.cons _ _ hwS .nil))) 3 ?_
 refine of_9 rfl rfl rfl (by kernel_rfl) ?_
 simp -implicitDefEqProofs only [go_sem,fV,fC,fF,fP,kL,cL,iL,kU,cU,iU]
 have g0:((empty.alloc (.cells 5 [.agg [(.sc (.int .i64 (n.clocks))),SV,SC,SF,SP]])).alloc (.cells 2 [.agg [L,U]])).get 0=some (.cells 5 [.agg [(.sc (.int .i64 (n.clocks))),SV,SC,SF,SP]]):=by rw [AStore.get_alloc]; rfl
 have g1:((empty.alloc (.cells 5 [.agg [(.sc (.int .i64 (n.clocks))),SV,SC,SF,SP]])).alloc (.cells 2 [.agg [L,U]])).get 1=some (.cells 2 [.agg [L,U]]):=by rw [AStore.get_alloc]; rfl
 generalize (empty.alloc (.cells 5 [.agg [(.sc (.int .i64 (n.clocks))),SV,SC,SF,SP]])).alloc (.cells 2 [.agg [L,U]])=τ at g0 g1 ⊢
 (try simp -implicitDefEqProofs only [go_sem,g0,g1,fV,fC,fF,fP,kL,cL,iL,kU,cU,iU])
 refine (hBo _ _).mono ?_
 rintro _ σ ⟨hk,⟨ha,rfl⟩|⟨ha,b6,b7,rfl,_,_,h67,h6,h7⟩⟩
 ·have ea:=dcf ha
  simp -implicitDefEqProofs only [go_sem,ea]
  (try (repeat' first|(refine vy ?_ ?_<;>rintro ⟨hd,hq⟩<;>first|(exfalso; omega)|simp -implicitDefEqProofs only [go_sem,hd]|skip)|refine vz ?_|simp -implicitDefEqProofs only [go_sem,ea]))
  exact ⟨_,_,rfl,rfl,.inl ⟨ha,rfl⟩⟩
 ·obtain ⟨hcb,hv,hall,hl100⟩:=act_valid ha
  have hvp:=valid_procs hv
  obtain ⟨C,hCt⟩:∃ C:Nat,n.clocks.toNat=C:=⟨_,rfl⟩
  have hC8:C<=8:=by omega
  rw [hCt] at h6 h7
  have ea:=dct ha
  have lo:∀ b:Nat,∀ σ:AStore,aLen (.slice 0) (.slice b 0 C) σ=some (.sc (.int .i64 (C))):=fun b σ=>rfl
  have fin:∀ {σ:AStore},Rw σ b6 C (gst n s l)->∃ v u,AEnd.ret (.tuple [.slice b6 0 C,(.sc (.int .i64 (0)))])=AEnd.ret v/\frz σ 3 v=some u/\RGr n s l u:=fun h=>by
   refine ⟨_,.tuple [.data 1 false (rowA (gst n s l) C),(.sc (.int .i64 (0)))],rfl,?_,.inr ⟨ha,_,rfl,?_⟩⟩
   ·rw [frz_tuple,mapO_cons',h.frz]
    rfl
   ·rw [hCt]
    exact .inr ⟨_,rfl⟩
  rw [hCt]
  simp -implicitDefEqProofs only [go_sem,lo]
  (try (repeat' first|(refine vy ?_ ?_<;>rintro ⟨hd,hq⟩<;>first|(exfalso; omega)|simp -implicitDefEqProofs only [go_sem,hd]|skip)|refine vz ?_|simp -implicitDefEqProofs only [go_sem,lo]))
  refine vlp (ι:=Nat) (fun j=>[(8,.slice b6 0 C),(9,.slice b7 0 C),(24,(.sc (.int .i64 (C)))),(25,(.sc (.int .i64 (j))))]) (fun j σ=>j<=C/\Rw σ b6 C (mixF (gst n s l) (bnd n s l false) j)/\Rw σ b7 C (bnd n s l true)) (fun j=>C - j) (fun _=>rfl) 0 ?_ ?_ ?_
  ·(repeat' (first|exact trivial|refine ⟨rfl,?_⟩))
  ·exact ⟨Nat.zero_le _,h6.congr fun k _=>by simp [mixF],h7⟩
  clear h6 h7 hk g0 g1
  rintro j σ ⟨hj,h6,h7⟩
  by_cases hlt:j < C
  ·have d0:decide ((j:Int) < (C:Int))=true:=dct (by omega)
   have hw:=wrapS (i:=j) (by omega)
   have rC:(List.range C)[j]?=some j:=List.getElem?_range hlt
   have s6:σ.get b6=some (.cells 1 _):=h6
   have s7:σ.get b7=some (.cells 1 _):=h7
   simp -implicitDefEqProofs only [go_sem,d0]
   (repeat' first|(refine vy ?_ ?_<;>rintro ⟨hd,hq⟩<;>first|(exfalso; omega)|simp -implicitDefEqProofs only [go_sem,hd]|skip)|refine vz ?_|simp -implicitDefEqProofs only [go_sem,d0])
   ((try (refine Z_seq ?_; (try simp -implicitDefEqProofs only [go_sem]))); refine Z_draw (by kernel_rfl) [0,1,2,3,4,5,6,7,8] [(8,255),(7,120),(6,56),(5,24),(4,0),(3,0),(2,3),(1,0),(0,0)] (by kernel_rfl) (by kernel_rfl) ?_)
   simp -implicitDefEqProofs only [go_sem,s6,s7,ixSl_own hlt,rC,iA]
   refine (rwRaise (.inr ⟨true,rfl⟩) h6 hlt).mono ?_
   rintro _ σ' ⟨rfl,hr,hn,hk⟩
   refine .inr ?_
   have e1:max (mixF (gst n s l) (bnd n s l false) j j) (bnd n s l true j)=gst n s l j:=by rw [mixF_at]; rfl
   rw [e1,mixF_succ] at hr
   simp -implicitDefEqProofs only [go_sem,hw]
   (try (repeat' first|(refine vy ?_ ?_<;>rintro ⟨hd,hq⟩<;>first|(exfalso; omega)|simp -implicitDefEqProofs only [go_sem,hd]|skip)|refine vz ?_|simp -implicitDefEqProofs only [go_sem,hw]))
   exact ⟨j+1,by dsimp only; omega,⟨by omega,hr,hk _ _ (fun e=>h67 e.symm) h7⟩,by (repeat' (first|exact trivial|refine ⟨rfl,?_⟩))⟩
  ·obtain rfl:C=j:=by omega
   have d0:decide ((C:Int) < (C:Int))=false:=dcf (by omega)
   simp -implicitDefEqProofs only [go_sem,d0]
   (repeat' first|(refine vy ?_ ?_<;>rintro ⟨hd,hq⟩<;>first|(exfalso; omega)|simp -implicitDefEqProofs only [go_sem,hd]|skip)|refine vz ?_|simp -implicitDefEqProofs only [go_sem,d0])
   exact fin (h6.congr fun k hk=>by simp [mixF,hk])
theorem greatest16RC {w:WD} {n:Nt} {v:AVal} {s:Stt} {u S:AVal} {l:List Cn} (h:IsNt n v) (hs:NtS n) (hu:IsStt s u) (hl:IsCns l S):Gives (EE w) 10 [v,u,S] (RGr n s l):=by
 have hwf:=h.wf
 have hwu:=hu.wf
 have hwS:=hl.wf
 have hBo:=fun (w:WD)=>bounds16RC (w:=w) h hs hu hl
 obtain ⟨SV,SC,SF,SP,rfl,fV,fC,fF,fP⟩:=h.fit0
 obtain ⟨L,U,rfl,⟨hL,lL,iL0⟩,⟨hU,lU,iU0⟩⟩:=hu
 have kL:=hL.fit
 have cL:=hL.cells
 have iL:=hL.isCell
 have kU:=hU.fit
 have cU:=hU.cells
 have iU:=hU.isCell
 refine Gives.of (fun _=>.sc _) (.cons _ _ hwf (.cons _ _ hwu (.cons _ _ hwS .nil))) 3 ?_
 refine of_10 rfl rfl rfl (by kernel_rfl) ?_
 simp -implicitDefEqProofs only [go_sem,fV,fC,fF,fP,kL,cL,iL,kU,cU,iU]
 have g0:((empty.alloc (.cells 5 [.agg [(.sc (.int .i64 (n.clocks))),SV,SC,SF,SP]])).alloc (.cells 2 [.agg [L,U]])).get 0=some (.cells 5 [.agg [(.sc (.int .i64 (n.clocks))),SV,SC,SF,SP]]):=by rw [AStore.get_alloc]; rfl
 have g1:((empty.alloc (.cells 5 [.agg [(.sc (.int .i64 (n.clocks))),SV,SC,SF,SP]])).alloc (.cells 2 [.agg [L,U]])).get 1=some (.cells 2 [.agg [L,U]]):=by rw [AStore.get_alloc]; rfl
 generalize (empty.alloc (.cells 5 [.agg [(.sc (.int .i64 (n.clocks))),SV,SC,SF,SP]])).alloc (.cells 2 [.agg [L,U]])=τ at g0 g1 ⊢
 (try simp -implicitDefEqProofs only [go_sem,g0,g1,fV,fC,fF,fP,kL,cL,iL,kU,cU,iU])
 refine (hBo _).use ?_
 rintro _ (⟨ha,rfl⟩|⟨ha,D6,D7,rfl,h6,h7⟩)
 ·have ea:=dcf ha
  simp -implicitDefEqProofs only [go_sem,ea]
  (try (repeat' first|(refine vy ?_ ?_<;>rintro ⟨hd,hq⟩<;>first|(exfalso; omega)|simp -implicitDefEqProofs only [go_sem,hd]|skip)|refine vz ?_|simp -implicitDefEqProofs only [go_sem,ea]))
  exact ⟨_,_,rfl,rfl,.inl ⟨ha,rfl⟩⟩
 ·obtain ⟨hcb,hv,hall,hl100⟩:=act_valid ha
  have hvp:=valid_procs hv
  obtain ⟨C,hCt⟩:∃ C:Nat,n.clocks.toNat=C:=⟨_,rfl⟩
  have hC8:C<=8:=by omega
  rw [hCt] at h6 h7
  have lo:∀ σ:AStore,aLen (.slice 0) D6 σ=some (.sc (.int .i64 (C))):=fun σ=>h6.lenN (rowA_len _ _)
  have fin:∀ {σ:AStore} {A:AVal},Own σ 1 A (rowA (gst n s l) C)->∃ v u,AEnd.ret (.tuple [A,(.sc (.int .i64 (0)))])=AEnd.ret v/\frz σ 3 v=some u/\RGr n s l u:=by
   intro σ A hA
   have e1:=hA.frz (n:=1) (us:=rowA (gst n s l) C) (mapO_iA _ _)
   have d1:IsD 1 (if rowA (gst n s l) C=[] then (.sc (.slice none 0 0)) else .data 1 false (rowA (gst n s l) C)) (rowA (gst n s l) C):=by
    split
    ·rename_i h0; exact .inl ⟨h0,_,_,rfl⟩
    ·exact .inr ⟨_,rfl⟩
   generalize (if rowA (gst n s l) C=[] then ((.sc (.slice none 0 0)):AVal) else .data 1 false (rowA (gst n s l) C))=D1 at e1 d1
   refine ⟨_,.tuple [D1,(.sc (.int .i64 (0)))],rfl,by rw [frz_tuple,mapO_cons',e1]; rfl,.inr ⟨ha,D1,rfl,?_⟩⟩
   rw [hCt]; exact d1
  simp -implicitDefEqProofs only [go_sem]
  (try (repeat' first|(refine vy ?_ ?_<;>rintro ⟨hd,hq⟩<;>first|(exfalso; omega)|simp -implicitDefEqProofs only [go_sem,hd]|skip)|refine vz ?_|simp -implicitDefEqProofs only [go_sem]))
  refine vlp (ι:=Nat×AVal) (fun x=>[(8,D6),(9,D7),(11,x.2),(12,(.sc (.int .i64 (x.1))))]) (fun x σ=>x.1<=C/\Own σ 1 x.2 (rowA (gst n s l) x.1)) (fun x=>C - x.1) (fun _=>rfl) (0,(.sc (.slice none 0 0))) ?_ ?_ ?_
  ·(repeat' (first|exact trivial|refine ⟨rfl,?_⟩))
  ·exact ⟨Nat.zero_le _,Own.nil⟩
  clear g0 g1
  rintro ⟨j,A⟩ σ ⟨hj,hA⟩
  simp only at hj hA
  by_cases hlt:j < C
  ·have d0:decide ((j:Int) < (C:Int))=true:=dct (by omega)
   have hw:=wrapS (i:=j) (by omega)
   have i6:=fun (σ:AStore)=>h6.idx (σ:=σ) (k:=.i64) (rowA_at (f:=bnd n s l false) hlt)
   have i7:=fun (σ:AStore)=>h7.idx (σ:=σ) (k:=.i64) (rowA_at (f:=bnd n s l true) hlt)
   obtain ⟨σ1,a1,a2,a3,a4⟩:=hA.append (bytes:=8) (xs:=[(.sc (.int .i64 (max (bnd n s l false j) (bnd n s l true j))))]) (by simp) (by rw [rowA_len]; simp; omega) (by decide) (by decide) rfl
   rw [show rowA (gst n s l) j++[(.sc (.int .i64 (max (bnd n s l false j) (bnd n s l true j))))]=rowA (gst n s l) (j+1) by rw [rowA_succ]; rfl,rowA_len] at a1 a2
   simp -implicitDefEqProofs only [go_sem,lo,d0]
   (repeat' first|(refine vy ?_ ?_<;>rintro ⟨hd,hq⟩<;>first|(exfalso; omega)|simp -implicitDefEqProofs only [go_sem,hd]|skip)|refine vz ?_|simp -implicitDefEqProofs only [go_sem,lo,d0])
   ((try (refine Z_seq ?_; (try simp -implicitDefEqProofs only [go_sem]))); refine Z_draw (by kernel_rfl) [0,1,2,3,4,5,6,7,8,9,10,11,12] [(12,4095),(11,2047),(10,1022),(9,510),(8,224),(7,96),(6,0),(5,0),(4,14),(3,6),(2,0),(1,0),(0,0)] (by kernel_rfl) (by kernel_rfl) ?_)
   simp -implicitDefEqProofs only [go_sem,i6,i7,iA,mx_int,a1]
   (try (repeat' first|(refine vy ?_ ?_<;>rintro ⟨hd,hq⟩<;>first|(exfalso; omega)|simp -implicitDefEqProofs only [go_sem,hd]|skip)|refine vz ?_|simp -implicitDefEqProofs only [go_sem,mx_int,a1,hw]))
   exact ⟨(j+1,.slice σ.next 0 (j+1)),by dsimp only; omega,⟨by dsimp only; omega,a2⟩,by (repeat' (first|exact trivial|refine ⟨rfl,?_⟩))⟩
  ·obtain rfl:C=j:=by omega
   have d0:decide ((C:Int) < (C:Int))=false:=dcf (by omega)
   simp -implicitDefEqProofs only [go_sem,lo,d0]
   (repeat' first|(refine vy ?_ ?_<;>rintro ⟨hd,hq⟩<;>first|(exfalso; omega)|simp -implicitDefEqProofs only [go_sem,hd]|skip)|refine vz ?_|simp -implicitDefEqProofs only [go_sem,lo,d0])
   exact fin hA
theorem gst_low (n:Nt) (s:Stt) (l:List Cn) (k:Nat):-1<=gst n s l k:=by
 have:=bnd_low n s l false k
 unfold gst
 omega
theorem mts_succ (n:Nt) (s:Stt) (l:List Cn) (j:Nat):mts n s l (j+1)=mts n s l j++(if gst n s l j=-1 then [] else [j]):=by
 unfold mts
 rw [List.range_succ,List.filter_append]
 congr 1
 by_cases h:gst n s l j=-1
 ·rw [if_pos h]; simp [h]
 ·rw [if_neg h]; simp [h]
theorem mts_len (n:Nt) (s:Stt) (l:List Cn) (j:Nat):(mts n s l j).length<=j:=by
 have:=List.length_filter_le (fun k=>decide (gst n s l k≠-1)) (List.range j)
 rw [List.length_range] at this
 exact this
theorem mapO_mtA {σ:AStore} {M:Nat}:∀ l:List Nat,mapO (Abs.frz σ (M+1)) (l.map mtA)=some (l.map mtA)
 | []=>rfl
 | x::l=>by rw [List.map_cons,mapO_cons',mapO_mtA l]; rfl
theorem mtFin {n:Nt} {s:Stt} {l:List Cn} (ha:actI n s l=0) {σ:AStore} {A:AVal} (hA:Own σ 1 A ((mts n s l n.clocks.toNat).map mtA)):∃ v u,AEnd.ret (.tuple [A,(.sc (.int .i64 (0)))])=AEnd.ret v/\frz σ 3 v=some u/\RMt n s l u:=by
 have e1:=hA.frz (n:=1) (us:=(mts n s l n.clocks.toNat).map mtA) (mapO_mtA _)
 have d1:IsD 1 (if (mts n s l n.clocks.toNat).map mtA=[] then (.sc (.slice none 0 0)) else .data 1 false ((mts n s l n.clocks.toNat).map mtA)) ((mts n s l n.clocks.toNat).map mtA):=by
  split
  ·rename_i h0; exact .inl ⟨h0,_,_,rfl⟩
  ·exact .inr ⟨_,rfl⟩
 generalize (if (mts n s l n.clocks.toNat).map mtA=[] then ((.sc (.slice none 0 0)):AVal) else .data 1 false ((mts n s l n.clocks.toNat).map mtA))=D1 at e1 d1
 exact ⟨_,.tuple [D1,(.sc (.int .i64 (0)))],rfl,by rw [frz_tuple,mapO_cons',e1]; rfl,.inr ⟨ha,D1,rfl,d1⟩⟩
theorem mattersG {w:WD} {n:Nt} {v:AVal} {s:Stt} {u S:AVal} {l:List Cn} (h:IsNt n v) (hs:NtS n) (hu:IsStt s u) (hl:IsCns l S):Gives (EE w) 11 [v,u,S] (RMt n s l):=by
 have hwf:=h.wf
 have hwu:=hu.wf
 have hwS:=hl.wf
 have hBo:=fun (w:WD)=>greatestG (w:=w) h hs hu hl
 obtain ⟨SV,SC,SF,SP,rfl,fV,fC,fF,fP⟩:=h.fit0
 obtain ⟨L,U,rfl,⟨hL,lL,iL0⟩,⟨hU,lU,iU0⟩⟩:=hu
 have kL:=hL.fit
 have cL:=hL.cells
 have iL:=hL.isCell
 have kU:=hU.fit
 have cU:=hU.cells
 have iU:=hU.isCell
 refine Gives.of (fun _=>.sc _) (.cons _ _ hwf (.cons _ _ hwu (.cons _ _ hwS .nil))) 3 ?_
 refine of_11 rfl rfl rfl (by kernel_rfl) ?_
 simp -implicitDefEqProofs only [go_sem,fV,fC,fF,fP,kL,cL,iL,kU,cU,iU]
 have g0:((empty.alloc (.cells 5 [.agg [(.sc (.int .i64 (n.clocks))),SV,SC,SF,SP]])).alloc (.cells 2 [.agg [L,U]])).get 0=some (.cells 5 [.agg [(.sc (.int .i64 (n.clocks))),SV,SC,SF,SP]]):=by rw [AStore.get_alloc]; rfl
 have g1:((empty.alloc (.cells 5 [.agg [(.sc (.int .i64 (n.clocks))),SV,SC,SF,SP]])).alloc (.cells 2 [.agg [L,U]])).get 1=some (.cells 2 [.agg [L,U]]):=by rw [AStore.get_alloc]; rfl
 generalize (empty.alloc (.cells 5 [.agg [(.sc (.int .i64 (n.clocks))),SV,SC,SF,SP]])).alloc (.cells 2 [.agg [L,U]])=τ at g0 g1 ⊢
 (try simp -implicitDefEqProofs only [go_sem,g0,g1,fV,fC,fF,fP,kL,cL,iL,kU,cU,iU])
 refine (hBo _).use ?_
 rintro _ (⟨ha,rfl⟩|⟨ha,D,rfl,hD⟩)
 ·have ea:=dcf ha
  simp -implicitDefEqProofs only [go_sem,ea]
  (try (repeat' first|(refine vy ?_ ?_<;>rintro ⟨hd,hq⟩<;>first|(exfalso; omega)|simp -implicitDefEqProofs only [go_sem,hd]|skip)|refine vz ?_|simp -implicitDefEqProofs only [go_sem,ea]))
  exact ⟨_,_,rfl,rfl,.inl ⟨ha,rfl⟩⟩
 ·obtain ⟨hcb,hv,hall,hl100⟩:=act_valid ha
  have hvp:=valid_procs hv
  have hfin:=fun (σ:AStore) (A:AVal) (hA:Own σ 1 A ((mts n s l n.clocks.toNat).map mtA))=>mtFin ha hA
  obtain ⟨C,hCt⟩:∃ C:Nat,n.clocks.toNat=C:=⟨_,rfl⟩
  have hC8:C<=8:=by omega
  rw [hCt] at hD hfin
  have lo:∀ σ:AStore,aLen (.slice 0) D σ=some (.sc (.int .i64 (C))):=fun σ=>hD.lenN (rowA_len _ _)
  simp -implicitDefEqProofs only [go_sem,lo]
  (try (repeat' first|(refine vy ?_ ?_<;>rintro ⟨hd,hq⟩<;>first|(exfalso; omega)|simp -implicitDefEqProofs only [go_sem,hd]|skip)|refine vz ?_|simp -implicitDefEqProofs only [go_sem,lo]))
  refine vlp (ι:=Nat×AVal) (fun x=>[(10,x.2),(23,D),(24,(.sc (.int .i64 (C)))),(25,(.sc (.int .i64 (x.1))))]) (fun x σ=>x.1<=C/\Own σ 1 x.2 ((mts n s l x.1).map mtA)) (fun x=>C - x.1) (fun _=>rfl) (0,(.sc (.slice none 0 0))) ?_ ?_ ?_
  ·(repeat' (first|exact trivial|refine ⟨rfl,?_⟩))
  ·exact ⟨Nat.zero_le _,Own.nil⟩
  clear g0 g1
  rintro ⟨j,A⟩ σ ⟨hj,hA⟩
  simp only at hj hA
  by_cases hlt:j < C
  ·have d0:decide ((j:Int) < (C:Int))=true:=dct (by omega)
   have hw:=wrapS (i:=j) (by omega)
   have hw2:IntKind.i64.wrap ((j:Int)+1)=(j:Int)+1:=wrap64 (by omega) (by omega)
   have ix:=fun (σ:AStore)=>hD.idx (σ:=σ) (k:=.i64) (rowA_at (f:=gst n s l) hlt)
   have hms:=mts_succ n s l j
   have hml:=mts_len n s l j
   by_cases hg:gst n s l j=-1
   ·rw [if_pos hg,List.append_nil] at hms
    have d1:decide (gst n s l j=-1)=true:=dct hg
    simp -implicitDefEqProofs only [go_sem,lo,d0]
    (repeat' first|(refine vy ?_ ?_<;>rintro ⟨hd,hq⟩<;>first|(exfalso; omega)|simp -implicitDefEqProofs only [go_sem,hd]|skip)|refine vz ?_|simp -implicitDefEqProofs only [go_sem,lo,d0,ix,iA,d1,hw])
    exact ⟨(j+1,A),by dsimp only; omega,⟨by dsimp only; omega,by dsimp only; rw [hms]; exact hA⟩,by (repeat' (first|exact trivial|refine ⟨rfl,?_⟩))⟩
   ·rw [if_neg hg] at hms
    have d1:decide (gst n s l j=-1)=false:=dcf hg
    obtain ⟨σ1,a1,a2,a3,a4⟩:=(hA.alloc (.cells 1 [(.sc (.int .i64 ((j:Int)+1)))])).append (bytes:=8) (xs:=[(.sc (.int .i64 ((j:Int)+1)))]) (by simp) (by rw [List.length_map]; simp; omega) (by decide) (by decide) rfl
    rw [show (mts n s l j).map mtA++[(.sc (.int .i64 ((j:Int)+1)))]=(mts n s l (j+1)).map mtA by rw [hms,List.map_append]; rfl,List.length_map] at a1 a2
    have hz:σ.next < σ.next+1:=Nat.lt_succ_self _
    simp -implicitDefEqProofs only [go_sem,lo,d0]
    (repeat' first|(refine vy ?_ ?_<;>rintro ⟨hd,hq⟩<;>first|(exfalso; omega)|simp -implicitDefEqProofs only [go_sem,hd]|skip)|refine vz ?_|simp -implicitDefEqProofs only [go_sem,lo,d0,ix,iA,d1,hw2,a1,hz])
    (try simp -implicitDefEqProofs only [go_sem,hw])
    exact ⟨(j+1,.slice (σ.next+1) 0 (mts n s l (j+1)).length),by dsimp only; omega,⟨by dsimp only; omega,a2⟩,by (repeat' (first|exact trivial|refine ⟨rfl,?_⟩))⟩
  ·obtain rfl:C=j:=by omega
   have d0:decide ((C:Int) < (C:Int))=false:=dcf (by omega)
   simp -implicitDefEqProofs only [go_sem,lo,d0]
   (repeat' first|(refine vy ?_ ?_<;>rintro ⟨hd,hq⟩<;>first|(exfalso; omega)|simp -implicitDefEqProofs only [go_sem,hd]|skip)|refine vz ?_|simp -implicitDefEqProofs only [go_sem,lo,d0])
   exact hfin _ _ hA
theorem matters16RC {w:WD} {n:Nt} {v:AVal} {s:Stt} {u S:AVal} {l:List Cn} (h:IsNt n v) (hs:NtS n) (hu:IsStt s u) (hl:IsCns l S):Gives (EE w) 12 [v,u,S] (RMt n s l):=by
 have hwf:=h.wf
 have hwu:=hu.wf
 have hwS:=hl.wf
 have hBo:=fun (w:WD)=>greatest16RC (w:=w) h hs hu hl
 obtain ⟨SV,SC,SF,SP,rfl,fV,fC,fF,fP⟩:=h.fit0
 obtain ⟨L,U,rfl,⟨hL,lL,iL0⟩,⟨hU,lU,iU0⟩⟩:=hu
 have kL:=hL.fit
 have cL:=hL.cells
 have iL:=hL.isCell
 have kU:=hU.fit
 have cU:=hU.cells
 have iU:=hU.isCell
 refine Gives.of (fun _=>.sc _) (.cons _ _ hwf (.cons _ _ hwu (.cons _ _ hwS .nil))) 3 ?_
 refine of_12 rfl rfl rfl (by kernel_rfl) ?_
 simp -implicitDefEqProofs only [go_sem,fV,fC,fF,fP,kL,cL,iL,kU,cU,iU]
 have g0:((empty.alloc (.cells 5 [.agg [(.sc (.int .i64 (n.clocks))),SV,SC,SF,SP]])).alloc (.cells 2 [.agg [L,U]])).get 0=some (.cells 5 [.agg [(.sc (.int .i64 (n.clocks))),SV,SC,SF,SP]]):=by rw [AStore.get_alloc]; rfl
 have g1:((empty.alloc (.cells 5 [.agg [(.sc (.int .i64 (n.clocks))),SV,SC,SF,SP]])).alloc (.cells 2 [.agg [L,U]])).get 1=some (.cells 2 [.agg [L,U]]):=by rw [AStore.get_alloc]; rfl
 generalize (empty.alloc (.cells 5 [.agg [(.sc (.int .i64 (n.clocks))),SV,SC,SF,SP]])).alloc (.cells 2 [.agg [L,U]])=τ at g0 g1 ⊢
 (try simp -implicitDefEqProofs only [go_sem,g0,g1,fV,fC,fF,fP,kL,cL,iL,kU,cU,iU])
 refine (hBo _).use ?_
 rintro _ (⟨ha,rfl⟩|⟨ha,D,rfl,hD⟩)
 ·have ea:=dcf ha
  simp -implicitDefEqProofs only [go_sem,ea]
  (try (repeat' first|(refine vy ?_ ?_<;>rintro ⟨hd,hq⟩<;>first|(exfalso; omega)|simp -implicitDefEqProofs only [go_sem,hd]|skip)|refine vz ?_|simp -implicitDefEqProofs only [go_sem,ea]))
  exact ⟨_,_,rfl,rfl,.inl ⟨ha,rfl⟩⟩
 ·obtain ⟨hcb,hv,hall,hl100⟩:=act_valid ha
  have hvp:=valid_procs hv
  have hfin:=fun (σ:AStore) (A:AVal) (hA:Own σ 1 A ((mts n s l n.clocks.toNat).map mtA))=>mtFin ha hA
  obtain ⟨C,hCt⟩:∃ C:Nat,n.clocks.toNat=C:=⟨_,rfl⟩
  have hC8:C<=8:=by omega
  rw [hCt] at hD hfin
  have lo:∀ σ:AStore,aLen (.slice 0) D σ=some (.sc (.int .i64 (C))):=fun σ=>hD.lenN (rowA_len _ _)
  simp -implicitDefEqProofs only [go_sem,lo]
  (try (repeat' first|(refine vy ?_ ?_<;>rintro ⟨hd,hq⟩<;>first|(exfalso; omega)|simp -implicitDefEqProofs only [go_sem,hd]|skip)|refine vz ?_|simp -implicitDefEqProofs only [go_sem,lo]))
  refine vlp (ι:=Nat×AVal) (fun x=>[(8,D),(10,x.2),(11,(.sc (.int .i64 (x.1))))]) (fun x σ=>x.1<=C/\Own σ 1 x.2 ((mts n s l x.1).map mtA)) (fun x=>C - x.1) (fun _=>rfl) (0,(.sc (.slice none 0 0))) ?_ ?_ ?_
  ·(repeat' (first|exact trivial|refine ⟨rfl,?_⟩))
  ·exact ⟨Nat.zero_le _,Own.nil⟩
  clear g0 g1
  rintro ⟨j,A⟩ σ ⟨hj,hA⟩
  simp only at hj hA
  by_cases hlt:j < C
  ·have d0:decide ((j:Int) < (C:Int))=true:=dct (by omega)
   have hw:=wrapS (i:=j) (by omega)
   have hw2:IntKind.i64.wrap ((j:Int)+1)=(j:Int)+1:=wrap64 (by omega) (by omega)
   have ix:=fun (σ:AStore)=>hD.idx (σ:=σ) (k:=.i64) (rowA_at (f:=gst n s l) hlt)
   have hms:=mts_succ n s l j
   have hml:=mts_len n s l j
   by_cases hg:gst n s l j=-1
   ·rw [if_pos hg,List.append_nil] at hms
    have d1:decide ((0:Int)<=gst n s l j)=false:=dcf (by omega)
    simp -implicitDefEqProofs only [go_sem,lo,d0]
    (repeat' first|(refine vy ?_ ?_<;>rintro ⟨hd,hq⟩<;>first|(exfalso; omega)|simp -implicitDefEqProofs only [go_sem,hd]|skip)|refine vz ?_|simp -implicitDefEqProofs only [go_sem,lo,d0,ix,iA,d1,hw])
    exact ⟨(j+1,A),by dsimp only; omega,⟨by dsimp only; omega,by dsimp only; rw [hms]; exact hA⟩,by (repeat' (first|exact trivial|refine ⟨rfl,?_⟩))⟩
   ·rw [if_neg hg] at hms
    have d1:decide ((0:Int)<=gst n s l j)=true:=dct (by have:=gst_low n s l j; omega)
    obtain ⟨σ1,a1,a2,a3,a4⟩:=(hA.alloc (.cells 1 [(.sc (.int .i64 ((j:Int)+1)))])).append (bytes:=8) (xs:=[(.sc (.int .i64 ((j:Int)+1)))]) (by simp) (by rw [List.length_map]; simp; omega) (by decide) (by decide) rfl
    rw [show (mts n s l j).map mtA++[(.sc (.int .i64 ((j:Int)+1)))]=(mts n s l (j+1)).map mtA by rw [hms,List.map_append]; rfl,List.length_map] at a1 a2
    have hz:σ.next < σ.next+1:=Nat.lt_succ_self _
    simp -implicitDefEqProofs only [go_sem,lo,d0]
    (repeat' first|(refine vy ?_ ?_<;>rintro ⟨hd,hq⟩<;>first|(exfalso; omega)|simp -implicitDefEqProofs only [go_sem,hd]|skip)|refine vz ?_|simp -implicitDefEqProofs only [go_sem,lo,d0,ix,iA,d1,hw2,a1,hz])
    (try simp -implicitDefEqProofs only [go_sem,hw])
    exact ⟨(j+1,.slice (σ.next+1) 0 (mts n s l (j+1)).length),by dsimp only; omega,⟨by dsimp only; omega,a2⟩,by (repeat' (first|exact trivial|refine ⟨rfl,?_⟩))⟩
  ·obtain rfl:C=j:=by omega
   have d0:decide ((C:Int) < (C:Int))=false:=dcf (by omega)
   simp -implicitDefEqProofs only [go_sem,lo,d0]
   (repeat' first|(refine vy ?_ ?_<;>rintro ⟨hd,hq⟩<;>first|(exfalso; omega)|simp -implicitDefEqProofs only [go_sem,hd]|skip)|refine vz ?_|simp -implicitDefEqProofs only [go_sem,lo,d0])
   exact hfin _ _ hA
noncomputable def blL (n:Nt) (s:Stt) (l:List Cn) (up:Bool):List Int:=if actI n s l=0 then (List.range n.clocks.toNat).map (bnd n s l up) else []
noncomputable def glL (n:Nt) (s:Stt) (l:List Cn):List Int:=if actI n s l=0 then (List.range n.clocks.toNat).map (gst n s l) else []
noncomputable def mlL (n:Nt) (s:Stt) (l:List Cn):List Nat:=if actI n s l=0 then mts n s l n.clocks.toNat else []
theorem rowA_map (f:Nat->Int) (C:Nat):rowA f C=((List.range C).map f).map iA:=by
 unfold rowA
 rw [List.map_map]
 rfl
theorem RBn.un {n:Nt} {s:Stt} {l:List Cn} {r:AVal} (h:RBn n s l r):∃ D6 D7,r=.tuple [D6,D7,(.sc (.int .i64 (actI n s l)))]/\IsD 1 D6 ((blL n s l false).map iA)/\IsD 1 D7 ((blL n s l true).map iA):=by
 rcases h with ⟨ha,rfl⟩|⟨ha,D6,D7,rfl,h6,h7⟩
 ·refine ⟨_,_,rfl,?_,?_⟩<;>(unfold blL; rw [if_neg ha]; exact .inl ⟨rfl,_,_,rfl⟩)
 ·refine ⟨D6,D7,by rw [ha],?_,?_⟩
  ·unfold blL; rw [if_pos ha,<-rowA_map]; exact h6
  ·unfold blL; rw [if_pos ha,<-rowA_map]; exact h7
theorem RGr.un {n:Nt} {s:Stt} {l:List Cn} {r:AVal} (h:RGr n s l r):∃ D,r=.tuple [D,(.sc (.int .i64 (actI n s l)))]/\IsD 1 D ((glL n s l).map iA):=by
 rcases h with ⟨ha,rfl⟩|⟨ha,D,rfl,hD⟩
 ·refine ⟨_,rfl,?_⟩
  unfold glL; rw [if_neg ha]; exact .inl ⟨rfl,_,_,rfl⟩
 ·refine ⟨D,by rw [ha],?_⟩
  unfold glL; rw [if_pos ha,<-rowA_map]; exact hD
theorem RMt.un {n:Nt} {s:Stt} {l:List Cn} {r:AVal} (h:RMt n s l r):∃ D,r=.tuple [D,(.sc (.int .i64 (actI n s l)))]/\IsD 1 D ((mlL n s l).map mtA):=by
 rcases h with ⟨ha,rfl⟩|⟨ha,D,rfl,hD⟩
 ·refine ⟨_,rfl,?_⟩
  unfold mlL; rw [if_neg ha]; exact .inl ⟨rfl,_,_,rfl⟩
 ·refine ⟨D,by rw [ha],?_⟩
  unfold mlL; rw [if_pos ha]; exact hD
theorem act_C {n:Nt} {s:Stt} {l:List Cn} (ha:actI n s l=0):n.clocks.toNat<=8:=by
 have:=valid_procs (act_valid ha).2.1
 omega
theorem bl_len (n:Nt) (s:Stt) (l:List Cn) (up:Bool):(blL n s l up).length<=1000000:=by
 unfold blL
 split
 ·rename_i ha; have:=act_C ha; simp; omega
 ·simp
theorem gl_len (n:Nt) (s:Stt) (l:List Cn):(glL n s l).length<=1000000:=by
 unfold glL
 split
 ·rename_i ha; have:=act_C ha; simp; omega
 ·simp
theorem ml_len (n:Nt) (s:Stt) (l:List Cn):(mlL n s l).length<=1000000:=by
 unfold mlL
 split
 ·rename_i ha; have:=act_C ha; have:=mts_len n s l n.clocks.toNat; omega
 ·simp
theorem lawBounds {w:WD} {n:Nt} {v:AVal} {s:Stt} {u S:AVal} {l:List Cn} (h:IsNt n v) (hu:IsStt s u) (hl:IsCns l S) (awake:∀ w:World,Gives (EE ⟨w,[]⟩) 5 [] fun v=>v=.sc (.bool true)):
  ACalls (EE w) 3 [v,u,S] empty fun e _=>e=.ret (.sc (.bool true)):=by
 have hLa:=fun w:WD=>large16C (w:=w) h hu hl
 have hb1:=fun (w:WD) (hs:NtS n)=>boundsG (w:=w) h hs hu hl
 have hb2:=fun (w:WD) (hs:NtS n)=>bounds16RC (w:=w) h hs hu hl
 have hg1:=fun (w:WD) (hs:NtS n)=>greatestG (w:=w) h hs hu hl
 have hg2:=fun (w:WD) (hs:NtS n)=>greatest16RC (w:=w) h hs hu hl
 have hm1:=fun (w:WD) (hs:NtS n)=>mattersG (w:=w) h hs hu hl
 have hm2:=fun (w:WD) (hs:NtS n)=>matters16RC (w:=w) h hs hu hl
 obtain ⟨SV,SC,SF,SP,rfl,fV,fC,fF,fP⟩:=h.fit0
 obtain ⟨L,U,rfl,⟨hL,lL,iL0⟩,⟨hU,lU,iU0⟩⟩:=hu
 have kL:=hL.fit
 have cL:=hL.cells
 have iL:=hL.isCell
 have kU:=hU.fit
 have cU:=hU.cells
 have iU:=hU.isCell
 refine of_3 rfl rfl rfl (by kernel_rfl) ?_
 simp -implicitDefEqProofs only [go_sem,fV,fC,fF,fP,kL,cL,iL,kU,cU,iU]
 have g0:((empty.alloc (.cells 5 [.agg [(.sc (.int .i64 (n.clocks))),SV,SC,SF,SP]])).alloc (.cells 2 [.agg [L,U]])).get 0=some (.cells 5 [.agg [(.sc (.int .i64 (n.clocks))),SV,SC,SF,SP]]):=by rw [AStore.get_alloc]; rfl
 have g1:((empty.alloc (.cells 5 [.agg [(.sc (.int .i64 (n.clocks))),SV,SC,SF,SP]])).alloc (.cells 2 [.agg [L,U]])).get 1=some (.cells 2 [.agg [L,U]]):=by rw [AStore.get_alloc]; rfl
 generalize (empty.alloc (.cells 5 [.agg [(.sc (.int .i64 (n.clocks))),SV,SC,SF,SP]])).alloc (.cells 2 [.agg [L,U]])=τ at g0 g1 ⊢
 (try simp -implicitDefEqProofs only [go_sem,g0,g1,fV,fC,fF,fP,kL,cL,iL,kU,cU,iU])
 refine (hLa _).use fun r hr=>?_
 rcases hr with rfl|⟨rfl,hlg,_,_,hl120⟩
 ·(repeat' first|(refine vy ?_ ?_<;>rintro ⟨hd,hq⟩<;>first|(exfalso; omega)|simp -implicitDefEqProofs only [go_sem,hd]|skip)|refine vz ?_|simp -implicitDefEqProofs only [go_sem])
  refine (awake _).use ?_
  rintro _ rfl
  (repeat' first|(refine vy ?_ ?_<;>rintro ⟨hd,hq⟩<;>first|(exfalso; omega)|simp -implicitDefEqProofs only [go_sem,hd]|skip)|refine vz ?_|simp -implicitDefEqProofs only [go_sem])
 have hnt:=hlg.nts
 have ee:decide (actI n s l=actI n s l)=true:=dct rfl
 (repeat' first|(refine vy ?_ ?_<;>rintro ⟨hd,hq⟩<;>first|(exfalso; omega)|simp -implicitDefEqProofs only [go_sem,hd]|skip)|refine vz ?_|simp -implicitDefEqProofs only [go_sem,g0,g1,fV,fC,fF,fP,kL,cL,iL,kU,cU,iU])
 refine (hb1 _ hnt).use fun r hr=>?_
 obtain ⟨D6,D7,rfl,d6,d7⟩:=hr.un
 simp -implicitDefEqProofs only [go_sem,g0,g1,fV,fC,fF,fP,kL,cL,iL,kU,cU,iU]
 refine (hb2 _ hnt).use fun r hr=>?_
 obtain ⟨E6,E7,rfl,e6,e7⟩:=hr.un
 simp -implicitDefEqProofs only [go_sem]
 refine (sameC d6 e6 (bl_len _ _ _ _) (bl_len _ _ _ _)).use ?_
 rw [dct rfl]
 simp -implicitDefEqProofs only [go_sem]
 refine (sameC d7 e7 (bl_len _ _ _ _) (bl_len _ _ _ _)).use ?_
 rw [dct rfl]
 simp -implicitDefEqProofs only [go_sem,ee]
 (repeat' first|(refine vy ?_ ?_<;>rintro ⟨hd,hq⟩<;>first|(exfalso; omega)|simp -implicitDefEqProofs only [go_sem,hd]|skip)|refine vz ?_|simp -implicitDefEqProofs only [go_sem,ee,g0,g1,fV,fC,fF,fP,kL,cL,iL,kU,cU,iU])
 refine (hg1 _ hnt).use fun r hr=>?_
 obtain ⟨D,rfl,d⟩:=hr.un
 simp -implicitDefEqProofs only [go_sem,g0,g1,fV,fC,fF,fP,kL,cL,iL,kU,cU,iU]
 refine (hg2 _ hnt).use fun r hr=>?_
 obtain ⟨E,rfl,e⟩:=hr.un
 simp -implicitDefEqProofs only [go_sem]
 refine (sameC d e (gl_len _ _ _) (gl_len _ _ _)).use ?_
 rw [dct rfl]
 simp -implicitDefEqProofs only [go_sem,ee]
 (repeat' first|(refine vy ?_ ?_<;>rintro ⟨hd,hq⟩<;>first|(exfalso; omega)|simp -implicitDefEqProofs only [go_sem,hd]|skip)|refine vz ?_|simp -implicitDefEqProofs only [go_sem,ee,g0,g1,fV,fC,fF,fP,kL,cL,iL,kU,cU,iU])
 refine (hm1 _ hnt).use fun r hr=>?_
 obtain ⟨X,rfl,x⟩:=hr.un
 simp -implicitDefEqProofs only [go_sem,g0,g1,fV,fC,fF,fP,kL,cL,iL,kU,cU,iU]
 refine (hm2 _ hnt).use fun r hr=>?_
 obtain ⟨Y,rfl,y⟩:=hr.un
 have hXn:∀ σ:AStore,aLen (.slice 0) X σ=some (.sc (.int .i64 ((mlL n s l).length))):=fun σ=>x.lenN (by simp)
 have hYn:∀ σ:AStore,aLen (.slice 0) Y σ=some (.sc (.int .i64 ((mlL n s l).length))):=fun σ=>y.lenN (by simp)
 have el:decide (((mlL n s l).length:Int)=((mlL n s l).length:Int))=true:=dct rfl
 have hml:=ml_len n s l
 simp -implicitDefEqProofs only [go_sem,hXn,hYn,ee,el]
 (repeat' first|(refine vy ?_ ?_<;>rintro ⟨hd,hq⟩<;>first|(exfalso; omega)|simp -implicitDefEqProofs only [go_sem,hd]|skip)|refine vz ?_|simp -implicitDefEqProofs only [go_sem,hXn,hYn,ee,el])
 refine vlp (ι:=Nat) (fun j=>[(15,X),(16,Y),(17,(.sc (.int .i64 (j))))]) (fun j σ=>j<=(mlL n s l).length) (fun j=>(mlL n s l).length - j) (fun _=>rfl) 0 ?_ ?_ ?_
 ·(repeat' (first|exact trivial|refine ⟨rfl,?_⟩))
 ·exact Nat.zero_le _
 rintro j σ hj
 by_cases hlt:j < (mlL n s l).length
 ·have d0:decide ((j:Int) < ((mlL n s l).length:Int))=true:=dct (by omega)
  obtain ⟨z,hz⟩:∃ z,(mlL n s l)[j]?=some z:=⟨(mlL n s l)[j]'(by omega),by simp⟩
  have hz':((mlL n s l).map mtA)[j]?=some (mtA z):=by rw [List.getElem?_map,hz]; rfl
  have hix:=fun (σ:AStore)=>x.idx (σ:=σ) (k:=.i64) hz'
  have hiy:=fun (σ:AStore)=>y.idx (σ:=σ) (k:=.i64) hz'
  have hw:=wrapS (i:=j) (by omega)
  have d1:decide ((z:Int)+1=(z:Int)+1)=true:=dct rfl
  simp -implicitDefEqProofs only [go_sem,hYn,d0]
  (repeat' first|(refine vy ?_ ?_<;>rintro ⟨hd,hq⟩<;>first|(exfalso; omega)|simp -implicitDefEqProofs only [go_sem,hd]|skip)|refine vz ?_|simp -implicitDefEqProofs only [go_sem,hYn,d0])
  ((try (refine Z_seq ?_; (try simp -implicitDefEqProofs only [go_sem]))); refine Z_draw (by kernel_rfl) [0,1,2,3,4,5,6,7,8] [(8,255),(7,112),(6,48),(5,0),(4,0),(3,7),(2,3),(1,0),(0,0)] (by kernel_rfl) (by kernel_rfl) ?_)
  simp -implicitDefEqProofs only [go_sem,hix,hiy,mtA,d1]
  (try (repeat' first|(refine vy ?_ ?_<;>rintro ⟨hd,hq⟩<;>first|(exfalso; omega)|simp -implicitDefEqProofs only [go_sem,hd]|skip)|refine vz ?_|simp -implicitDefEqProofs only [go_sem,d1,hw]))
  exact ⟨j+1,by dsimp only; omega,by dsimp only; omega,by (repeat' (first|exact trivial|refine ⟨rfl,?_⟩))⟩
 ·obtain rfl:j=(mlL n s l).length:=by omega
  have d0:decide (((mlL n s l).length:Int) < ((mlL n s l).length:Int))=false:=dcf (by omega)
  simp -implicitDefEqProofs only [go_sem,hYn,d0]
  (repeat' first|(refine vy ?_ ?_<;>rintro ⟨hd,hq⟩<;>first|(exfalso; omega)|simp -implicitDefEqProofs only [go_sem,hd]|skip)|refine vz ?_|simp -implicitDefEqProofs only [go_sem,hYn,d0])
  refine (awake _).use ?_
  rintro _ rfl
  (repeat' first|(refine vy ?_ ?_<;>rintro ⟨hd,hq⟩<;>first|(exfalso; omega)|simp -implicitDefEqProofs only [go_sem,hd]|skip)|refine vz ?_|simp -implicitDefEqProofs only [go_sem])
end Abs
end
