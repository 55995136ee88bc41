/-
  Functions of the program walked: each is shown to compute a plain function (F1).
-/
import Derived.Test.YtkhjmhdpaikokaaGreatDoorD3
import Derived.Test.YtkhjmhdpaikokaaGreatDoorEvP
import Derived.Test.YtkhjmhdpaikokaaGreatDoorT11
set_option linter.unusedSimpArgs false
set_option linter.unusedVariables false
set_option maxRecDepth 100000
set_option maxHeartbeats 16000000
set_option linter.unusedSectionVars false
noncomputable section
namespace Abs
open Go Go.Proofs
def kindB (n:Nt) (s:Stt) (p:Nat):Int:=match s.locs[p]?,n.procs[p]? with
 | some l,some x=>(match x.locs[l.toNat]? with
  | some y=>y.kind
  | none=>0)
 | _,_=>0
/-- An edge is open. -/
def opE (n:Nt) (s:Stt) (p:Nat) (x:Eg):Bool:=decide (some x.fr=s.locs[p]?) && (decide (x.cd.k=0) ||
 (decide ((evX 100 7 (gval ((n.vars.map Vr.nm).zip s.vars)) x.cd).2=0) && !decide ((evX 100 7 (gval ((n.vars.map Vr.nm).zip s.vars)) x.cd).1=0)))
def opL (n:Nt) (s:Stt) (p:Nat) (egs:List Eg) (m:Nat):List Nat:=(List.range m).filter fun e=>match egs[e]? with
 | some x=>opE n s p x
 | none=>false
theorem opL_succ {n:Nt} {s:Stt} {p:Nat} {egs:List Eg} {m:Nat} {x:Eg} (h:egs[m]?=some x):opL n s p egs (m+1)=if opE n s p x=true then opL n s p egs m++[m] else opL n s p egs m:=by
 unfold opL
 rw [List.range_succ,List.filter_append]
 simp only [List.filter_cons,List.filter_nil,h]
 split<;>simp
theorem opL_len {n:Nt} {s:Stt} {p:Nat} {egs:List Eg} {m:Nat}:(opL n s p egs m).length<=m:=by
 unfold opL
 have:=List.length_filter_le (fun e=>match egs[e]? with
  | some x=>opE n s p x
  | none=>false) (List.range m)
 simpa using this
theorem kindC {w:WD} {σ:AStore} {n:Nt} {s:Stt} {SV SC SF SP A0 u:AVal} {bw p:Nat} (h:IsNt n (.agg [(.sc (.int .i64 (n.clocks))),SV,SC,SF,SP])) (hu:IsStt s u) (hck:checkB n s=true) (hp:p < n.procs.length) (hw0:σ.get bw=some (.cells 6 [.agg [(.sc (.int .i64 (n.clocks))),SV,SC,SF,SP,A0]])):
  ACalls (EE w) 113 [.ptr bw 0 0,u,(.sc (.int .i64 (p)))] σ fun en σ'=>en=.ret (.sc (.int .i64 (kindB n s p)))/\KeepS σ σ':=by
 obtain ⟨SV',SC',SF',SP',fels,he,icl,⟨hV,lv,hvo⟩,⟨hC,lc,hco⟩,hF,hFs,lf,hP⟩:=h
 simp only [AVal.agg.injEq,List.cons.injEq,and_true,true_and] at he
 obtain ⟨rfl,rfl,rfl,rfl⟩:=he
 obtain ⟨L,U,rfl,⟨hL,lL,iL0⟩,⟨hU,lU,iU0⟩⟩:=hu
 obtain ⟨pels,hP1,hPl,hPat⟩:=hP.at'
 have kV:=hV.fit
 have cV:=hV.cells
 have iV:=hV.isCell
 have kC:=hC.fit
 have cC:=hC.cells
 have iC:=hC.isCell
 have kF:=hF.fit
 have cF:=hF.cells
 have iF:=hF.isCell
 have kP:=hP1.fit
 have cP:=hP1.cells
 have iP:=hP1.isCell
 have kL:=hL.fit
 have cL:=hL.cells
 have iL:=hL.isCell
 have kU:=hU.fit
 have cU:=hU.cells
 have iU:=hU.isCell
 obtain ⟨x,hx⟩:∃ x,n.procs[p]?=some x:=⟨n.procs[p],List.getElem?_eq_getElem hp⟩
 obtain ⟨e,hee,hpv⟩:=hPat p x hx
 obtain ⟨m,hm,y,hy,-⟩:=check_loc hck hx
 obtain ⟨SL,SE,rfl,hSL,hSE,ini⟩:=hpv
 obtain ⟨lels,hL1,hLl,hLat⟩:=hSL.at'
 obtain ⟨eels,hE1,hEl,hEat⟩:=hSE.at'
 have kSL:=hL1.fit
 have cSL:=hL1.cells
 have iSL:=hL1.isCell
 have kSE:=hE1.fit
 have cSE:=hE1.cells
 have iSE:=hE1.isCell
 obtain ⟨ey,hey,G,rfl,hG,iy1,iy2⟩:=hLat m y hy
 have kG:=hG.1.fit
 have cG:=hG.1.cells
 have iG:=hG.1.isCell
 have hm':(s.locs.map iA)[p]?=some (iA (m:Int)):=by rw [List.getElem?_map,hm]; rfl
 have hk:kindB n s p=y.kind:=by
  unfold kindB
  rw [hm,hx]
  simp [hy]
 rw [hk]
 have gw:(σ.alloc (.cells 2 [.agg [L,U]])).get bw=some (.cells 6 [.agg [(.sc (.int .i64 (n.clocks))),SV,SC,SF,SP,A0]]):=get_alloc_old hw0
 have g2:(σ.alloc (.cells 2 [.agg [L,U]])).get σ.next=some (.cells 2 [.agg [L,U]]):=by rw [AStore.get_alloc,if_pos rfl]
 have k0:KeepS σ (σ.alloc (.cells 2 [.agg [L,U]])):=KeepS.alloc σ _
 obtain ⟨τ,ht⟩:∃ t,t=σ.alloc (.cells 2 [.agg [L,U]]):=⟨_,rfl⟩
 rw [<-ht] at gw g2 k0
 refine of_113 rfl rfl rfl (by kernel_rfl) ?_
 simp -implicitDefEqProofs only [go_sem,kL,cL,iL,kU,cU,iU,<-ht]
 ((try (refine Z_seq ?_; (try simp -implicitDefEqProofs only [go_sem]))); refine Z_draw (by kernel_rfl) [0,1,2,3,4,5,6,7,8,9,10,11,12,13,14,15,16,17] [(17,131071),(16,65535),(15,32767),(14,16383),(13,7680),(12,3584),(11,0),(10,512),(9,0),(8,255),(7,127),(6,63),(5,0),(4,15),(3,7),(2,3),(1,1),(0,0)] (by kernel_rfl) (by kernel_rfl) ?_)
 simp -implicitDefEqProofs only [go_sem,gw,g2,kV,cV,iV,kC,cC,iC,kF,cF,iF,kP,cP,iP,kL,cL,iL,kU,cU,iU,hP1.idx hee,kSL,cSL,iSL,kSE,cSE,iSE,hL.idx hm',iA,hL1.idx hey,kG,cG,iG]
 exact k0
theorem NtS.fnil {n:Nt} (hs:NtS n):n.funcs=[]:=by
 have:=hs.fs
 cases h:n.funcs with
 | nil=>rfl
 | cons a l=>rw [h] at this; simp at this
theorem check_lens {n:Nt} {s:Stt} (hc:checkB n s=true):s.locs.length=n.procs.length/\s.vars.length=n.vars.length:=by
 simp only [checkB,Bool.and_eq_true,decide_eq_true_eq] at hc
 exact ⟨hc.1.1.1.2,hc.1.1.2⟩
theorem check_valid {n:Nt} {s:Stt} (hc:checkB n s=true):validB n=true:=by
 simp only [checkB,Bool.and_eq_true] at hc
 exact hc.1.1.1.1
theorem cond_ok {n:Nt} (hv:validB n=true) (hs:NtS n) {p:Pr} (hp:p∈n.procs) {x:Eg} (hx:x∈p.egs) (hk:x.cd.k≠0):expP nameB x.cd (n.vars.map Vr.nm) []=0:=by
 simp only [validB,Bool.and_eq_true,List.all_eq_true] at hv
 have h1:=hv.2 p hp
 simp only [prB,Bool.and_eq_true,List.all_eq_true] at h1
 have h2:=h1.2 x hx
 simp only [egB,Bool.and_eq_true,Bool.or_eq_true,decide_eq_true_eq] at h2
 rw [hs.fnil] at h2
 rcases h2.1.1.2 with h|h
 ·simp only [noE,Bool.and_eq_true,decide_eq_true_eq] at h
  exact absurd h.1.1.1 hk
 ·exact h
def glS (n:Nt) (s:Stt):List (ByteArray×Int):=(n.vars.map Vr.nm).zip s.vars
theorem glS_1 {n:Nt} {s:Stt} (hc:checkB n s=true):(glS n s).map (·.1)=n.vars.map Vr.nm:=List.map_fst_zip (by rw [List.length_map,(check_lens hc).2]; exact Nat.le_refl _)
theorem glS_2 {n:Nt} {s:Stt} (hc:checkB n s=true):(glS n s).map (·.2)=s.vars:=List.map_snd_zip (by rw [List.length_map,(check_lens hc).2]; exact Nat.le_refl _)
theorem glS_len {n:Nt} {s:Stt}:(glS n s).length<=n.vars.length:=by
 unfold glS
 rw [List.length_zip,List.length_map]
 omega
theorem glS_nodup {n:Nt} {s:Stt} (hc:checkB n s=true):((glS n s).map (·.1)).Nodup:=by
 rw [glS_1 hc]
 have hv:=check_valid hc
 simp only [validB,hd2B,Bool.and_eq_true,decide_eq_true_eq] at hv
 have h1:=hv.1.2.1.1.1.1.1
 unfold nmsB at h1
 rw [List.append_assoc] at h1
 exact (List.nodup_append.1 h1).1
theorem glS_in {n:Nt} {s:Stt} (hc:checkB n s=true):∀ p∈glS n s,-2147483648<=p.2/\p.2<=2147483648:=by
 intro p hp
 have h2:p.2∈s.vars:=by rw [<-glS_2 hc]; exact List.mem_map_of_mem hp
 obtain ⟨i,hi,he⟩:=List.mem_iff_getElem.1 h2
 have hv:=check_valid hc
 have hl:=check_lens hc
 simp only [checkB,Bool.and_eq_true,List.all_eq_true,List.mem_range] at hc
 have h3:=hc.2 i hi
 have hi2:i < n.vars.length:=by omega
 simp only [ckV,List.getElem?_eq_getElem hi,List.getElem?_eq_getElem hi2,Bool.and_eq_true,decide_eq_true_eq] at h3
 simp only [validB,hd2B,Bool.and_eq_true,List.all_eq_true] at hv
 have h4:=hv.1.2.1.1.1.2 _ (List.getElem_mem hi2)
 simp only [vlB,Bool.and_eq_true,decide_eq_true_eq] at h4
 rw [he] at h3
 omega
def cdP (n:Nt) (s:Stt) (x:Ex):Int×Int:=evX 100 7 (gval (glS n s)) x
theorem opE_eq {n:Nt} {s:Stt} {p:Nat} {x:Eg}:opE n s p x=(decide (some x.fr=s.locs[p]?) && (decide (x.cd.k=0) || (decide ((cdP n s x.cd).2=0) && !decide ((cdP n s x.cd).1=0)))):=rfl
theorem condC {w:WD} {σ:AStore} {n:Nt} {s:Stt} {X A U SF:AVal} {fels:List AVal} {p:Pr} {x:Eg} (hck:checkB n s=true) (hs:NtS n) (hp:p∈n.procs) (hx:x∈p.egs) (hk:x.cd.k≠0) (hX:IsEx x.cd X)
  (hA:HasO σ A (n.vars.map Vr.nm)) (hU:IsD 1 U (s.vars.map iA)) (hF:IsD 3 SF fels) (hl:IsFcs n.funcs fels):
  ACalls (EE w) 139 [X,A,U,SF] σ fun e σ'=>σ'=σ/\e=.ret (.tuple [(.sc (.int .i64 (if (cdP n s x.cd).2=0 then (cdP n s x.cd).1 else 0))),(.sc (.int .i64 ((cdP n s x.cd).2)))]):=by
 have hv:=check_valid hck
 have hz:=cond_ok hv hs hp hx hk
 obtain ⟨o1,o2,_⟩:=okX_expP hz
 have hfn:=hs.fnil
 have hl0:=hl
 rw [hfn] at hl
 have hfe:fels=[]:=by
  have:=hl.1
  cases fels with
  | nil=>rfl
  | cons a l=>simp at this
 have hvl:=(valid_procs hv).2.1
 have hgl:=glS_len (n:=n) (s:=s)
 have vt:∀ i j:Int,∃ N,frz empty N (.tuple [(.sc (.int .i64 (i))),(.sc (.int .i64 (j)))])=some (.tuple [(.sc (.int .i64 (i))),(.sc (.int .i64 (j)))])/\(∀ τ,frz τ N (.tuple [(.sc (.int .i64 (i))),(.sc (.int .i64 (j)))])=some (.tuple [(.sc (.int .i64 (i))),(.sc (.int .i64 (j)))])/\ownV τ N (.tuple [(.sc (.int .i64 (i))),(.sc (.int .i64 (j)))])=true):=fun i j=>⟨2,rfl,fun _=>⟨rfl,rfl⟩⟩
 have dU:Dats (s.vars.map iA):=Dats.of fun e he=>by obtain ⟨i,_,rfl⟩:=List.mem_map.1 he; exact .sc _
 refine lentM (pre:=[X]) (post:=[U,SF]) gWF (vt _ _) hA (.cons _ _ hX.dat .nil) (.cons _ _ (hU.dat dU) (.cons _ _ (hF.dat hl0.dat) .nil)) (fun M' hM'=>?_)
 have e1:((glS n s).map fun p=>sA p.1)=(n.vars.map Vr.nm).map sA:=by rw [<-glS_1 hck,List.map_map]; rfl
 have e2:((glS n s).map fun p=>((.sc (.int .i64 (p.2))):AVal))=s.vars.map iA:=by rw [<-glS_2 hck,List.map_map]; rfl
 refine valueC (gl:=glS n s) hX o1 (by omega) (by rw [e1]; exact hM') (by rw [e2]; exact hU) (glS_nodup hck) (glS_in hck) (by omega) (by rw [<-hfe]; exact hF) (fun w=>?_)
 have:=tExpTC (w:=w) hX (by omega) hF hl (by rw [hfe]; simp) (by simp) hM' (by simp; omega)
 rw [hz] at this
 exact this
def iN (i:Nat):AVal:=(.sc (.int .i64 (i)))
theorem Gw.addN {m:Nat} {σ:AStore} {sz:Nat} {v:AVal} {els:List AVal} (h:Gw m σ sz v els) (bytes:Nat) (x:AVal) (hm:m<=σ.next) (hb:(els.length+1)*bytes<=140737488355328) (h1:sz≠0) (h2:bytes≠0) (hc:allCells [x]=true):
  ∃ σ',aAppend sz bytes v [x] σ=some (.slice σ.next 0 (els.length+1),σ')/\Gw m σ' sz (.slice σ.next 0 (els.length+1)) (els++[x])/\σ'.next=σ.next+1/\(∀ b z,(∀ l,v≠.slice b 0 l)->σ.get b=some z->σ'.get b=some z):=by
 rcases h with ⟨rfl,rfl⟩|⟨b,hmb,rfl,hg⟩
 ·refine ⟨σ.alloc (.cells sz [x]),?_,.inr ⟨σ.next,vom,rfl,?_⟩,rfl,?_⟩
  ·exact app_nil (by simp) (by simpa using hb) h1 h2
  ·rw [AStore.get_alloc,if_pos rfl]; rfl
  ·intro b z _ hz; exact get_alloc_old hz
 ·have kp:∀ b' z,σ.get b'=some z->b'≠b->((σ.del b).alloc (.cells sz (els++[x]))).get b'=some z:=by
   intro b' z hz hne
   refine get_alloc_old ?_
   rw [AStore.get_del,if_neg (fun hc=>hne hc)]
   exact hz
  refine ⟨(σ.del b).alloc (.cells sz (els++[x])),?_,.inr ⟨σ.next,vom,by simp,?_⟩,rfl,?_⟩
  ·rw [app_full hg (by simp) hb h1 h2 hc]; rfl
  ·have:(σ.del b).next=σ.next:=rfl
   rw [AStore.get_alloc,this,if_pos rfl]
  ·intro b' z hb' hz; exact kp b' z hz (fun e=>hb' els.length (by rw [e]))
theorem ixSl_ow {b i l:Nat} {els:List AVal} (h:i < l):ixSl b 0 1 (.sc (.int .i64 (((i:Nat):Int)))) l (some (.cells 1 els))=some (.ptr b i 0):=by
 rw [ixSl_cells,if_pos rfl]
 simp only [aIdx]
 rw [if_pos (by omega)]
 simp
/-- A table of rows of numbers in local memory: the rows lie behind it, each in its own block. -/
def Rws (m:Nat) (σ:AStore) (bo k:Nat) (f:Nat->List Nat) (rows:List AVal):Prop:=m<=bo/\σ.get bo=some (.cells 1 rows)/\rows.length=k/\(∀ p,p < k->∃ v:AVal,rows[p]?=some v/\Gw (bo+1) σ 1 v ((f p).map iN))/\
 ∀ (p q c l l':Nat),rows[p]?=some (AVal.slice c 0 l)->rows[q]?=some (AVal.slice c 0 l')->p=q
section
variable {m:Nat} {σ τ:AStore} {bo k:Nat} {f g:Nat->List Nat} {rows:List AVal}
theorem Rws.keep (h:Rws m σ bo k f rows) (hk:∀ b x,bo<=b->σ.get b=some x->τ.get b=some x):Rws m τ bo k f rows:=by
 obtain ⟨h0,h1,h2,h3,h4⟩:=h
 refine ⟨h0,hk _ _ (Nat.le_refl _) h1,h2,fun p hp=>?_,h4⟩
 obtain ⟨v,h4,h5⟩:=h3 p hp
 exact ⟨v,h4,h5.keep fun b x hb hg=>hk b x (by omega) hg⟩
theorem Rws.low {m':Nat} (h:Rws m σ bo k f rows) (hm:m'<=m):Rws m' σ bo k f rows:=⟨by have:=h.1; omega,h.2⟩
theorem Rws.ext (h:Rws m σ bo k f rows) (hg:∀ p,p < k->f p=g p):Rws m σ bo k g rows:=by
 obtain ⟨h0,h1,h2,h3,h4⟩:=h
 refine ⟨h0,h1,h2,fun p hp=>?_,h4⟩
 rw [<-hg p hp]
 exact h3 p hp
/-- A row is exchanged. -/
theorem Rws.put {p c l0:Nat} {v:AVal} {l:List Nat} (h:Rws m σ bo k f rows) (hp:p < k) (hv:rows[p]?=some v) (hk:∀ b x,bo<=b->(∀ l,v≠.slice b 0 l)->σ.get b=some x->τ.get b=some x) (hc:σ.next<=c) (hn:Gw (bo+1) τ 1 (.slice c 0 l0) (l.map iN)):
  Rws m (τ.set bo (.cells 1 (rows.set p (.slice c 0 l0)))) bo k (fun q=>if q=p then l else f q) (rows.set p (.slice c 0 l0)):=by
 obtain ⟨h0,hr,h2,h3,h4⟩:=h
 have hvb:∀ l,v≠.slice bo 0 l:=by
  rintro l rfl
  obtain ⟨v',e1,e2⟩:=h3 p hp
  rw [hv] at e1
  cases e1
  rcases e2 with ⟨_,e⟩|⟨b,e3,e4,_⟩
  ·cases e
  ·injection e4 with e4; omega
 have hl:=AStore.lt_of_get (hk _ _ (Nat.le_refl _) hvb hr)
 have hs:∀ b x,bo+1<=b->τ.get b=some x->(τ.set bo (.cells 1 (rows.set p (.slice c 0 l0)))).get b=some x:=fun b x hb hg=>by rw [AStore.get_set,if_neg (by omega)]; exact hg
 have hlt:∀ (q c' l':Nat),rows[q]?=some (.slice c' 0 l')->c' < σ.next:=fun q c' l' hq=>by
  obtain ⟨v',e1,e2⟩:=h3 q (by have:=(List.getElem?_eq_some_iff.1 hq).1; omega)
  rw [hq] at e1
  cases e1
  rcases e2 with ⟨_,e⟩|⟨b,e3,e4,e5⟩
  ·cases e
  ·injection e4 with e4
   subst e4
   exact AStore.lt_of_get e5
 refine ⟨h0,by rw [AStore.get_set,if_pos ⟨rfl,hl⟩],by rw [List.length_set,h2],fun q hq=>?_,fun q r c' l1 l2 h5 h6=>?_⟩
 ·by_cases e:q=p
  ·subst e
   dsimp only
   rw [if_pos rfl]
   exact ⟨_,by rw [List.getElem?_set_self (by omega)],hn.keep hs⟩
  ·dsimp only
   rw [if_neg e]
   obtain ⟨v',h5,h6⟩:=h3 q hq
   refine ⟨v',by rw [List.getElem?_set_ne (by omega)]; exact h5,?_⟩
   rcases h6 with h6|⟨b,e3,rfl,e5⟩
   ·exact .inl h6
   ·refine .inr ⟨b,e3,rfl,hs _ _ (by omega) (hk _ _ (by omega) ?_ e5)⟩
    rintro l' rfl
    exact e (h4 _ _ _ _ _ h5 hv)
 ·by_cases e1:q=p
  ·by_cases e2:r=p
   ·omega
   ·subst e1
    rw [List.getElem?_set_self (by omega)] at h5
    rw [List.getElem?_set_ne (by omega)] at h6
    cases h5
    have:=hlt _ _ _ h6
    omega
  ·by_cases e2:r=p
   ·subst e2
    rw [List.getElem?_set_self (by omega)] at h6
    rw [List.getElem?_set_ne (by omega)] at h5
    cases h6
    have:=hlt _ _ _ h5
    omega
   ·rw [List.getElem?_set_ne (by omega)] at h5 h6
    exact h4 _ _ _ _ _ h5 h6
end
def opT (n:Nt) (s:Stt) (p:Nat):List Nat:=match n.procs[p]? with
 | some x=>opL n s p x.egs x.egs.length
 | none=>[]
theorem IsEx.four {x:Ex} {a b c d:AVal} (h:IsEx x (.agg [a,b,c,d])):∃ nm i els,a=(.sc (.int .i64 (x.k)))/\b=sA nm/\c=(.sc (.int .i64 (i)))/\IsD 4 d els:=by
 obtain ⟨k,nm,i,zs⟩:=x
 simp only [IsEx] at h
 obtain ⟨S,els,he,hS,_⟩:=h
 simp only [AVal.agg.injEq,List.cons.injEq,and_true] at he
 obtain ⟨rfl,rfl,rfl,rfl⟩:=he
 exact ⟨nm,i,els,rfl,rfl,rfl,hS⟩
theorem openC {w : WD} {σ : AStore} {n : Nt} {s : Stt} {SV SC SF SP A u : AVal} {bw : Nat} (h : IsNt n (.agg [(.sc (.int .i64 (n.clocks))), SV, SC, SF, SP])) (hs : NtS n) (hu : IsStt s u) (hck : checkB n s = true) (hw0 : σ.get bw = some (.cells 6 [.agg [(.sc (.int .i64 (n.clocks))), SV, SC, SF, SP, A]])) (hA : HasO σ A (n.vars.map Vr.nm)) :
    ACalls (EE w) 114 [.ptr bw 0 0,u] σ fun en σ'=>∃ bo,en=.ret (.slice bo 0 n.procs.length)/\(∃ rows,Rws σ.next σ' bo n.procs.length (opT n s) rows)/\KeepS σ σ':=by
  obtain ⟨SV',SC',SF',SP',fels,he,icl,⟨hV,lv,hvo⟩,⟨hC,lc,hco⟩,hF,hFs,lf,hP⟩:=h
  simp only [AVal.agg.injEq,List.cons.injEq,and_true,true_and] at he
  obtain ⟨rfl,rfl,rfl,rfl⟩:=he
  obtain ⟨L,U,rfl,⟨hL,lL,iL0⟩,⟨hU,lU,iU0⟩⟩:=hu
  obtain ⟨pels,hP1,hPl,hPat⟩:=hP.at'
  have hPn:∀ σ:AStore,aLen (.slice 0) SP σ=some (.sc (.int .i64 (n.procs.length))):=fun σ=>hP1.lenN hPl
  have kV:=hV.fit
  have cV:=hV.cells
  have iV:=hV.isCell
  have kC:=hC.fit
  have cC:=hC.cells
  have iC:=hC.isCell
  have kF:=hF.fit
  have cF:=hF.cells
  have iF:=hF.isCell
  have kP:=hP1.fit
  have cP:=hP1.cells
  have iP:=hP1.isCell
  have kL:=hL.fit
  have cL:=hL.cells
  have iL:=hL.isCell
  have kU:=hU.fit
  have cU:=hU.cells
  have iU:=hU.isCell
  have hv:=check_valid hck
  have hp6:=(valid_procs hv).1
  have lw:=AStore.lt_of_get hw0
  refine of_114 rfl rfl rfl (by kernel_rfl) ?_
  have gw:(σ.alloc (.cells 2 [.agg [L,U]])).get bw=some (.cells 6 [.agg [(.sc (.int .i64 (n.clocks))),SV,SC,SF,SP,A]]):=get_alloc_old hw0
  simp -implicitDefEqProofs only [go_sem,gw,kV,cV,iV,kC,cC,iC,kF,cF,iF,kP,cP,iP,kL,cL,iL,kU,cU,iU,hPn]
  rw [if_pos ⟨by omega,by omega,by omega⟩]
  have n1:¬ bw=σ.next+1:=by omega
  have n2:¬ bw=σ.next:=by omega
  simp -implicitDefEqProofs only [go_sem,hw0,n1,n2,kV,cV,iV,kC,cC,iC,kF,cF,iF,kP,cP,iP,hPn]
  obtain ⟨bo,hbo⟩:∃ b,b=σ.next+1:=⟨_,rfl⟩
  have g0:((σ.alloc (.cells 2 [.agg [L,U]])).alloc (.cells 1 (List.replicate n.procs.length (.sc (.slice none 0 0))))).get bo=some (.cells 1 (List.replicate n.procs.length (.sc (.slice none 0 0)))):=by rw [AStore.get_alloc]; exact if_pos hbo
  have g2:((σ.alloc (.cells 2 [.agg [L,U]])).alloc (.cells 1 (List.replicate n.procs.length (.sc (.slice none 0 0))))).get σ.next=some (.cells 2 [.agg [L,U]]):=get_alloc_old (by rw [AStore.get_alloc,if_pos rfl])
  have k0:KeepS σ ((σ.alloc (.cells 2 [.agg [L,U]])).alloc (.cells 1 (List.replicate n.procs.length (.sc (.slice none 0 0))))):=(KeepS.alloc _ _).trans (KeepS.alloc _ _)
  have hR0:Rws σ.next ((σ.alloc (.cells 2 [.agg [L,U]])).alloc (.cells 1 (List.replicate n.procs.length (.sc (.slice none 0 0))))) bo n.procs.length (fun p=>if p < 0 then opT n s p else []) (List.replicate n.procs.length (.sc (.slice none 0 0))):=⟨by omega,g0,by simp,fun p hp=>⟨(.sc (.slice none 0 0)),by rw [List.getElem?_replicate,if_pos hp],Gw.nil⟩,fun p q c l l' h1 _=>by rw [List.getElem?_replicate] at h1; split at h1<;>cases h1⟩
  have gw2:((σ.alloc (.cells 2 [.agg [L,U]])).alloc (.cells 1 (List.replicate n.procs.length (.sc (.slice none 0 0))))).get bw=some (.cells 6 [.agg [(.sc (.int .i64 (n.clocks))),SV,SC,SF,SP,A]]):=get_alloc_old gw
  clear g0 gw
  rw [<-hbo]
  generalize (σ.alloc (.cells 2 [.agg [L,U]])).alloc (.cells 1 (List.replicate n.procs.length (.sc (.slice none 0 0))))=τ at g2 k0 hR0 gw2 ⊢
  (repeat' first|refine vw ?_ ?_<;>intro hq|refine vz ?_|simp -implicitDefEqProofs only [go_sem,gw2,kV,cV,iV,kC,cC,iC,kF,cF,iF,kP,cP,iP,hPn])
  clear gw2
  refine vlp (ι:=Nat) (fun j=>[(0,.ptr bw 0 0),(3,.ptr σ.next 0 0),(5,.slice bo 0 n.procs.length),(23,SP),(24,(.sc (.int .i64 (n.procs.length)))),(25,(.sc (.int .i64 (j))))]) (fun j τ=>j<=n.procs.length/\KeepS σ τ/\τ.get σ.next=some (.cells 2 [.agg [L,U]])/\∃ rows,Rws σ.next τ bo n.procs.length (fun p=>if p < j then opT n s p else []) rows) (fun j=>n.procs.length - j) (fun _=>rfl) 0 ?_ ?_ ?_
  · exact vsu
  · exact ⟨Nat.zero_le _,k0,g2,_,hR0⟩
  clear g2 k0 hR0
  rintro j τ ⟨hj,ks,g2,rows,hR⟩
  simp -implicitDefEqProofs only [go_sem]
  (refine vif ?_ ?_<;>intro hlt)
  · obtain ⟨p,hp⟩:∃ p,n.procs[j]?=some p:=⟨n.procs[j]'(by omega),by simp⟩
    obtain ⟨e,he,hpv⟩:=hPat j p hp
    obtain ⟨m,hm,y,hy,-⟩:=check_loc hck hp
    obtain ⟨SL,SE,rfl,hSL,hSE,ini⟩:=hpv
    obtain ⟨lels,hL1,_,_⟩:=hSL.at'
    obtain ⟨eels,hE1,hEl,hEat⟩:=hSE.at'
    have kSL:=hL1.fit
    have cSL:=hL1.cells
    have iSL:=hL1.isCell
    have kSE:=hE1.fit
    have cSE:=hE1.cells
    have iSE:=hE1.isCell
    have hEn:∀ σ:AStore,aLen (.slice 0) SE σ=some (.sc (.int .i64 (p.egs.length))):=fun σ=>hE1.lenN hEl
    have hw:=wrapS (i:=j) (by omega)
    have hm':(s.locs.map iA)[j]?=some (iA (m:Int)):=by rw [List.getElem?_map,hm]; rfl
    (repeat' first|refine vw ?_ ?_<;>intro hq|refine vz ?_|simp -implicitDefEqProofs only [go_sem,hP1.idx he,kSL,cSL,iSL,kSE,cSE,iSE,hEn])
    have kk:=(KeepS.alloc τ (.cells 3 [.agg [(.sc (.int .i64 (0))),(.sc (.slice none 0 0)),(.sc (.slice none 0 0))]])).set (Nat.le_refl _) (.cells 3 [.agg [(.sc (.int .i64 (p.ini))),SL,SE]])
    have q2:=kk.2 _ _ g2
    have hR1:=hR.keep (τ:=(τ.alloc (.cells 3 [.agg [(.sc (.int .i64 (0))),(.sc (.slice none 0 0)),(.sc (.slice none 0 0))]])).set τ.next (.cells 3 [.agg [(.sc (.int .i64 (p.ini))),SL,SE]])) fun b x _ hg=>kk.2 _ _ hg
    have ks1:=ks.trans kk
    generalize (τ.alloc (.cells 3 [.agg [(.sc (.int .i64 (0))),(.sc (.slice none 0 0)),(.sc (.slice none 0 0))]])).set τ.next (.cells 3 [.agg [(.sc (.int .i64 (p.ini))),SL,SE]])=τ1 at q2 hR1 ks1 ⊢
    clear kk g2 ks
    have hegs:p.egs.length<=1000000:=(hs.ll p (List.mem_of_getElem? hp)).2
    refine vlp (ι:=Nat) (fun i=>[(0,.ptr bw 0 0),(3,.ptr σ.next 0 0),(5,.slice bo 0 n.procs.length),(6,(.sc (.int .i64 (j)))),(23,SP),(24,(.sc (.int .i64 (n.procs.length)))),(25,(.sc (.int .i64 (j)))),(31,SE),(32,(.sc (.int .i64 (p.egs.length)))),(33,(.sc (.int .i64 (i))))]) (fun i τ=>i<=p.egs.length/\KeepS σ τ/\τ.get σ.next=some (.cells 2 [.agg [L,U]])/\∃ rows,Rws σ.next τ bo n.procs.length (fun q=>if q < j then opT n s q else if q=j then opL n s j p.egs i else []) rows) (fun i=>p.egs.length - i) (fun _=>rfl) 0 ?_ ?_ ?_
    · exact vsu
    · refine ⟨Nat.zero_le _,ks1,q2,_,hR1.ext fun q _=>?_⟩
      have:opL n s j p.egs 0=[]:=rfl
      rw [this,ite_self]
    clear q2 hR1 ks1 hR rows
    rintro i ρ ⟨hi,ks,g2,rows,hR⟩
    have gw:=ks.2 _ _ hw0
    have hA1:HasO ρ A (n.vars.map Vr.nm):=by
      rcases hA with hA|⟨b,h1,h2⟩
      · exact .inl hA
      · exact .inr ⟨b,h1,ks.2 _ _ h2⟩
    simp -implicitDefEqProofs only [go_sem]
    (refine vif ?_ ?_<;>intro hle)
    · obtain ⟨x,hx⟩:∃ x,p.egs[i]?=some x:=⟨p.egs[i]'(by omega),by simp⟩
      obtain ⟨ev,hev,hpx⟩:=hEat i x hx
      obtain ⟨G,a,b,c,d,SS,SR,rfl,hG,hX,hSS,hSR,i1,i2,i3,i4,i5⟩:=hpx
      have hwi:=wrapS (i:=i) (by omega)
      obtain ⟨sels,hS1,_,_⟩:=hSS.at'
      have kG:=hG.1.fit
      have cG:=hG.1.cells
      have iG:=hG.1.isCell
      have kS:=hS1.fit
      have cS:=hS1.cells
      have iS:=hS1.isCell
      have kRs:=hSR.1.fit
      have cRs:=hSR.1.cells
      have iRs:=hSR.1.isCell
      obtain ⟨xnm,xi,xels,rfl,rfl,rfl,hD⟩:=hX.four
      have kD:=hD.fit
      have cD:=hD.cells
      have iD:=hD.isCell
      have hxm:=List.mem_of_getElem? hx
      have hpm:=List.mem_of_getElem? hp
      (repeat' first|refine vw ?_ ?_<;>intro hq|refine vz ?_|simp -implicitDefEqProofs only [go_sem,hE1.idx hev,kG,cG,iG,kS,cS,iS,kRs,cRs,iRs,kD,cD,iD,sA])
      have kk:=(KeepS.alloc ρ (.cells 13 [.agg [(.sc (.int .i64 (0))),(.sc (.int .i64 (0))),(.sc (.slice none 0 0)),(.sc (.int .i64 (0))),.sc (.string ⟨#[]⟩),(.sc (.int .i64 (0))),(.sc (.slice none 0 0)),(.sc (.int .i64 (0))),(.sc (.bool (false))),(.sc (.slice none 0 0)),(.sc (.slice none 0 0)),(.sc (.int .i64 (0))),(.sc (.int .i64 (0)))]])).set (Nat.le_refl _) (.cells 13 [.agg [(.sc (.int .i64 (x.fr))),(.sc (.int .i64 (x.to))),G,(.sc (.int .i64 (x.cd.k))),.sc (.string xnm),(.sc (.int .i64 (xi))),d,(.sc (.int .i64 (x.ch))),(.sc (.bool (x.snd))),SS,SR,(.sc (.int .i64 (x.cost))),(.sc (.int .i64 (x.kind)))]])
      have g9:((ρ.alloc (.cells 13 [.agg [(.sc (.int .i64 (0))),(.sc (.int .i64 (0))),(.sc (.slice none 0 0)),(.sc (.int .i64 (0))),.sc (.string ⟨#[]⟩),(.sc (.int .i64 (0))),(.sc (.slice none 0 0)),(.sc (.int .i64 (0))),(.sc (.bool (false))),(.sc (.slice none 0 0)),(.sc (.slice none 0 0)),(.sc (.int .i64 (0))),(.sc (.int .i64 (0)))]])).set ρ.next (.cells 13 [.agg [(.sc (.int .i64 (x.fr))),(.sc (.int .i64 (x.to))),G,(.sc (.int .i64 (x.cd.k))),.sc (.string xnm),(.sc (.int .i64 (xi))),d,(.sc (.int .i64 (x.ch))),(.sc (.bool (x.snd))),SS,SR,(.sc (.int .i64 (x.cost))),(.sc (.int .i64 (x.kind)))]])).get ρ.next=some (.cells 13 [.agg [(.sc (.int .i64 (x.fr))),(.sc (.int .i64 (x.to))),G,(.sc (.int .i64 (x.cd.k))),.sc (.string xnm),(.sc (.int .i64 (xi))),d,(.sc (.int .i64 (x.ch))),(.sc (.bool (x.snd))),SS,SR,(.sc (.int .i64 (x.cost))),(.sc (.int .i64 (x.kind)))]]):=gss (by rw [alloc_next]; omega)
      have hnx:((ρ.alloc (.cells 13 [.agg [(.sc (.int .i64 (0))),(.sc (.int .i64 (0))),(.sc (.slice none 0 0)),(.sc (.int .i64 (0))),.sc (.string ⟨#[]⟩),(.sc (.int .i64 (0))),(.sc (.slice none 0 0)),(.sc (.int .i64 (0))),(.sc (.bool (false))),(.sc (.slice none 0 0)),(.sc (.slice none 0 0)),(.sc (.int .i64 (0))),(.sc (.int .i64 (0)))]])).set ρ.next (.cells 13 [.agg [(.sc (.int .i64 (x.fr))),(.sc (.int .i64 (x.to))),G,(.sc (.int .i64 (x.cd.k))),.sc (.string xnm),(.sc (.int .i64 (xi))),d,(.sc (.int .i64 (x.ch))),(.sc (.bool (x.snd))),SS,SR,(.sc (.int .i64 (x.cost))),(.sc (.int .i64 (x.kind)))]])).next=ρ.next+1:=rfl
      generalize (ρ.alloc (.cells 13 [.agg [(.sc (.int .i64 (0))),(.sc (.int .i64 (0))),(.sc (.slice none 0 0)),(.sc (.int .i64 (0))),.sc (.string ⟨#[]⟩),(.sc (.int .i64 (0))),(.sc (.slice none 0 0)),(.sc (.int .i64 (0))),(.sc (.bool (false))),(.sc (.slice none 0 0)),(.sc (.slice none 0 0)),(.sc (.int .i64 (0))),(.sc (.int .i64 (0)))]])).set ρ.next (.cells 13 [.agg [(.sc (.int .i64 (x.fr))),(.sc (.int .i64 (x.to))),G,(.sc (.int .i64 (x.cd.k))),.sc (.string xnm),(.sc (.int .i64 (xi))),d,(.sc (.int .i64 (x.ch))),(.sc (.bool (x.snd))),SS,SR,(.sc (.int .i64 (x.cost))),(.sc (.int .i64 (x.kind)))]])=τ1 at kk g9 hnx ⊢
      have q2:=kk.2 _ _ g2
      have qw:=kk.2 _ _ gw
      have hR1:=hR.keep (τ:=τ1) fun b x _ hg=>kk.2 _ _ hg
      have hA2:HasO τ1 A (n.vars.map Vr.nm):=by
        rcases hA1 with hA|⟨b,h1,h2⟩
        · exact .inl hA
        · exact .inr ⟨b,h1,kk.2 _ _ h2⟩
      have ks1:=ks.trans kk
      have hopl:=opL_succ (n:=n) (s:=s) (p:=j) hx
      have hno:opE n s j x=false->∀ q,(if q < j then opT n s q else if q=j then opL n s j p.egs i else [])=(if q < j then opT n s q else if q=j then opL n s j p.egs (i+1) else []):=fun h q=>by rw [hopl,h,if_neg Bool.false_ne_true]
      ((try (refine Z_seq ?_; (try simp -implicitDefEqProofs only [go_sem]))); refine Z_draw (by kernel_rfl) [0,1,2,3,4,5,6,7] [(7,127),(6,60),(5,28),(4,0),(3,4),(2,0),(1,1),(0,0)] (by kernel_rfl) (by kernel_rfl) ?_)
      by_cases hf:x.fr=m
      · have e1:=dct hf
        simp -implicitDefEqProofs only [go_sem,g9,q2,kG,cG,iG,kS,cS,iS,kRs,cRs,iRs,kD,cD,iD,kL,cL,iL,kU,cU,iU,hL.idx hm',iA,e1]
        have hfin : opE n s j x = true → ∃ v τ', rows[j]? = some v ∧ storeEl v 0 [AVal.slice (ρ.next + 2) 0 ((opL n s j p.egs i).length + 1)] = .slice (ρ.next + 2) 0 ((opL n s j p.egs i).length + 1) ∧ v.cells = [v] ∧ v.isCell = true ∧ v.fit = true ∧ aAppend 1 8 v [(.sc (.int .i64 (i)))] (τ1.alloc (.cells 1 [(.sc (.int .i64 (i)))])) = some (.slice (ρ.next + 2) 0 ((opL n s j p.egs i).length + 1), τ') ∧ τ'.get bo = some (.cells 1 rows) ∧ bo < τ'.next ∧
            KeepS σ (τ'.set bo (.cells 1 (rows.set j (.slice (ρ.next+2) 0 ((opL n s j p.egs i).length+1)))))/\(τ'.set bo (.cells 1 (rows.set j (.slice (ρ.next+2) 0 ((opL n s j p.egs i).length+1))))).get σ.next=some (.cells 2 [.agg [L,U]])/\
            Rws σ.next (τ'.set bo (.cells 1 (rows.set j (.slice (ρ.next+2) 0 ((opL n s j p.egs i).length+1))))) bo n.procs.length (fun q=>if q < j then opT n s q else if q=j then opL n s j p.egs (i+1) else []) (rows.set j (.slice (ρ.next+2) 0 ((opL n s j p.egs i).length+1))):=by
          intro ho
          have hR2:=hR1.keep (τ:=τ1.alloc (.cells 1 [(.sc (.int .i64 (i)))])) fun b x _ hg=>get_alloc_old hg
          obtain ⟨h0,hr,h2,h3,h4⟩:=id hR2
          obtain ⟨v,hv1,hv2⟩:=h3 j (by omega)
          dsimp only at hv2
          rw [if_neg (Nat.lt_irrefl _),if_pos rfl] at hv2
          obtain ⟨cv,iv,kv⟩:=hv2.facts
          have hbl:=AStore.lt_of_get hr
          have hol:=opL_len (n:=n) (s:=s) (p:=j) (egs:=p.egs) (m:=i)
          obtain ⟨τ',a1,a2,a3,a4⟩:=hv2.addN 8 (iN i) (by omega) (by rw [List.length_map]; omega) (by decide) (by decide) rfl
          have hnx2:(τ1.alloc (.cells 1 [(.sc (.int .i64 (i)))])).next=ρ.next+2:=by rw [alloc_next,hnx]
          rw [List.length_map,hnx2] at a1 a2
          have hvs:∀ b,b<=bo->∀ l,v≠.slice b 0 l:=by
            rintro b hb l rfl
            rcases hv2 with ⟨_,e⟩|⟨c,e3,e4,_⟩
            · cases e
            · injection e4 with e4; omega
          have hput:=hR2.put (τ:=τ') (p:=j) (c:=ρ.next+2) (l0:=(opL n s j p.egs i).length+1) (l:=opL n s j p.egs i++[i]) (by omega) hv1 (fun b x _ hb hg=>a4 b x hb hg) (by omega) (by rw [List.map_append]; exact a2)
          have hkp:∀ b z,b < bo->τ1.get b=some z->(τ'.set bo (.cells 1 (rows.set j (.slice (ρ.next+2) 0 ((opL n s j p.egs i).length+1))))).get b=some z:=fun b z hb hg=>by
            rw [AStore.get_set,if_neg (by omega)]
            exact a4 _ _ (hvs b (by omega)) (get_alloc_old hg)
          refine ⟨v,τ',hv1,by rcases hv2 with ⟨_,rfl⟩|⟨c,_,rfl,_⟩<;>rfl,cv,iv,kv,a1,a4 _ _ (hvs bo (Nat.le_refl _)) hr,?_,?_,hkp _ _ (by omega) q2,?_⟩
          · have:=AStore.lt_of_get (a4 _ _ (hvs bo (Nat.le_refl _)) hr); exact this
          · exact ⟨by rw [set_next,a3,alloc_next]; have:=ks1.1; omega,fun b z hg=>hkp b z (by have:=AStore.lt_of_get hg; omega) (ks1.2 _ _ hg)⟩
          · refine hput.ext fun q _=>?_
            rw [hopl,ho,if_pos rfl]
            by_cases e:q=j
            · subst e; rw [if_pos rfl,if_neg (Nat.lt_irrefl _),if_pos rfl]
            · rw [if_neg e,if_neg e,if_neg e]
        have hjl:j < n.procs.length:=by omega
        have hsx:(some x.fr=s.locs[j]?):=by rw [hm,hf]
        by_cases hk:x.cd.k=0
        · have e2:=dct hk
          obtain ⟨v,τ',hv1,hse,cv,iv,kv,a1,gb,lb,K1,K2,K3⟩:=hfin (by rw [opE_eq,dct hsx,e2]; rfl)
          (repeat' first|refine vw ?_ ?_<;>intro hq|refine vz ?_|simp -implicitDefEqProofs only [go_sem,g9,e2,hR1.2.1,ixSl_ow hjl,hv1,hse,cv,iv,kv,hnx,a1,gb,lb,hwi])
          refine ⟨i+1,vom,⟨vom,K1,K2,_,K3⟩,vsu⟩
        · have e2:=dcf hk
          have hne:Bool.not (decide (x.cd.k=0))=true:=by rw [e2]; rfl
          (repeat' first|refine vw ?_ ?_<;>intro hq|refine vz ?_|simp -implicitDefEqProofs only [go_sem,g9,e2])
          ((try (refine Z_seq ?_; (try simp -implicitDefEqProofs only [go_sem]))); refine Z_draw (by kernel_rfl) [0,1,2,3,4,5,6,7,8,9,10,11,12,13,14,15,16,17,18] [(18,262143),(17,65535),(16,32767),(15,32767),(14,16383),(13,8191),(12,3840),(11,1792),(10,768),(9,256),(8,0),(7,64),(6,0),(5,28),(4,12),(3,4),(2,0),(1,1),(0,0)] (by kernel_rfl) (by kernel_rfl) ?_)
          simp -implicitDefEqProofs only [go_sem,g9,q2,qw,kV,cV,iV,kC,cC,iC,kF,cF,iF,kP,cP,iP,kG,cG,iG,kS,cS,iS,kRs,cRs,iRs,kD,cD,iD,kL,cL,iL,kU,cU,iU]
          refine (condC hck hs hpm hxm hk hX hA2 hU hF hFs).use1D ?_
          by_cases h0:(cdP n s x.cd).2=0
          · by_cases h1:(cdP n s x.cd).1=0
            · rw [if_pos h0]
              (repeat' first|refine vw ?_ ?_<;>intro hq|refine vz ?_|simp -implicitDefEqProofs only [go_sem,dct h0,dct h1,hwi])
              refine ⟨i+1,vom,⟨vom,ks1,q2,_,hR1.ext fun q _=>hno ?_ q⟩,vsu⟩
              rw [opE_eq,h1,e2]; simp
            · obtain ⟨v,τ',hv1,hse,cv,iv,kv,a1,gb,lb,K1,K2,K3⟩:=hfin (by rw [opE_eq,dct hsx,dct h0,dcf h1]; simp)
              rw [if_pos h0]
              (repeat' first|refine vw ?_ ?_<;>intro hq|refine vz ?_|simp -implicitDefEqProofs only [go_sem,g9,dct h0,dcf h1,hR1.2.1,ixSl_ow hjl,hv1,hse,cv,iv,kv,hnx,a1,gb,lb,hwi])
              refine ⟨i+1,vom,⟨vom,K1,K2,_,K3⟩,vsu⟩
          · (repeat' first|refine vw ?_ ?_<;>intro hq|refine vz ?_|simp -implicitDefEqProofs only [go_sem,dcf h0,hwi])
            refine ⟨i+1,vom,⟨vom,ks1,q2,_,hR1.ext fun q _=>hno ?_ q⟩,vsu⟩
            rw [opE_eq,dcf h0,e2]; simp
      · have e1:=dcf hf
        simp -implicitDefEqProofs only [go_sem,g9,q2,kG,cG,iG,kS,cS,iS,kRs,cRs,iRs,kD,cD,iD,kL,cL,iL,kU,cU,iU,hL.idx hm',iA,e1]
        (repeat' first|refine vw ?_ ?_<;>intro hq|refine vz ?_|simp -implicitDefEqProofs only [go_sem,hwi])
        refine ⟨i+1,vom,⟨vom,ks1,q2,_,hR1.ext fun q _=>hno ?_ q⟩,vsu⟩
        rw [opE_eq,hm,dcf (by intro h; injection h with h; exact hf h)]; rfl
    · obtain rfl:i=p.egs.length:=by omega
      (repeat' first|refine vw ?_ ?_<;>intro hq|refine vz ?_|simp -implicitDefEqProofs only [go_sem,hw])
      refine ⟨j+1,vom,⟨vom,ks,g2,_,hR.ext fun q _=>?_⟩,vsu⟩
      by_cases h1:q < j
      · rw [if_pos h1,if_pos (by omega)]
      · rw [if_neg h1]
        by_cases h2:q=j
        · subst h2
          rw [if_pos rfl,if_pos (by omega),opT,hp]
        · rw [if_neg h2,if_neg (by omega)]
  · obtain rfl:j=n.procs.length:=by omega
    (repeat' first|refine vw ?_ ?_<;>intro hq|refine vz ?_|simp -implicitDefEqProofs only [go_sem])
    exact ⟨bo,rfl,⟨_,hR.ext fun p hp=>if_pos hp⟩,ks⟩
theorem opT_at {n:Nt} {s:Stt} {p:Nat} {i:Nat} (h:i∈opT n s p):∃ y x,n.procs[p]?=some y/\y.egs[i]?=some x:=by
 unfold opT at h
 cases hy:n.procs[p]? with
 | none=>rw [hy] at h; simp at h
 | some y=>
  rw [hy] at h
  simp only [opL,List.mem_filter,List.mem_range] at h
  exact ⟨y,y.egs[i],rfl,List.getElem?_eq_getElem h.1⟩
theorem opT_len {n:Nt} {s:Stt} (hs:NtS n) (p:Nat):(opT n s p).length<=1000000:=by
 unfold opT
 cases hy:n.procs[p]? with
 | none=>simp
 | some y=>exact Nat.le_trans opL_len (hs.ll y (List.mem_of_getElem? hy)).2
def rcE (n:Nt) (p:Nat) (c:Int) (i:Nat):Bool:=match n.procs[p]? with
 | some y=>(match y.egs[i]? with
  | some x=>decide (x.ch=c) && !x.snd
  | none=>false)
 | none=>false
theorem recvC {w:WD} {σ:AStore} {n:Nt} {s:Stt} {SV SC SF SP A:AVal} {bw bo m q:Nat} {c:Int} {rows:List AVal} (h:IsNt n (.agg [(.sc (.int .i64 (n.clocks))),SV,SC,SF,SP])) (hs:NtS n) (hw0:σ.get bw=some (.cells 6 [.agg [(.sc (.int .i64 (n.clocks))),SV,SC,SF,SP,A]]))
  (hR:Rws m σ bo n.procs.length (opT n s) rows) (hq:q < n.procs.length) (hn6:n.procs.length<=1000000):
  ACalls (EE w) 115 [.ptr bw 0 0,.slice bo 0 n.procs.length,(.sc (.int .i64 (q))),(.sc (.int .i64 (c)))] σ fun en σ'=>∃ v,en=.ret v/\Gw σ.next σ' 1 v (((opT n s q).filter (rcE n q c)).map iN)/\KeepS σ σ':=by
 obtain ⟨SV',SC',SF',SP',fels,he,icl,⟨hV,lv,hvo⟩,⟨hC,lc,hco⟩,hF,hFs,lf,hP⟩:=h
 simp only [AVal.agg.injEq,List.cons.injEq,and_true,true_and] at he
 obtain ⟨rfl,rfl,rfl,rfl⟩:=he
 obtain ⟨pels,hP1,hPl,hPat⟩:=hP.at'
 have kV:=hV.fit
 have cV:=hV.cells
 have iV:=hV.isCell
 have kC:=hC.fit
 have cC:=hC.cells
 have iC:=hC.isCell
 have kF:=hF.fit
 have cF:=hF.cells
 have iF:=hF.isCell
 have kP:=hP1.fit
 have cP:=hP1.cells
 have iP:=hP1.isCell
 obtain ⟨h0,hr,h2,h3,h4⟩:=id hR
 obtain ⟨v,hv1,hv2⟩:=h3 q hq
 obtain ⟨cv,iv,kv⟩:=hv2.facts
 have hvl:∀ τ,aLen (.slice 0) v τ=some (.sc (.int .i64 ((opT n s q).length))):=fun τ=>by
  rcases hv2 with ⟨e,rfl⟩|⟨b,_,rfl,_⟩
  ·have:(opT n s q).length=0:=by have:=congrArg List.length e; simpa using this
   rw [this]; rfl
  ·rw [List.length_map]; rfl
 have hol:=opT_len (s:=s) hs q
 obtain ⟨y,hy⟩:∃ y,n.procs[q]?=some y:=⟨n.procs[q],List.getElem?_eq_getElem hq⟩
 obtain ⟨e,he,hpv⟩:=hPat q y hy
 obtain ⟨SL,SE,rfl,hSL,hSE,ini⟩:=hpv
 obtain ⟨lels,hL1,_,_⟩:=hSL.at'
 obtain ⟨eels,hE1,hEl,hEat⟩:=hSE.at'
 have kSL:=hL1.fit
 have cSL:=hL1.cells
 have iSL:=hL1.isCell
 have kSE:=hE1.fit
 have cSE:=hE1.cells
 have iSE:=hE1.isCell
 refine of_115 rfl rfl rfl (by kernel_rfl) ?_
 simp -implicitDefEqProofs only [go_sem,hr,ixSl_ow hq,hv1,cv,iv,kv,hvl]
 refine vlp (ι:=Nat×AVal) (fun i=>[(0,.ptr bw 0 0),(2,(.sc (.int .i64 (q)))),(3,(.sc (.int .i64 (c)))),(8,i.2),(15,v),(16,(.sc (.int .i64 ((opT n s q).length)))),(17,(.sc (.int .i64 (i.1))))]) (fun i τ=>i.1<=(opT n s q).length/\KeepS σ τ/\Gw σ.next τ 1 i.2 ((((opT n s q).take i.1).filter (rcE n q c)).map iN)) (fun i=>(opT n s q).length - i.1) (fun _=>rfl) (0,(.sc (.slice none 0 0))) ?_ ?_ ?_
 ·exact vsu
 ·exact ⟨Nat.zero_le _,KeepS.refl σ,Gw.nil⟩
 rintro ⟨i,B⟩ τ ⟨hi,ks,hB⟩
 dsimp only at hi hB
 obtain ⟨cB,iB,kB⟩:=hB.facts
 simp -implicitDefEqProofs only [go_sem]
 (refine vif ?_ ?_<;>intro hlt)
 ·have hil:i < (opT n s q).length:=by omega
  obtain ⟨b,hb1,rfl,hb2⟩:∃ b,bo+1<=b/\v=.slice b 0 (opT n s q).length/\σ.get b=some (.cells 1 ((opT n s q).map iN)):=by
   rcases hv2 with ⟨e,_⟩|⟨b,h1,h2,h3⟩
   ·have:=congrArg List.length e; simp at this; rw [this] at hil; simp at hil
   ·exact ⟨b,h1,by rw [h2,List.length_map],h3⟩
  obtain ⟨z,hz⟩:∃ z,(opT n s q)[i]?=some z:=⟨_,List.getElem?_eq_getElem hil⟩
  have hz':((opT n s q).map iN)[i]?=some (iN z):=by rw [List.getElem?_map,hz]; rfl
  obtain ⟨y',x,hy',hx⟩:=opT_at (List.mem_of_getElem? hz)
  rw [hy] at hy'
  obtain rfl:y=y':=Option.some.inj hy'
  obtain ⟨ev,hev,hpx⟩:=hEat z x hx
  obtain ⟨G,a,b',c',d,SS,SR,rfl,hG,hX,hSS,hSR,i1,i2,i3,i4,i5⟩:=hpx
  obtain ⟨sels,hS1,_,_⟩:=hSS.at'
  have kG:=hG.1.fit
  have cG:=hG.1.cells
  have iG:=hG.1.isCell
  have kS:=hS1.fit
  have cS:=hS1.cells
  have iS:=hS1.isCell
  have kRs:=hSR.1.fit
  have cRs:=hSR.1.cells
  have iRs:=hSR.1.isCell
  obtain ⟨xnm,xi,xels,rfl,rfl,rfl,hD⟩:=hX.four
  have kD:=hD.fit
  have cD:=hD.cells
  have iD:=hD.isCell
  have gw:=ks.2 _ _ hw0
  have gb:=ks.2 _ _ hb2
  have hwi:=wrapS (i:=i) (by omega)
  have hrc:rcE n q c z=(decide (x.ch=c) && !x.snd):=by simp only [rcE,hy,hx]
  have htk:((opT n s q).take (i+1)).filter (rcE n q c)=((opT n s q).take i).filter (rcE n q c)++(if rcE n q c z=true then [z] else []):=by
   rw [List.take_add_one,hz,List.filter_append]; simp only [Option.toList,List.filter_cons,List.filter_nil]
  have hrest:∀ τ1,KeepS τ τ1->rcE n q c z=false->KeepS σ τ1/\Gw σ.next τ1 1 B ((((opT n s q).take (i+1)).filter (rcE n q c)).map iN):=fun τ1 hk h=>by
   rw [htk,h,if_neg Bool.false_ne_true,List.append_nil]
   exact ⟨ks.trans hk,hB.keep fun b x _ hg=>hk.2 _ _ hg⟩
  have kk:=(KeepS.alloc τ (.cells 13 [.agg [(.sc (.int .i64 (0))),(.sc (.int .i64 (0))),(.sc (.slice none 0 0)),(.sc (.int .i64 (0))),.sc (.string ⟨#[]⟩),(.sc (.int .i64 (0))),(.sc (.slice none 0 0)),(.sc (.int .i64 (0))),(.sc (.bool (false))),(.sc (.slice none 0 0)),(.sc (.slice none 0 0)),(.sc (.int .i64 (0))),(.sc (.int .i64 (0)))]])).set (Nat.le_refl _) (.cells 13 [.agg [(.sc (.int .i64 (x.fr))),(.sc (.int .i64 (x.to))),G,(.sc (.int .i64 (x.cd.k))),.sc (.string xnm),(.sc (.int .i64 (xi))),d,(.sc (.int .i64 (x.ch))),(.sc (.bool (x.snd))),SS,SR,(.sc (.int .i64 (x.cost))),(.sc (.int .i64 (x.kind)))]])
  have g9:((τ.alloc (.cells 13 [.agg [(.sc (.int .i64 (0))),(.sc (.int .i64 (0))),(.sc (.slice none 0 0)),(.sc (.int .i64 (0))),.sc (.string ⟨#[]⟩),(.sc (.int .i64 (0))),(.sc (.slice none 0 0)),(.sc (.int .i64 (0))),(.sc (.bool (false))),(.sc (.slice none 0 0)),(.sc (.slice none 0 0)),(.sc (.int .i64 (0))),(.sc (.int .i64 (0)))]])).set τ.next (.cells 13 [.agg [(.sc (.int .i64 (x.fr))),(.sc (.int .i64 (x.to))),G,(.sc (.int .i64 (x.cd.k))),.sc (.string xnm),(.sc (.int .i64 (xi))),d,(.sc (.int .i64 (x.ch))),(.sc (.bool (x.snd))),SS,SR,(.sc (.int .i64 (x.cost))),(.sc (.int .i64 (x.kind)))]])).get τ.next=some (.cells 13 [.agg [(.sc (.int .i64 (x.fr))),(.sc (.int .i64 (x.to))),G,(.sc (.int .i64 (x.cd.k))),.sc (.string xnm),(.sc (.int .i64 (xi))),d,(.sc (.int .i64 (x.ch))),(.sc (.bool (x.snd))),SS,SR,(.sc (.int .i64 (x.cost))),(.sc (.int .i64 (x.kind)))]]):=gss (by rw [alloc_next]; omega)
  by_cases hc1:x.ch=c
  ·cases hsn:x.snd with
   | true=>
    rw [hsn] at kk g9
    (repeat' first|refine vw ?_ ?_<;>intro hq|refine vz ?_|simp -implicitDefEqProofs only [go_sem,gb,gw,ixSl_ow hil,hz',iN,kV,cV,iV,kC,cC,iC,kF,cF,iF,kP,cP,iP,hP1.idx he,kSL,cSL,iSL,kSE,cSE,iSE,hE1.idx hev,kG,cG,iG,kS,cS,iS,kRs,cRs,iRs,kD,cD,iD,sA,dct hc1,hsn,hwi])
    exact ⟨(i+1,B),vom,⟨vom,hrest _ kk (by rw [hrc,hsn]; simp)⟩,vsu⟩
   | false=>
    rw [hsn] at kk g9
    have hlen:((((opT n s q).take i).filter (rcE n q c)).map iN).length<=1000000:=by
     rw [List.length_map]
     have h1:=List.length_filter_le (rcE n q c) ((opT n s q).take i)
     have h2:=List.length_take_le i (opT n s q)
     omega
    obtain ⟨τ1,ht1⟩:∃ t,t=(τ.alloc (.cells 13 [.agg [(.sc (.int .i64 (0))),(.sc (.int .i64 (0))),(.sc (.slice none 0 0)),(.sc (.int .i64 (0))),.sc (.string ⟨#[]⟩),(.sc (.int .i64 (0))),(.sc (.slice none 0 0)),(.sc (.int .i64 (0))),(.sc (.bool (false))),(.sc (.slice none 0 0)),(.sc (.slice none 0 0)),(.sc (.int .i64 (0))),(.sc (.int .i64 (0)))]])).set τ.next (.cells 13 [.agg [(.sc (.int .i64 (x.fr))),(.sc (.int .i64 (x.to))),G,(.sc (.int .i64 (x.cd.k))),.sc (.string xnm),(.sc (.int .i64 (xi))),d,(.sc (.int .i64 (x.ch))),(.sc (.bool (x.snd))),SS,SR,(.sc (.int .i64 (x.cost))),(.sc (.int .i64 (x.kind)))]]):=⟨_,rfl⟩
    rw [hsn] at ht1
    rw [<-ht1] at kk g9
    have hB1:Gw σ.next (τ1.alloc (.cells 1 [(.sc (.int .i64 (z)))])) 1 B ((((opT n s q).take i).filter (rcE n q c)).map iN):=hB.keep fun b y _ hg=>get_alloc_old (kk.2 _ _ hg)
    obtain ⟨τ',a1,a2,a3,a4⟩:=hB1.add 8 (iN z) (by rw [alloc_next]; have:=kk.1; have:=ks.1; omega) (by omega) (by decide) (by decide) rfl
    rw [List.length_map] at a1 a2
    have a1':aAppend 1 8 B [(.sc (.int .i64 (z)))] (τ1.alloc (.cells 1 [(.sc (.int .i64 (z)))]))=some (.slice (τ1.next+1) 0 ((((opT n s q).take i).filter (rcE n q c)).length+1),τ'):=a1
    (repeat' first|refine vw ?_ ?_<;>intro hq|refine vz ?_|simp -implicitDefEqProofs only [go_sem,gb,gw,ixSl_ow hil,hz',iN,kV,cV,iV,kC,cC,iC,kF,cF,iF,kP,cP,iP,hP1.idx he,kSL,cSL,iSL,kSE,cSE,iSE,hE1.idx hev,kG,cG,iG,kS,cS,iS,kRs,cRs,iRs,kD,cD,iD,sA,dct hc1,hsn,hwi,<-ht1,g9,a1',cB,iB,kB])
    refine ⟨(i+1,.slice (τ1.next+1) 0 ((((opT n s q).take i).filter (rcE n q c)).length+1)),vom,⟨vom,⟨by rw [a3,alloc_next]; have:=kk.1; have:=ks.1; omega,fun b' y hg=>a4 _ _ (AStore.lt_of_get hg) (get_alloc_old (kk.2 _ _ (ks.2 _ _ hg)))⟩,?_⟩,vsu⟩
    dsimp only
    rw [htk,hrc,hsn,dct hc1,List.map_append]
    exact a2
  ·(repeat' first|refine vw ?_ ?_<;>intro hq|refine vz ?_|simp -implicitDefEqProofs only [go_sem,gb,gw,ixSl_ow hil,hz',iN,kV,cV,iV,kC,cC,iC,kF,cF,iF,kP,cP,iP,hP1.idx he,kSL,cSL,iSL,kSE,cSE,iSE,hE1.idx hev,kG,cG,iG,kS,cS,iS,kRs,cRs,iRs,kD,cD,iD,sA,dcf hc1,hwi])
   exact ⟨(i+1,B),vom,⟨vom,hrest _ kk (by rw [hrc,dcf hc1]; rfl)⟩,vsu⟩
 ·obtain rfl:i=(opT n s q).length:=by omega
  rw [List.take_length] at hB
  (repeat' first|refine vw ?_ ?_<;>intro hq|refine vz ?_|simp -implicitDefEqProofs only [go_sem])
  exact ⟨B,rfl,hB,ks⟩
def rcQ (n:Nt) (s:Stt) (p:Nat) (c:Int) (q:Nat):Bool:=!decide (q=p) && decide (0 < ((opT n s q).filter (rcE n q c)).length)
def urE (n:Nt) (s:Stt) (p i:Nat):Bool:=match n.procs[p]? with
 | some y=>(match y.egs[i]? with
  | some x=>if x.ch < 0 then false else if x.snd=false then false else (match n.chans[x.ch.toNat]? with
   | some c=>c.ur && (c.bc || (List.range n.procs.length).any (rcQ n s p x.ch))
   | none=>false)
  | none=>false)
 | none=>false
def stillB (n:Nt) (s:Stt):Bool:=(List.range n.procs.length).any (fun p=>!decide (kindB n s p=0)) || (List.range n.procs.length).any fun p=>(opT n s p).any (urE n s p)
theorem still_kind {n:Nt} {s:Stt} {p:Nat} (hp:p < n.procs.length) (h:kindB n s p≠0):stillB n s=true:=by
 unfold stillB
 rw [Bool.or_eq_true,List.any_eq_true]
 exact .inl ⟨p,List.mem_range.2 hp,by simpa using h⟩
theorem still_ur {n:Nt} {s:Stt} {p i:Nat} (hp:p < n.procs.length) (hi:i∈opT n s p) (h:urE n s p i=true):stillB n s=true:=by
 unfold stillB
 rw [Bool.or_eq_true,List.any_eq_true,List.any_eq_true]
 exact .inr ⟨p,List.mem_range.2 hp,List.any_eq_true.2 ⟨i,hi,h⟩⟩
theorem still_no {n:Nt} {s:Stt} (h1:∀ p,p < n.procs.length->kindB n s p=0) (h2:∀ p,p < n.procs.length->∀ i∈opT n s p,urE n s p i=false):stillB n s=false:=by
 cases h:stillB n s with
 | false=>rfl
 | true=>
  unfold stillB at h
  rw [Bool.or_eq_true,List.any_eq_true,List.any_eq_true] at h
  rcases h with ⟨p,hp,h⟩|⟨p,hp,h⟩
  ·have:=h1 p (List.mem_range.1 hp)
   simp [this] at h
  ·obtain ⟨i,hi,h⟩:=List.any_eq_true.1 h
   rw [h2 p (List.mem_range.1 hp) i hi] at h
   cases h
theorem eg_ch {n:Nt} (hv:validB n=true) {y:Pr} (hy:y∈n.procs) {x:Eg} (hx:x∈y.egs) (hc:¬ x.ch < 0):∃ c,n.chans[x.ch.toNat]?=some c/\((x.ch.toNat:Nat):Int)=x.ch:=by
 simp only [validB,Bool.and_eq_true,List.all_eq_true] at hv
 have h1:=hv.2 y hy
 simp only [prB,Bool.and_eq_true,List.all_eq_true] at h1
 have h2:=h1.2 x hx
 simp only [egB,egB1,wiB,Bool.and_eq_true,Bool.or_eq_true,decide_eq_true_eq] at h2
 rcases h2.1.1.1.1.1.1.2 with h|h
 ·omega
 ·exact ⟨_,List.getElem?_eq_getElem (by omega),vom⟩
theorem stillPC {w : WD} {σ : AStore} {n : Nt} {s : Stt} {SV SC SF SP A u : AVal} {bw : Nat} (h : IsNt n (.agg [(.sc (.int .i64 (n.clocks))), SV, SC, SF, SP])) (hs : NtS n) (hu : IsStt s u) (hck : checkB n s = true) (hw0 : σ.get bw = some (.cells 6 [.agg [(.sc (.int .i64 (n.clocks))), SV, SC, SF, SP, A]])) (hA : HasO σ A (n.vars.map Vr.nm)) :
    ACalls (EE w) 78 [.ptr bw 0 0,u] σ fun en σ'=>en=.ret (.sc (.bool (stillB n s)))/\KeepS σ σ':=by
  have h0:=h
  have hu0:=hu
  have hv:=check_valid hck
  have hp6:=(valid_procs hv).1
  obtain ⟨SV',SC',SF',SP',fels,he,icl,⟨hV,lv,hvo⟩,⟨hC,lc,hco⟩,hF,hFs,lf,hP⟩:=h
  simp only [AVal.agg.injEq,List.cons.injEq,and_true,true_and] at he
  obtain ⟨rfl,rfl,rfl,rfl⟩:=he
  obtain ⟨L,U,rfl,⟨hL,lL,iL0⟩,⟨hU,lU,iU0⟩⟩:=hu
  obtain ⟨pels,hP1,hPl,hPat⟩:=hP.at'
  have hPn:∀ σ:AStore,aLen (.slice 0) SP σ=some (.sc (.int .i64 (n.procs.length))):=fun σ=>hP1.lenN hPl
  have kV:=hV.fit
  have cV:=hV.cells
  have iV:=hV.isCell
  have kC:=hC.fit
  have cC:=hC.cells
  have iC:=hC.isCell
  have kF:=hF.fit
  have cF:=hF.cells
  have iF:=hF.isCell
  have kP:=hP1.fit
  have cP:=hP1.cells
  have iP:=hP1.isCell
  have kL:=hL.fit
  have cL:=hL.cells
  have iL:=hL.isCell
  have kU:=hU.fit
  have cU:=hU.cells
  have iU:=hU.isCell
  have lw:=AStore.lt_of_get hw0
  have n2:¬ bw=σ.next:=by omega
  refine of_78 rfl rfl rfl (by kernel_rfl) ?_
  have g2:(σ.alloc (.cells 2 [.agg [L,U]])).get σ.next=some (.cells 2 [.agg [L,U]]):=by rw [AStore.get_alloc,if_pos rfl]
  have k0:KeepS σ (σ.alloc (.cells 2 [.agg [L,U]])):=KeepS.alloc _ _
  simp -implicitDefEqProofs only [go_sem,hw0,n2,kV,cV,iV,kC,cC,iC,kF,cF,iF,kP,cP,iP,kL,cL,iL,kU,cU,iU,hPn]
  generalize σ.alloc (.cells 2 [.agg [L,U]])=τ at g2 k0 ⊢
  refine vlp (ι:=Nat) (fun j=>[(0,.ptr bw 0 0),(3,.ptr σ.next 0 0),(16,SP),(17,(.sc (.int .i64 (n.procs.length)))),(18,(.sc (.int .i64 (j))))]) (fun j τ=>j<=n.procs.length/\KeepS σ τ/\τ.get σ.next=some (.cells 2 [.agg [L,U]])/\∀ p,p < j->kindB n s p=0) (fun j=>n.procs.length - j) (fun _=>rfl) 0 ?_ ?_ ?_
  · exact vsu
  · exact ⟨Nat.zero_le _,k0,g2,fun p hp=>absurd hp (Nat.not_lt_zero _)⟩
  clear g2 k0
  rintro j τ ⟨hj,ks,g2,hz⟩
  have gw:=ks.2 _ _ hw0
  simp -implicitDefEqProofs only [go_sem]
  (refine vif ?_ ?_<;>intro hlt)
  · have hw:=wrapS (i:=j) (by omega)
    (repeat' first|refine vw ?_ ?_<;>intro hq|refine vz ?_|simp -implicitDefEqProofs only [go_sem,g2,kL,cL,iL,kU,cU,iU])
    refine (kindC h0 hu0 hck (by omega) gw).mono ?_
    rintro _ τ1 ⟨rfl,k1⟩
    by_cases hk:kindB n s j=0
    · (repeat' first|refine vw ?_ ?_<;>intro hq|refine vz ?_|simp -implicitDefEqProofs only [go_sem,dct hk,hw])
      refine ⟨j+1,vom,⟨vom,ks.trans k1,k1.2 _ _ g2,fun p hp=>?_⟩,vsu⟩
      by_cases e:p=j
      · rw [e]; exact hk
      · exact hz p (by omega)
    · (repeat' first|refine vw ?_ ?_<;>intro hq|refine vz ?_|simp -implicitDefEqProofs only [go_sem,dcf hk,hw])
      rw [still_kind (by omega) hk]
      exact ⟨rfl,ks.trans k1⟩
  obtain rfl:j=n.procs.length:=by omega
  (repeat' first|refine vw ?_ ?_<;>intro hq|refine vz ?_|simp -implicitDefEqProofs only [go_sem,g2,kL,cL,iL,kU,cU,iU])
  have hA1:HasO τ A (n.vars.map Vr.nm):=by
    rcases hA with hA|⟨b,h1,h2⟩
    · exact .inl hA
    · exact .inr ⟨b,h1,ks.2 _ _ h2⟩
  refine (openC h0 hs hu0 hck gw hA1).mono ?_
  rintro _ τ1 ⟨bo,rfl,⟨rows,hR⟩,k1⟩
  have ks1:=ks.trans k1
  clear g2 gw hA1
  (repeat' first|refine vw ?_ ?_<;>intro hq|refine vz ?_|simp -implicitDefEqProofs only [go_sem])
  refine vlp (ι:=Nat) (fun j=>[(0,.ptr bw 0 0),(6,.slice bo 0 n.procs.length),(31,(.sc (.int .i64 (n.procs.length)))),(32,(.sc (.int .i64 (j))))]) (fun j τ=>j<=n.procs.length/\KeepS τ1 τ/\∀ p,p < j->∀ i∈opT n s p,urE n s p i=false) (fun j=>n.procs.length - j) (fun _=>rfl) 0 ?_ ?_ ?_
  · exact vsu
  · exact ⟨Nat.zero_le _,KeepS.refl _,fun p hp=>absurd hp (Nat.not_lt_zero _)⟩
  rintro j ρ ⟨hj,kr,hn⟩
  simp -implicitDefEqProofs only [go_sem]
  (refine vif ?_ ?_<;>intro hlt)
  · have hjl:j < n.procs.length:=by omega
    have hw:=wrapS (i:=j) (by omega)
    obtain ⟨_,hr,hrl,h3,_⟩:=id hR
    obtain ⟨v,hv1,hv2⟩:=h3 j hjl
    obtain ⟨cv,iv,kv⟩:=hv2.facts
    have hvl:∀ τ,aLen (.slice 0) v τ=some (.sc (.int .i64 ((opT n s j).length))):=fun τ=>by
      rcases hv2 with ⟨e,rfl⟩|⟨b,_,rfl,_⟩
      · have:(opT n s j).length=0:=by have:=congrArg List.length e; simpa using this
        rw [this]; rfl
      · rw [List.length_map]; rfl
    have hol:=opT_len (s:=s) hs j
    have gr:=kr.2 _ _ hr
    (repeat' first|refine vw ?_ ?_<;>intro hq|refine vz ?_|simp -implicitDefEqProofs only [go_sem,gr,ixSl_ow hjl,hv1,cv,iv,kv,hvl])
    obtain ⟨y,hy⟩:∃ y,n.procs[j]?=some y:=⟨n.procs[j],List.getElem?_eq_getElem hjl⟩
    have hym:=List.mem_of_getElem? hy
    obtain ⟨e,he,hpv⟩:=hPat j y hy
    obtain ⟨SL,SE,rfl,hSL,hSE,ini⟩:=hpv
    obtain ⟨lels,hL1,_,_⟩:=hSL.at'
    obtain ⟨eels,hE1,hEl,hEat⟩:=hSE.at'
    have kSL:=hL1.fit
    have cSL:=hL1.cells
    have iSL:=hL1.isCell
    have kSE:=hE1.fit
    have cSE:=hE1.cells
    have iSE:=hE1.isCell
    refine vlp (ι:=Nat) (fun i=>[(0,.ptr bw 0 0),(6,.slice bo 0 n.procs.length),(7,(.sc (.int .i64 (j)))),(31,(.sc (.int .i64 (n.procs.length)))),(32,(.sc (.int .i64 (j)))),(38,v),(39,(.sc (.int .i64 ((opT n s j).length)))),(40,(.sc (.int .i64 (i))))]) (fun i τ=>i<=(opT n s j).length/\KeepS τ1 τ/\∀ i' z,i' < i->(opT n s j)[i']?=some z->urE n s j z=false) (fun i=>(opT n s j).length - i) (fun _=>rfl) 0 ?_ ?_ ?_
    · exact vsu
    · exact ⟨Nat.zero_le _,kr,fun i' z hi=>absurd hi (Nat.not_lt_zero _)⟩
    clear kr gr ρ
    rintro i ρ ⟨hi,kr,hni⟩
    simp -implicitDefEqProofs only [go_sem]
    (refine vif ?_ ?_<;>intro hle)
    · have hil:i < (opT n s j).length:=by omega
      obtain ⟨b,hb1,rfl,hb2⟩:∃ b,bo+1<=b/\v=.slice b 0 (opT n s j).length/\τ1.get b=some (.cells 1 ((opT n s j).map iN)):=by
        rcases hv2 with ⟨e,_⟩|⟨b,h1,h2,h3⟩
        · have:=congrArg List.length e; simp at this; rw [this] at hil; simp at hil
        · exact ⟨b,h1,by rw [h2,List.length_map],h3⟩
      obtain ⟨z,hz1⟩:∃ z,(opT n s j)[i]?=some z:=⟨_,List.getElem?_eq_getElem hil⟩
      have hz':((opT n s j).map iN)[i]?=some (iN z):=by rw [List.getElem?_map,hz1]; rfl
      have hzm:=List.mem_of_getElem? hz1
      obtain ⟨y',x,hy',hx⟩:=opT_at hzm
      rw [hy] at hy'
      obtain rfl:y=y':=Option.some.inj hy'
      have hxm:=List.mem_of_getElem? hx
      obtain ⟨ev,hev,hpx⟩:=hEat z x hx
      obtain ⟨G,a,b',c',d,SS,SR,rfl,hG,hX,hSS,hSR,i1,i2,i3,i4,i5⟩:=hpx
      obtain ⟨sels,hS1,_,_⟩:=hSS.at'
      have kG:=hG.1.fit
      have cG:=hG.1.cells
      have iG:=hG.1.isCell
      have kS:=hS1.fit
      have cS:=hS1.cells
      have iS:=hS1.isCell
      have kRs:=hSR.1.fit
      have cRs:=hSR.1.cells
      have iRs:=hSR.1.isCell
      obtain ⟨xnm,xi,xels,rfl,rfl,rfl,hD⟩:=hX.four
      have kD:=hD.fit
      have cD:=hD.cells
      have iD:=hD.isCell
      have gw:=kr.2 _ _ (ks1.2 _ _ hw0)
      have gb:=kr.2 _ _ hb2
      have hwi:=wrapS (i:=i) (by omega)
      have kk:=(KeepS.alloc ρ (.cells 13 [.agg [(.sc (.int .i64 (0))),(.sc (.int .i64 (0))),(.sc (.slice none 0 0)),(.sc (.int .i64 (0))),.sc (.string ⟨#[]⟩),(.sc (.int .i64 (0))),(.sc (.slice none 0 0)),(.sc (.int .i64 (0))),(.sc (.bool (false))),(.sc (.slice none 0 0)),(.sc (.slice none 0 0)),(.sc (.int .i64 (0))),(.sc (.int .i64 (0)))]])).set (Nat.le_refl _) (.cells 13 [.agg [(.sc (.int .i64 (x.fr))),(.sc (.int .i64 (x.to))),G,(.sc (.int .i64 (x.cd.k))),.sc (.string xnm),(.sc (.int .i64 (xi))),d,(.sc (.int .i64 (x.ch))),(.sc (.bool (x.snd))),SS,SR,(.sc (.int .i64 (x.cost))),(.sc (.int .i64 (x.kind)))]])
      have g9:((ρ.alloc (.cells 13 [.agg [(.sc (.int .i64 (0))),(.sc (.int .i64 (0))),(.sc (.slice none 0 0)),(.sc (.int .i64 (0))),.sc (.string ⟨#[]⟩),(.sc (.int .i64 (0))),(.sc (.slice none 0 0)),(.sc (.int .i64 (0))),(.sc (.bool (false))),(.sc (.slice none 0 0)),(.sc (.slice none 0 0)),(.sc (.int .i64 (0))),(.sc (.int .i64 (0)))]])).set ρ.next (.cells 13 [.agg [(.sc (.int .i64 (x.fr))),(.sc (.int .i64 (x.to))),G,(.sc (.int .i64 (x.cd.k))),.sc (.string xnm),(.sc (.int .i64 (xi))),d,(.sc (.int .i64 (x.ch))),(.sc (.bool (x.snd))),SS,SR,(.sc (.int .i64 (x.cost))),(.sc (.int .i64 (x.kind)))]])).get ρ.next=some (.cells 13 [.agg [(.sc (.int .i64 (x.fr))),(.sc (.int .i64 (x.to))),G,(.sc (.int .i64 (x.cd.k))),.sc (.string xnm),(.sc (.int .i64 (xi))),d,(.sc (.int .i64 (x.ch))),(.sc (.bool (x.snd))),SS,SR,(.sc (.int .i64 (x.cost))),(.sc (.int .i64 (x.kind)))]]):=gss (by rw [alloc_next]; omega)
      obtain ⟨ρ1,ht1⟩:∃ t,t=(ρ.alloc (.cells 13 [.agg [(.sc (.int .i64 (0))),(.sc (.int .i64 (0))),(.sc (.slice none 0 0)),(.sc (.int .i64 (0))),.sc (.string ⟨#[]⟩),(.sc (.int .i64 (0))),(.sc (.slice none 0 0)),(.sc (.int .i64 (0))),(.sc (.bool (false))),(.sc (.slice none 0 0)),(.sc (.slice none 0 0)),(.sc (.int .i64 (0))),(.sc (.int .i64 (0)))]])).set ρ.next (.cells 13 [.agg [(.sc (.int .i64 (x.fr))),(.sc (.int .i64 (x.to))),G,(.sc (.int .i64 (x.cd.k))),.sc (.string xnm),(.sc (.int .i64 (xi))),d,(.sc (.int .i64 (x.ch))),(.sc (.bool (x.snd))),SS,SR,(.sc (.int .i64 (x.cost))),(.sc (.int .i64 (x.kind)))]]):=⟨_,rfl⟩
      rw [<-ht1] at kk g9
      have qw:=kk.2 _ _ gw
      have kr1:=kr.trans kk
      have hnext:urE n s j z=false->∀ i' z',i' < i+1->(opT n s j)[i']?=some z'->urE n s j z'=false:=fun h i' z' hlt hz2=>by
        by_cases e:i'=i
        · rw [e,hz1] at hz2
          cases hz2
          exact h
        · exact hni i' z' (by omega) hz2
      have hue : urE n s j z = if x.ch < 0 then false else if x.snd = false then false else (match n.chans[x.ch.toNat]? with
          | some c=>c.ur && (c.bc || (List.range n.procs.length).any (rcQ n s j x.ch))
          | none=>false):=by simp only [urE,hy,hx]
      (repeat' first|refine vw ?_ ?_<;>intro hq|refine vz ?_|simp -implicitDefEqProofs only [go_sem,gb,gw,ixSl_ow hil,hz',iN,kV,cV,iV,kC,cC,iC,kF,cF,iF,kP,cP,iP,hP1.idx he,kSL,cSL,iSL,kSE,cSE,iSE,hE1.idx hev,kG,cG,iG,kS,cS,iS,kRs,cRs,iRs,kD,cD,iD,sA,<-ht1])
      ((try (refine Z_seq ?_; (try simp -implicitDefEqProofs only [go_sem]))); refine Z_draw (by kernel_rfl) [0,1,2,3,4,5,6,7,8,9,10,11,12,13,14,15,16,17,18,19,20] [(20,1048575),(19,524287),(18,262143),(17,131071),(16,65535),(15,16895),(14,511),(13,8191),(12,4095),(11,2047),(10,1023),(9,511),(8,255),(7,127),(6,63),(5,31),(4,15),(3,7),(2,3),(1,1),(0,0)] (by kernel_rfl) (by kernel_rfl) ?_)
      by_cases hc0:x.ch < 0
      · simp -implicitDefEqProofs only [go_sem,g9,dct hc0,kG,cG,iG,kS,cS,iS,kRs,cRs,iRs,kD,cD,iD]
        (repeat' first|refine vw ?_ ?_<;>intro hq|refine vz ?_|simp -implicitDefEqProofs only [go_sem,hwi])
        exact ⟨i+1,vom,⟨by omega,kr1,hnext (by rw [hue,if_pos hc0])⟩,vsu⟩
      cases hsn:x.snd with
      | false=>
        rw [hsn] at g9
        simp -implicitDefEqProofs only [go_sem,g9,dcf hc0,kG,cG,iG,kS,cS,iS,kRs,cRs,iRs,kD,cD,iD]
        (repeat' first|refine vw ?_ ?_<;>intro hq|refine vz ?_|simp -implicitDefEqProofs only [go_sem,hwi])
        exact ⟨i+1,vom,⟨by omega,kr1,hnext (by rw [hue,if_neg hc0,if_pos hsn])⟩,vsu⟩
      | true=>
        rw [hsn] at g9
        obtain ⟨c,hc1,hc2⟩:=eg_ch hv hym hxm hc0
        have hcx:=hC.idx (σ:=ρ1) (k:=.i64) (show (n.chans.map chA)[x.ch.toNat]?=some (chA c) by rw [List.getElem?_map,hc1]; rfl)
        rw [hc2] at hcx
        rw [hc1,hsn,if_neg hc0,if_neg (by simp)] at hue
        dsimp only at hue
        simp -implicitDefEqProofs only [go_sem,g9,qw,dcf hc0,kG,cG,iG,kS,cS,iS,kRs,cRs,iRs,kD,cD,iD,kV,cV,iV,kC,cC,iC,kF,cF,iF,kP,cP,iP,hcx,chA,sA]
        cases hur:c.ur with
        | false=>
          rw [hur] at hue
          (repeat' first|refine vw ?_ ?_<;>intro hq|refine vz ?_|simp -implicitDefEqProofs only [go_sem,hwi])
          exact ⟨i+1,vom,⟨vom,kr1,hnext hue⟩,vsu⟩
        | true=>
          rw [hur,Bool.true_and] at hue
          (repeat' first|refine vw ?_ ?_<;>intro hq|refine vz ?_|simp -implicitDefEqProofs only [go_sem])
          ((try (refine Z_seq ?_; (try simp -implicitDefEqProofs only [go_sem]))); refine Z_draw (by kernel_rfl) [0,1,2,3,4,5,6,7,8,9] [(9,511),(8,255),(7,127),(6,32),(5,0),(4,15),(3,7),(2,3),(1,1),(0,0)] (by kernel_rfl) (by kernel_rfl) ?_)
          cases hbc:c.bc with
          | true=>
            rw [hbc,Bool.true_or] at hue
            simp -implicitDefEqProofs only [go_sem,g9,qw,kG,cG,iG,kS,cS,iS,kRs,cRs,iRs,kD,cD,iD,kV,cV,iV,kC,cC,iC,kF,cF,iF,kP,cP,iP,hcx,chA,sA,hur,hbc]
            (repeat' first|refine vw ?_ ?_<;>intro hq|refine vz ?_|simp -implicitDefEqProofs only [go_sem])
            rw [still_ur hjl hzm hue]
            exact ⟨rfl,ks1.trans kr1⟩
          | false=>
            rw [hbc,Bool.false_or] at hue
            simp -implicitDefEqProofs only [go_sem,g9,qw,kG,cG,iG,kS,cS,iS,kRs,cRs,iRs,kD,cD,iD,kV,cV,iV,kC,cC,iC,kF,cF,iF,kP,cP,iP,hcx,chA,sA,hur,hbc]
            (repeat' first|refine vw ?_ ?_<;>intro hq|refine vz ?_|simp -implicitDefEqProofs only [go_sem])
            refine vlp (ι:=Nat) (fun q=>[(0,.ptr bw 0 0),(6,.slice bo 0 n.procs.length),(7,(.sc (.int .i64 (j)))),(10,.ptr ρ.next 0 0),(31,(.sc (.int .i64 (n.procs.length)))),(32,(.sc (.int .i64 (j)))),(38,.slice b 0 (opT n s j).length),(39,(.sc (.int .i64 ((opT n s j).length)))),(40,(.sc (.int .i64 (i)))),(88,(.sc (.int .i64 (n.procs.length)))),(89,(.sc (.int .i64 (q))))]) (fun q τ=>q<=n.procs.length/\KeepS ρ1 τ/\∀ q',q' < q->rcQ n s j x.ch q'=false) (fun q=>n.procs.length - q) (fun _=>rfl) 0 ?_ ?_ ?_
            · exact vsu
            · exact ⟨Nat.zero_le _,KeepS.refl _,fun q' hq=>absurd hq (Nat.not_lt_zero _)⟩
            rintro q ω ⟨hq,ko,hnq⟩
            simp -implicitDefEqProofs only [go_sem]
            (refine vif ?_ ?_<;>intro hlq)
            · have hql:q < n.procs.length:=by omega
              have hwq:=wrapS (i:=q) (by omega)
              have g9o:=ko.2 _ _ g9
              have gwo:=ko.2 _ _ qw
              have hstep:rcQ n s j x.ch q=false->∀ q',q' < q+1->rcQ n s j x.ch q'=false:=fun h q' hlt=>by
                by_cases e:q'=q
                · rw [e]; exact h
                · exact hnq q' (by omega)
              by_cases hqj:(q:Int)=j
              · (repeat' first|refine vw ?_ ?_<;>intro hq|refine vz ?_|simp -implicitDefEqProofs only [go_sem,dct hqj,hwq])
                refine ⟨q+1,vom,⟨vom,ko,hstep ?_⟩,vsu⟩
                rw [rcQ,dct (by omega:q=j)]; rfl
              · (repeat' first|refine vw ?_ ?_<;>intro hq|refine vz ?_|simp -implicitDefEqProofs only [go_sem,dcf hqj,g9o])
                have hRo:Rws σ.next ω bo n.procs.length (opT n s) rows:=(hR.keep fun b x _ hg=>ko.2 _ _ (kr1.2 _ _ hg)).low ks.1
                refine (recvC (c:=x.ch) h0 hs gwo hRo hql (by omega)).mono ?_
                rintro _ ω1 ⟨v,rfl,hv2,ko1⟩
                have hvl2:∀ τ,aLen (.slice 0) v τ=some (.sc (.int .i64 (((opT n s q).filter (rcE n q x.ch)).length))):=fun τ=>by
                  rcases hv2 with ⟨e,rfl⟩|⟨b,_,rfl,_⟩
                  · have:((opT n s q).filter (rcE n q x.ch)).length=0:=by have:=congrArg List.length e; simpa only [List.length_map,List.length_nil] using this
                    rw [this]; rfl
                  · rw [List.length_map]; rfl
                generalize hgen:((opT n s q).filter (rcE n q x.ch)).length=len at hvl2
                have hqj':¬ q=j:=by omega
                by_cases hl0:(0:Int) < (len:Int)
                · (repeat' first|refine vw ?_ ?_<;>intro hq|refine vz ?_|simp -implicitDefEqProofs only [go_sem,hvl2,dct hl0])
                  rw [still_ur hjl hzm (by rw [hue]; exact List.any_eq_true.2 ⟨q,List.mem_range.2 hql,by rw [rcQ,hgen,dcf hqj',dct (by omega:0 < len)]; rfl⟩)]
                  exact ⟨rfl,ks1.trans (kr1.trans (ko.trans ko1))⟩
                · (repeat' first|refine vw ?_ ?_<;>intro hq|refine vz ?_|simp -implicitDefEqProofs only [go_sem,hvl2,dcf hl0,hwq])
                  refine ⟨q+1,vom,⟨vom,ko.trans ko1,hstep ?_⟩,vsu⟩
                  rw [rcQ,hgen,dcf hqj',dcf (by omega:¬ 0 < len)]; rfl
            · obtain rfl:q=n.procs.length:=by omega
              (repeat' first|refine vw ?_ ?_<;>intro hq|refine vz ?_|simp -implicitDefEqProofs only [go_sem,hwi])
              refine ⟨i+1,vom,⟨vom,kr1.trans ko,hnext (by
                rw [hue]
                cases h:(List.range n.procs.length).any (rcQ n s j x.ch) with
                | false=>rfl
                | true=>
                  obtain ⟨q,h1,h2⟩:=List.any_eq_true.1 h
                  rw [hnq q (List.mem_range.1 h1)] at h2
                  cases h2)⟩,vsu⟩
    · obtain rfl:i=(opT n s j).length:=by omega
      (repeat' first|refine vw ?_ ?_<;>intro hq|refine vz ?_|simp -implicitDefEqProofs only [go_sem,hw])
      refine ⟨j+1,vom,⟨vom,kr,fun p hp z hz2=>?_⟩,vsu⟩
      by_cases e:p=j
      · subst e
        obtain ⟨i',hi',he'⟩:=List.mem_iff_getElem.1 hz2
        exact hni i' z hi' (by rw [List.getElem?_eq_getElem hi',he'])
      · exact hn p (by omega) z hz2
  · obtain rfl:j=n.procs.length:=by omega
    (repeat' first|refine vw ?_ ?_<;>intro hq|refine vz ?_|simp -implicitDefEqProofs only [go_sem])
    rw [still_no hz hn]
    exact ⟨rfl,ks1.trans kr⟩
theorem stillC {w:WD} {n:Nt} {v u:AVal} {s:Stt} (h:IsNt n v) (hs:NtS n) (hu:IsStt s u):
  GivesV (EE w) 38 [v,u] (.tuple [(.sc (.bool (checkB n s && stillB n s))),(.sc (.int .i64 (if checkB n s then 0 else 2)))]):=by
 have hwf:=h.wf
 have hwu:=hu.wf
 have hu0:=hu
 have hCk:=fun w:WD=>checkC (w:=w) h hs hu
 obtain ⟨SV,SC,SF,SP,fels,rfl,icl,⟨hV,lv,hvo⟩,⟨hC,lc,hco⟩,hF,hFs,lf,hP⟩:=id h
 obtain ⟨L,U,rfl,⟨hL,lL,iL0⟩,⟨hU,lU,iU0⟩⟩:=hu
 obtain ⟨pels,hP1,hPl,hPat⟩:=hP.at'
 have kV:=hV.fit
 have cV:=hV.cells
 have iV:=hV.isCell
 have kC:=hC.fit
 have cC:=hC.cells
 have iC:=hC.isCell
 have kF:=hF.fit
 have cF:=hF.cells
 have iF:=hF.isCell
 have kP:=hP1.fit
 have cP:=hP1.cells
 have iP:=hP1.isCell
 have kL:=hL.fit
 have cL:=hL.cells
 have iL:=hL.isCell
 have kU:=hU.fit
 have cU:=hU.cells
 have iU:=hU.isCell
 refine GivesV.of gWF (.cons _ _ hwf (.cons _ _ hwu .nil)) 2 ?_
 refine of_38 rfl rfl rfl (by kernel_rfl) ?_
 simp -implicitDefEqProofs only [go_sem,kV,cV,iV,kC,cC,iC,kF,cF,iF,kP,cP,iP,kL,cL,iL,kU,cU,iU]
 have g0:((empty.alloc (.cells 5 [.agg [(.sc (.int .i64 (n.clocks))),SV,SC,SF,SP]])).alloc (.cells 2 [.agg [L,U]])).get 0=some (.cells 5 [.agg [(.sc (.int .i64 (n.clocks))),SV,SC,SF,SP]]):=by rw [AStore.get_alloc]; rfl
 have g1:((empty.alloc (.cells 5 [.agg [(.sc (.int .i64 (n.clocks))),SV,SC,SF,SP]])).alloc (.cells 2 [.agg [L,U]])).get 1=some (.cells 2 [.agg [L,U]]):=by rw [AStore.get_alloc]; rfl
 generalize (empty.alloc (.cells 5 [.agg [(.sc (.int .i64 (n.clocks))),SV,SC,SF,SP]])).alloc (.cells 2 [.agg [L,U]])=τ at g0 g1 ⊢
 refine (hCk _).use ?_
 cases hc:checkB n s with
 | false=>
  simp only [Bool.false_eq_true,if_false,if_true,Bool.false_and]
  (repeat' first|refine vw ?_ ?_<;>intro hq|refine vz ?_|simp -implicitDefEqProofs only [go_sem,g0,g1])
  exact ⟨_,rfl,rfl⟩
 | true=>
 simp only [Bool.false_eq_true,if_false,if_true,Bool.true_and]
 (repeat' first|refine vw ?_ ?_<;>intro hq|refine vz ?_|simp -implicitDefEqProofs only [go_sem])
 ((try (refine Z_seq ?_; (try simp -implicitDefEqProofs only [go_sem]))); refine Z_draw (by kernel_rfl) [0,2,1,3,4,5] [(5,31),(4,15),(3,7),(1,1),(2,0),(0,0)] (by kernel_rfl) (by kernel_rfl) ?_)
 simp -implicitDefEqProofs only [go_sem,g0,g1,kV,cV,iV,kC,cC,iC,kF,cF,iF,kP,cP,iP,kL,cL,iL,kU,cU,iU]
 have hv:=check_valid hc
 refine (begunN h (by have:=(valid_procs hv).2.1; omega)).mono ?_
 rintro _ τ1 ⟨b,A,rfl,gb,hbl,k1,hO⟩
 have g01:=k1.2 _ _ g0
 have g11:=k1.2 _ _ g1
 refine .inr ?_
 simp -implicitDefEqProofs only [go_sem,g01,g11,kV,cV,iV,kC,cC,iC,kF,cF,iF,kP,cP,iP,kL,cL,iL,kU,cU,iU]
 refine (stillPC h hs hu0 hc gb hO.hasO).mono ?_
 rintro _ τ2 ⟨rfl,k2⟩
 refine .inr ?_
 simp -implicitDefEqProofs only [go_sem]
 exact ⟨_,rfl,rfl⟩
def subR (x y:Int×Int):(Int×Int)×Int:=if validR x && validR y then makeR (x.1*y.2 - y.1*x.2) (x.2*y.2) else ((0,0),2)
theorem subC {w:WD} (x y:Int×Int) (h1:in64 x.1) (h2:in64 x.2) (h3:in64 y.1) (h4:in64 y.2):GivesV (EE w) 41 [rA x,rA y] (rE (subR x y)):=by
 refine GivesV.of gWF (.cons _ _ (wfR x) (.cons _ _ (wfR y) .nil)) 4 ?_
 have hx:(rA x).fit=true:=id rfl
 have hy:(rA y).fit=true:=id rfl
 have lx:loadCs true 2 0 (rA x).cells=some (rA x):=rfl
 have ly:loadCs true 2 0 (rA y).cells=some (rA y):=rfl
 have kx:(rA x).cells.length=2:=rfl
 have ky:(rA y).cells.length=2:=rfl
 refine of_41 rfl rfl rfl (by kernel_rfl) ?_
 simp -implicitDefEqProofs only [go_sem,hx,hy,lx,ly,kx,ky]
 refine (validsC x y h1 h2 h3 h4).use ?_
 cases hv:validR x && validR y with
 | false=>
  simp -implicitDefEqProofs only [go_sem]
  refine vzt ?_
  simp -implicitDefEqProofs only [go_sem]
  exact ⟨_,rfl,by simp only [subR,hv]; rfl⟩
 | true=>
  have hv':=hv
  simp only [Bool.and_eq_true] at hv'
  obtain ⟨a1,a2,a3,a4⟩:=validR_bounds hv'.1
  obtain ⟨b1,b2,b3,b4⟩:=validR_bounds hv'.2
  have bd:∀ p q:Int,-2147483647<=p->p<=2147483647->0 < q->q<=2147483647->-4611686014132420609<=p*q/\p*q<=4611686014132420609:=by
   intro p q g1 g2 g3 g4
   constructor
   ·have:=Int.mul_le_mul_of_nonneg_right g1 (by omega:0<=q)
    omega
   ·have:=Int.mul_le_mul_of_nonneg_right g2 (by omega:0<=q)
    omega
  obtain ⟨p1,p2⟩:=bd x.1 y.2 a3 a4 b1 b2
  obtain ⟨p3,p4⟩:=bd y.1 x.2 b3 b4 a1 a2
  obtain ⟨p5,p6⟩:=bd x.2 y.2 (by omega) a2 b1 b2
  have w1:IntKind.i64.wrap (x.1*y.2)=x.1*y.2:=wrap64 (by omega) (by omega)
  have w2:IntKind.i64.wrap (y.1*x.2)=y.1*x.2:=wrap64 (by omega) (by omega)
  have w3:IntKind.i64.wrap (x.2*y.2)=x.2*y.2:=wrap64 (by omega) (by omega)
  have w4:IntKind.i64.wrap (x.1*y.2 - y.1*x.2)=x.1*y.2 - y.1*x.2:=wrap64 (by omega) (by omega)
  simp -implicitDefEqProofs only [go_sem]
  refine vzf ?_
  simp -implicitDefEqProofs only [go_sem,rA,w1,w2,w3,w4]
  refine (makeC _ _ ⟨vom,vom⟩ ⟨vom,vom⟩).use ?_
  simp -implicitDefEqProofs only [go_sem,rE,rA]
  refine ⟨_,rfl,?_⟩
  simp only [subR,hv,if_true,rE,rA]
  try rfl
/-- A copy that append has made from an empty literal. -/
def Gc (m:Nat) (σ:AStore) (sz:Nat) (v:AVal) (els:List AVal):Prop:=(els=[]/\v=.data sz true [])\/∃ b,m<=b/\v=.slice b 0 els.length/\σ.get b=some (.cells sz els)
theorem Gc.keep {m:Nat} {σ τ:AStore} {sz:Nat} {v:AVal} {els:List AVal} (h:Gc m σ sz v els) (hk:∀ b x,m<=b->σ.get b=some x->τ.get b=some x):Gc m τ sz v els:=by
 rcases h with h|⟨b,h1,h2,h3⟩
 ·exact .inl h
 ·exact .inr ⟨b,h1,h2,hk b _ h1 h3⟩
theorem Gc.facts {m:Nat} {σ:AStore} {sz:Nat} {v:AVal} {els:List AVal} (h:Gc m σ sz v els):v.cells=[v]/\v.isCell=true/\v.fit=true:=by
 rcases h with ⟨_,rfl⟩|⟨b,_,rfl,_⟩<;>exact ⟨rfl,rfl,rfl⟩
theorem Gc.frz {m:Nat} {σ:AStore} {sz:Nat} {v:AVal} {els:List AVal} (h:Gc m σ sz v els) {n:Nat} {us:List AVal} (hu:mapO (Abs.frz σ n) els=some us):∃ V,Abs.frz σ (n+1) v=some V/\IsD sz V us:=by
 rcases h with ⟨rfl,rfl⟩|⟨b,_,rfl,hg⟩
 ·have:us=[]:=by simpa [mapO] using hu.symm
  subst this
  exact ⟨.data sz true [],rfl,.inr ⟨_,rfl⟩⟩
 ·refine ⟨.data sz false us,?_,.inr ⟨_,rfl⟩⟩
  rw [frz_slice,hg,frzS_cells (by omega)]
  have:(els.drop 0).take els.length=els:=by simp
  rw [this,hu]; rfl
theorem app_lit {sz bytes:Nat} {els:List AVal} {σ:AStore} (h:els.length*bytes<=140737488355328) (h2:bytes≠0):
  ∃ v σ',aAppend sz bytes (.data sz true []) els σ=some (v,σ')/\Gc σ.next σ' sz v els/\KeepS σ σ':=by
 by_cases he:els=[]
 ·subst he
  exact ⟨_,σ,rfl,.inl ⟨rfl,rfl⟩,KeepS.refl _⟩
 ·have hl:¬ els.length=0:=fun h=>he (List.length_eq_zero_iff.1 h)
  refine ⟨.slice σ.next 0 els.length,σ.alloc (.cells sz els),?_,.inr ⟨σ.next,Nat.le_refl _,rfl,by rw [AStore.get_alloc,if_pos rfl]⟩,KeepS.alloc _ _⟩
  simp only [aAppend,aAppend0,hl,if_false,List.length_nil,Nat.zero_add,List.nil_append]
  rw [if_pos ⟨trivial,trivial,h,h2⟩]
theorem copC {w:WD} {s:Stt} {u:AVal} (hu:IsStt s u) (hb1:s.locs.length<=1000000) (hb2:s.vars.length<=1000000):Gives (EE w) 37 [u] (IsStt s):=by
 obtain ⟨L,U,rfl,⟨hL,lL,iL0⟩,⟨hU,lU,iU0⟩⟩:=id hu
 have kL:=hL.fit
 have cL:=hL.cells
 have iL:=hL.isCell
 have kU:=hU.fit
 have cU:=hU.cells
 have iU:=hU.isCell
 have sL:∀ τ,aSrc 1 L τ=some (s.locs.map iA):=fun τ=>hL.src
 have sU:∀ τ,aSrc 1 U τ=some (s.vars.map iA):=fun τ=>hU.src
 refine Gives.of gWF (.cons _ _ hu.wf .nil) 4 ?_
 refine of_37 rfl rfl rfl (by kernel_rfl) ?_
 simp -implicitDefEqProofs only [go_sem,kL,cL,iL,kU,cU,iU]
 have g0:((empty.alloc (.cells 2 [.agg [L,U]])).alloc (.cells 2 [.agg [(.sc (.slice none 0 0)),(.sc (.slice none 0 0))]])).get 0=some (.cells 2 [.agg [L,U]]):=by rw [AStore.get_alloc]; rfl
 have g1:((empty.alloc (.cells 2 [.agg [L,U]])).alloc (.cells 2 [.agg [(.sc (.slice none 0 0)),(.sc (.slice none 0 0))]])).get 1=some (.cells 2 [.agg [(.sc (.slice none 0 0)),(.sc (.slice none 0 0))]]):=by rw [AStore.get_alloc]; rfl
 have hn:((empty.alloc (.cells 2 [.agg [L,U]])).alloc (.cells 2 [.agg [(.sc (.slice none 0 0)),(.sc (.slice none 0 0))]])).next=2:=rfl
 generalize (empty.alloc (.cells 2 [.agg [L,U]])).alloc (.cells 2 [.agg [(.sc (.slice none 0 0)),(.sc (.slice none 0 0))]])=τ at g0 g1 hn ⊢
 obtain ⟨v1,τ1,a1,G1,k1⟩:=app_lit (sz:=1) (bytes:=8) (els:=s.locs.map iA) (σ:=τ) (by rw [List.length_map]; omega) (by decide)
 obtain ⟨v2,τ2,a2,G2,k2⟩:=app_lit (sz:=1) (bytes:=8) (els:=s.vars.map iA) (σ:=τ1) (by rw [List.length_map]; omega) (by decide)
 obtain ⟨c1,i1,f1⟩:=G1.facts
 obtain ⟨c2,i2,f2⟩:=G2.facts
 have g01:=k1.2 _ _ g0
 have g12:=k2.2 _ _ (k1.2 _ _ g1)
 have l1:=AStore.lt_of_get g12
 ((try (refine Z_seq ?_; (try simp -implicitDefEqProofs only [go_sem]))); refine Z_draw (by kernel_rfl) [0,1,2,4,5,6,3,7,8,9] [(9,511),(8,255),(7,127),(3,7),(6,32),(5,0),(4,0),(2,2),(1,0),(0,0)] (by kernel_rfl) (by kernel_rfl) ?_)
 simp -implicitDefEqProofs only [go_sem,kL,cL,iL,kU,cU,iU,g0,g01,g1,g12,sL,sU,a1,a2,c1,i1,f1,c2,i2,f2,l1]
 have hk1:∀ b x,τ.next<=b->τ1.get b=some x->(τ2.set 1 (.cells 2 [.agg [v1,v2]])).get b=some x:=fun b x hb hg=>by rw [AStore.get_set,if_neg (by omega)]; exact k2.2 _ _ hg
 have hk2:∀ b x,τ1.next<=b->τ2.get b=some x->(τ2.set 1 (.cells 2 [.agg [v1,v2]])).get b=some x:=fun b x hb hg=>by have:=k1.1; rw [AStore.get_set,if_neg (by omega)]; exact hg
 obtain ⟨V1,e1,d1⟩:=(G1.keep hk1).frz (n:=2) (mapO_iA _)
 obtain ⟨V2,e2,d2⟩:=(G2.keep hk2).frz (n:=2) (mapO_iA _)
 exact ⟨_,.agg [V1,V2],rfl,by rw [frz_agg,mapO_cons',e1,mapO_cons',e2]; rfl,V1,V2,rfl,⟨d1,lL,iL0⟩,d2,lU,iU0⟩
end Abs
end
