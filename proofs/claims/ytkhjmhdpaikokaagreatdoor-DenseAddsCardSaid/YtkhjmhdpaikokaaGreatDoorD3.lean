/-
  Functions of the program walked: each is shown to compute a plain function (D3).
-/
import Derived.Test.YtkhjmhdpaikokaaGreatDoorRatP
import Derived.Test.YtkhjmhdpaikokaaGreatDoorNB
import Derived.Test.YtkhjmhdpaikokaaGreatDoorAbsTyW
import Derived.Test.YtkhjmhdpaikokaaGreatDoorAbsRow
set_option linter.unusedSimpArgs false
set_option linter.unusedVariables false
set_option maxRecDepth 100000
set_option maxHeartbeats 16000000
set_option linter.unusedSectionVars false
noncomputable section
namespace Abs
open Go Go.Proofs
structure Dn where
 d:Stt
 cl:List (Int×Int)
def IsDn (s:Dn) (v:AVal):Prop:=∃ L U C,v=.agg [L,U,C]/\IsStt s.d (.agg [L,U])/\IsD 2 C (s.cl.map rA)/\s.cl.length<=281474976710656/\∀ x∈s.cl,in64 x.1/\in64 x.2
theorem IsStt.two {s:Stt} {L U:AVal} (h:IsStt s (.agg [L,U])):(IsD 1 L (s.locs.map iA)/\s.locs.length<=281474976710656/\∀ x∈s.locs,in64 x)/\(IsD 1 U (s.vars.map iA)/\s.vars.length<=281474976710656/\∀ x∈s.vars,in64 x):=by
 obtain ⟨L',U',he,h1,h2⟩:=h
 simp only [AVal.agg.injEq,List.cons.injEq,and_true] at he
 obtain ⟨rfl,rfl⟩:=he
 exact ⟨h1,h2⟩
theorem IsDn.wf {s:Dn} {v:AVal} (h:IsDn s v):WF 0 v:=by
 obtain ⟨L,U,C,rfl,h1,h2,_⟩:=h
 obtain ⟨a,b⟩:=h1.two
 exact .agg _ (.cons _ _ (a.1.wf (WFs.map wf_iA)) (.cons _ _ (b.1.wf (WFs.map wf_iA)) (.cons _ _ (h2.wf (WFs.map fun x=>wfR x)) .nil)))
def ckC (x:Int×Int):Bool:=validR x && decide (0<=x.1)
def dckB (n:Nt) (s:Dn):Bool:=(validB n && decide ((s.cl.length:Int)=n.clocks)) && s.cl.all ckC && (checkB n s.d && holdsB (invsB n s.d) s.cl)
theorem valid_cons {n:Nt} (hv:validB n=true) {p:Pr} (hp:p∈n.procs) {y:Lc} (hy:y∈p.locs):∀ c∈y.inv,(1<=c.k/\c.k<=n.clocks)/\0<=c.c/\c.c<=1048576:=by
 simp only [validB,Bool.and_eq_true,List.all_eq_true] at hv
 have h1:=hv.2 p hp
 simp only [prB,Bool.and_eq_true,List.all_eq_true] at h1
 have h2:=h1.1.2 y hy
 simp only [lcB,cnsB,Bool.and_eq_true,decide_eq_true_eq,List.all_eq_true] at h2
 intro c hc
 have h3:=h2.1.2.2 c hc
 simp only [cnB,wiB,ctB,Bool.and_eq_true,decide_eq_true_eq] at h3
 omega
theorem inv_ok {n:Nt} {s:Stt} {cl:List (Int×Int)} (hc:checkB n s=true) (hl:(cl.length:Int)=n.clocks) (hv:∀ x∈cl,validR x=true):HoOk (invsB n s) cl where
 v:=hv
 k:=fun c hcm=>by
  have hvb:validB n=true:=by
   simp only [checkB,Bool.and_eq_true] at hc
   exact hc.1.1.1.1
  unfold invsB at hcm
  rw [List.mem_flatMap] at hcm
  obtain ⟨j,hj,hcj⟩:=hcm
  rw [List.mem_range] at hj
  obtain ⟨m,_,y,hy,hst⟩:=check_loc hc (List.getElem?_eq_getElem hj)
  rw [hst] at hcj
  have:=valid_cons hvb (List.getElem_mem hj) (List.mem_of_getElem? hy) c hcj
  rw [hl]; exact this
theorem inv_len {n:Nt} {s:Stt} (hc:checkB n s=true):(invsB n s).length<=1000000:=by
 have hv:validB n=true:=by
  simp only [checkB,Bool.and_eq_true] at hc
  exact hc.1.1.1.1
 have:=(valid_procs hv).1
 have:=flat_len (stI n s) 16 (stI_len hv s) n.procs.length
 unfold invsB
 omega
theorem sgn_zero (x:Int×Int) (_h:validR x=true):decide (sgn x (0,1) < 0)=decide (x.1 < 0):=by
 unfold sgn
 simp only [Int.mul_one,Int.zero_mul]
 by_cases h:x.1 < 0
 ·simp [h]
 ·rw [if_neg h]
  split<;>simp [h]
theorem inv_cn {n:Nt} {s:Stt} {cl:List (Int×Int)} {S:AVal} (hc:checkB n s=true) (h:IsD 4 S ((invsB n s).map cnA)) (hv:HoOk (invsB n s) cl) (hl:cl.length<=1000000):IsCns (invsB n s) S:=by
 have:=inv_len hc
 exact ⟨h,vom,fun x hx=>by
  obtain ⟨⟨a,b⟩,c,d⟩:=hv.k x hx
  exact ⟨⟨vom,vom⟩,⟨vom,vom⟩⟩⟩
theorem dcheckC {w:WD} {n:Nt} {v u:AVal} {s:Dn} (h:IsNt n v) (hs:NtS n) (hu:IsDn s u):GivesV (EE w) 12 [v,u] (.sc (.int .i64 (if dckB n s then 0 else 2))):=by
 have hwf:=h.wf
 have hwu:=hu.wf
 have hVa:=fun w:WD=>validC (w:=w) h hs
 have hIn:=fun (w:WD) (x:AVal) (hx:IsStt s.d x)=>invarC (w:=w) h hs hx
 obtain ⟨SV,SC,SF,SP,fels,rfl,icl,⟨hV,lv,hvo⟩,⟨hC,lc,hco⟩,hF,hFs,lf,hP⟩:=h
 obtain ⟨L,U,C,rfl,hd,hK,lK,iK0⟩:=hu
 obtain ⟨⟨hL,lL,iL0⟩,⟨hU,lU,iU0⟩⟩:=hd.two
 have hKn:=rs_n hK
 obtain ⟨pels,hP1,hPl,hPat⟩:=hP.at'
 have kV:=hV.fit
 have cV:=hV.cells
 have iV:=hV.isCell
 have kC:=hC.fit
 have cC:=hC.cells
 have iC:=hC.isCell
 have kF:=hF.fit
 have cF:=hF.cells
 have iF:=hF.isCell
 have kP:=hP1.fit
 have cP:=hP1.cells
 have iP:=hP1.isCell
 have kL:=hL.fit
 have cL:=hL.cells
 have iL:=hL.isCell
 have kU:=hU.fit
 have cU:=hU.cells
 have iU:=hU.isCell
 have kK:=hK.fit
 have cK:=hK.cells
 have iK:=hK.isCell
 refine GivesV.of gWF (.cons _ _ hwf (.cons _ _ hwu .nil)) 2 ?_
 have bad:∀ {σ:AStore},dckB n s=false->∃ u,AEnd.ret (.sc (.int .i64 (2)))=AEnd.ret u/\frz σ 2 u=some (.sc (.int .i64 (if dckB n s then 0 else 2))):=fun h=>⟨_,rfl,by rw [h]; rfl⟩
 have good:∀ {σ:AStore},dckB n s=true->∃ u,AEnd.ret (.sc (.int .i64 (0)))=AEnd.ret u/\frz σ 2 u=some (.sc (.int .i64 (if dckB n s then 0 else 2))):=fun h=>⟨_,rfl,by rw [h]; rfl⟩
 have hB:dckB n s=((validB n && decide ((s.cl.length:Int)=n.clocks)) && s.cl.all ckC && (checkB n s.d && holdsB (invsB n s.d) s.cl)):=rfl
 generalize dckB n s=BB at hB bad good ⊢
 refine of_12 rfl rfl rfl (by kernel_rfl) ?_
 simp -implicitDefEqProofs only [go_sem,kV,cV,iV,kC,cC,iC,kF,cF,iF,kP,cP,iP,kL,cL,iL,kU,cU,iU,kK,cK,iK]
 have g0:((empty.alloc (.cells 5 [.agg [(.sc (.int .i64 (n.clocks))),SV,SC,SF,SP]])).alloc (.cells 3 [.agg [L,U,C]])).get 0=some (.cells 5 [.agg [(.sc (.int .i64 (n.clocks))),SV,SC,SF,SP]]):=by rw [AStore.get_alloc]; rfl
 have g1:((empty.alloc (.cells 5 [.agg [(.sc (.int .i64 (n.clocks))),SV,SC,SF,SP]])).alloc (.cells 3 [.agg [L,U,C]])).get 1=some (.cells 3 [.agg [L,U,C]]):=by rw [AStore.get_alloc]; rfl
 have hnx:((empty.alloc (.cells 5 [.agg [(.sc (.int .i64 (n.clocks))),SV,SC,SF,SP]])).alloc (.cells 3 [.agg [L,U,C]])).next=2:=rfl
 generalize (empty.alloc (.cells 5 [.agg [(.sc (.int .i64 (n.clocks))),SV,SC,SF,SP]])).alloc (.cells 3 [.agg [L,U,C]])=τ at g0 g1 hnx ⊢
 refine (hVa _).use ?_
 cases hv:validB n with
 | false=>
  simp only [Bool.false_eq_true,if_false,if_true]
  (repeat' first|refine vw ?_ ?_<;>intro hq|refine vz ?_|simp -implicitDefEqProofs only [go_sem,g0,g1])
  exact bad (by rw [hB,hv]; rfl)
 | true=>
  simp only [if_true]
  by_cases hl:(s.cl.length:Int)=n.clocks
  rotate_left
  ·(repeat' first|refine vw ?_ ?_<;>intro hq|refine vz ?_|simp -implicitDefEqProofs only [go_sem,g0,g1,kK,cK,iK,kV,cV,iV,kC,cC,iC,kF,cF,iF,kP,cP,iP,kL,cL,iL,kU,cU,iU,hKn,dcf hl])
   exact bad (by rw [hB,hv,dcf hl]; rfl)
  rw [hv,dct hl] at hB
  have hcl:=(valid_procs hv).2.2
  (repeat' first|refine vw ?_ ?_<;>intro hq|refine vz ?_|simp -implicitDefEqProofs only [go_sem,g0,g1,kK,cK,iK,kV,cV,iV,kC,cC,iC,kF,cF,iF,kP,cP,iP,kL,cL,iL,kU,cU,iU,hKn,dct hl])
  refine vlp (ι:=Nat) (fun j=>[(2,.ptr 0 0 0),(3,.ptr 1 0 0),(23,C),(24,(.sc (.int .i64 (s.cl.length)))),(25,(.sc (.int .i64 (j))))]) (fun j τ=>j<=s.cl.length/\τ.get 0=some (.cells 5 [.agg [(.sc (.int .i64 (n.clocks))),SV,SC,SF,SP]])/\τ.get 1=some (.cells 3 [.agg [L,U,C]])/\(s.cl.take j).all ckC=true) (fun j=>s.cl.length - j) (fun _=>rfl) 0 ?_ ?_ ?_
  ·exact vsu
  ·exact ⟨Nat.zero_le _,g0,g1,rfl⟩
  clear g0 g1 hnx
  rintro j τ ⟨hj,g0,g1,hall⟩
  simp -implicitDefEqProofs only [go_sem]
  (refine vif ?_ ?_<;>intro hlt)
  ·obtain ⟨x,hx⟩:∃ x,s.cl[j]?=some x:=⟨s.cl[j]'(by omega),by simp⟩
   have hx':(s.cl.map rA)[j]?=some (rA x):=by rw [List.getElem?_map,hx]; rfl
   have hw:=wrapS (i:=j) (by omega)
   have px:(rA x).cells=[(.sc (.int .i64 (x.1))),(.sc (.int .i64 (x.2)))]:=rfl
   have pr:AVal.agg [(.sc (.int .i64 (x.1))),(.sc (.int .i64 (x.2)))]=rA x:=rfl
   obtain ⟨i1,i2⟩:=iK0 x (List.mem_of_getElem? hx)
   have hwh:=wholePC (w:=⟨w.w,[]⟩) 0
   have hcm:=cmpC (w:=⟨w.w,[]⟩) x (0,1) i1 i2 ⟨by decide,by decide⟩ ⟨by decide,by decide⟩
   have hall1:(s.cl.take (j+1)).all ckC=ckC x:=by rw [List.take_add_one,hx,List.all_append,hall]; simp
   have hbad:ckC x=false->BB=false:=fun hc=>by
    rw [hB]
    have:s.cl.all ckC=false:=by
     rw [List.all_eq_false]; exact ⟨x,List.mem_of_getElem? hx,by rw [hc]; decide⟩
    rw [this]; rfl
   have hval:validR (0,1)=true:=by decide
   have hcx:cmpR x (0,1)=if validR x=true then (sgn x (0,1),0) else (0,2):=by unfold cmpR; rw [hval,Bool.and_true]
   rw [hcx] at hcm
   (repeat' first|refine vw ?_ ?_<;>intro hq|refine vz ?_|simp -implicitDefEqProofs only [go_sem,hK.idx hx',px])
   have hk2:∀ a b,KeepS τ ((τ.alloc a).set τ.next b):=fun a b=>(KeepS.alloc τ a).set (Nat.le_refl _) b
   have k0:=(hk2 (.cells 2 [.agg [(.sc (.int .i64 (0))),(.sc (.int .i64 (0)))]]) (.cells 2 [.agg [(.sc (.int .i64 (x.1))),(.sc (.int .i64 (x.2)))]])).2 _ _ g0
   have k1:=(hk2 (.cells 2 [.agg [(.sc (.int .i64 (0))),(.sc (.int .i64 (0)))]]) (.cells 2 [.agg [(.sc (.int .i64 (x.1))),(.sc (.int .i64 (x.2)))]])).2 _ _ g1
   have gx:((τ.alloc (.cells 2 [.agg [(.sc (.int .i64 (0))),(.sc (.int .i64 (0)))]])).set τ.next (.cells 2 [.agg [(.sc (.int .i64 (x.1))),(.sc (.int .i64 (x.2)))]])).get τ.next=some (.cells 2 [.agg [(.sc (.int .i64 (x.1))),(.sc (.int .i64 (x.2)))]]):=gss (by rw [alloc_next]; omega)
   generalize (τ.alloc (.cells 2 [.agg [(.sc (.int .i64 (0))),(.sc (.int .i64 (0)))]])).set τ.next (.cells 2 [.agg [(.sc (.int .i64 (x.1))),(.sc (.int .i64 (x.2)))]])=τ1 at k0 k1 gx ⊢
   ((try (refine Z_seq ?_; (try simp -implicitDefEqProofs only [go_sem]))); refine Z_draw (by kernel_rfl) [0,1,2,3,4,5,6,7] [(7,127),(6,31),(5,15),(4,15),(3,7),(2,3),(1,0),(0,0)] (by kernel_rfl) (by kernel_rfl) ?_)
   simp -implicitDefEqProofs only [go_sem,gx,px,pr]
   refine hwh.useD ?_
   simp -implicitDefEqProofs only [go_sem,gx,px,pr]
   refine hcm.useD ?_
   cases hvx:validR x with
   | false=>
    simp only [Bool.false_eq_true,if_false]
    simp -implicitDefEqProofs only [go_sem]
    (repeat' first|refine vw ?_ ?_<;>intro hq|refine vz ?_|simp -implicitDefEqProofs only [go_sem])
    exact bad (hbad (by unfold ckC; rw [hvx]; rfl))
   | true=>
    simp only [if_true]
    have hsz:=sgn_zero x hvx
    by_cases hn:x.1 < 0
    ·rw [dct hn] at hsz
     simp -implicitDefEqProofs only [go_sem,hsz]
     (repeat' first|refine vw ?_ ?_<;>intro hq|refine vz ?_|simp -implicitDefEqProofs only [go_sem,hsz])
     exact bad (hbad (by unfold ckC; rw [hvx,dcf (show ¬ 0<=x.1 by omega)]; rfl))
    ·rw [dcf hn] at hsz
     simp -implicitDefEqProofs only [go_sem,hsz]
     (repeat' first|refine vw ?_ ?_<;>intro hq|refine vz ?_|simp -implicitDefEqProofs only [go_sem,hsz,hw])
     exact ⟨j+1,vom,⟨by omega,k0,k1,by rw [hall1]; unfold ckC; rw [hvx,dct (show 0<=x.1 by omega)]; rfl⟩,vsu⟩
  ·obtain rfl:j=s.cl.length:=by omega
   rw [List.take_length] at hall
   rw [hall] at hB
   (repeat' first|refine vw ?_ ?_<;>intro hq|refine vz ?_|simp -implicitDefEqProofs only [go_sem,g0,g1,kK,cK,iK,kV,cV,iV,kC,cC,iC,kF,cF,iF,kP,cP,iP,kL,cL,iL,kU,cU,iU])
   refine (hIn _ _ hd).use ?_
   rintro r (⟨hc,rfl⟩|⟨hc,S,rfl,hS⟩)
   ·(repeat' first|refine vw ?_ ?_<;>intro hq|refine vz ?_|simp -implicitDefEqProofs only [go_sem])
    exact bad (by rw [hB,hc]; rfl)
   ·have ho:=inv_ok hc hl fun x hx=>by
     rw [List.all_eq_true] at hall
     have:=hall x hx
     unfold ckC at this
     rw [Bool.and_eq_true] at this
     exact this.1
    have hIs:=inv_cn hc hS ho (by omega)
    have kS:=hS.fit
    have cS:=hS.cells
    have iS:=hS.isCell
    (repeat' first|refine vw ?_ ?_<;>intro hq|refine vz ?_|simp -implicitDefEqProofs only [go_sem,g0,g1,kK,cK,iK,kV,cV,iV,kC,cC,iC,kF,cF,iF,kP,cP,iP,kL,cL,iL,kU,cU,iU,kS,cS,iS])
    refine (holdsC hIs hK (inv_len hc) ho).use ?_
    cases hh:holdsB (invsB n s.d) s.cl with
    | true=>
     (repeat' first|refine vw ?_ ?_<;>intro hq|refine vz ?_|simp -implicitDefEqProofs only [go_sem])
     exact good (by rw [hB,hc,hh]; rfl)
    | false=>
     (repeat' first|refine vw ?_ ?_<;>intro hq|refine vz ?_|simp -implicitDefEqProofs only [go_sem])
     exact bad (by rw [hB,hc,hh]; rfl)
/-- A slice that a function has made itself, or nil; its block is not below 'm'. -/
def Gw (m:Nat) (σ:AStore) (sz:Nat) (v:AVal) (els:List AVal):Prop:=(els=[]/\v=(.sc (.slice none 0 0)))\/∃ b,m<=b/\v=.slice b 0 els.length/\σ.get b=some (.cells sz els)
theorem Gw.nil {m:Nat} {σ:AStore} {sz:Nat}:Gw m σ sz (.sc (.slice none 0 0)) []:=.inl ⟨rfl,rfl⟩
theorem Gw.keep {m:Nat} {σ τ:AStore} {sz:Nat} {v:AVal} {els:List AVal} (h:Gw m σ sz v els) (hk:∀ b x,m<=b->σ.get b=some x->τ.get b=some x):Gw m τ sz v els:=by
 rcases h with h|⟨b,h1,h2,h3⟩
 ·exact .inl h
 ·exact .inr ⟨b,h1,h2,hk b _ h1 h3⟩
theorem Gw.facts {m:Nat} {σ:AStore} {sz:Nat} {v:AVal} {els:List AVal} (h:Gw m σ sz v els):v.cells=[v]/\v.isCell=true/\v.fit=true:=by
 rcases h with ⟨_,rfl⟩|⟨b,_,rfl,_⟩<;>exact ⟨rfl,rfl,rfl⟩
theorem Gw.add {m:Nat} {σ:AStore} {sz:Nat} {v:AVal} {els:List AVal} (h:Gw m σ sz v els) (bytes:Nat) (x:AVal) (hm:m<=σ.next) (hb:(els.length+1)*bytes<=140737488355328) (h1:sz≠0) (h2:bytes≠0) (hc:allCells [x]=true):
  ∃ σ',aAppend sz bytes v [x] σ=some (.slice σ.next 0 (els.length+1),σ')/\Gw m σ' sz (.slice σ.next 0 (els.length+1)) (els++[x])/\σ'.next=σ.next+1/\(∀ b z,b < m->σ.get b=some z->σ'.get b=some z):=by
 rcases h with ⟨rfl,rfl⟩|⟨b,hmb,rfl,hg⟩
 ·refine ⟨σ.alloc (.cells sz [x]),?_,.inr ⟨σ.next,vom,rfl,?_⟩,rfl,?_⟩
  ·exact app_nil (by simp) (by simpa using hb) h1 h2
  ·rw [AStore.get_alloc,if_pos rfl]; rfl
  ·intro b z _ hz; exact get_alloc_old hz
 ·have kp:∀ b' z,σ.get b'=some z->b'≠b->((σ.del b).alloc (.cells sz (els++[x]))).get b'=some z:=by
   intro b' z hz hne
   refine get_alloc_old ?_
   rw [AStore.get_del,if_neg (fun hc=>hne hc)]
   exact hz
  refine ⟨(σ.del b).alloc (.cells sz (els++[x])),?_,.inr ⟨σ.next,vom,by simp,?_⟩,rfl,?_⟩
  ·rw [app_full hg (by simp) hb h1 h2 hc]; rfl
  ·have:(σ.del b).next=σ.next:=rfl
   rw [AStore.get_alloc,this,if_pos rfl]
  ·intro b' z hb' hz; exact kp b' z hz (by omega)
theorem mapO_iA {σ:AStore} {n:Nat} (l:List Int):mapO (Abs.frz σ (n+1)) (l.map iA)=some (l.map iA):=mapO_frz (fun x=>by simp only [iA,frz_sc]) l
theorem IsD.frzI {σ:AStore} {L:AVal} {l:List Int} (h:IsD 1 L (l.map iA)) {N:Nat}:Abs.frz σ (N+2) L=some L:=by
 rcases h with ⟨_,a,c,rfl⟩|⟨t,rfl⟩
 ·rfl
 ·rw [frz_data,mapO_iA]; rfl
theorem mapO_rA {σ:AStore} {n:Nat} (l:List (Int×Int)):mapO (Abs.frz σ (n+2)) (l.map rA)=some (l.map rA):=mapO_frz (fun x=>by simp only [rA,frz_agg,mapO_cons',mapO_nil',frz_sc,consM_some,frzA_some]) l
theorem sameClkC {w:WD} {A B:AVal} {cl:List (Int×Int)} (hA:IsD 2 A (cl.map rA)) (hB:IsD 2 B (cl.map rA)) (hl:cl.length<=281474976710656):GivesV (EE w) 24 [A,B] (.sc (.bool (true))):=by
 have hAn:=rs_n hA
 have hBn:=rs_n hB
 refine GivesV.of gWF (.cons _ _ (hA.wf (WFs.map fun x=>wfR x)) (.cons _ _ (hB.wf (WFs.map fun x=>wfR x)) .nil)) 1 ?_
 refine of_24 rfl rfl rfl (by kernel_rfl) ?_
 (repeat' first|refine vw ?_ ?_<;>intro hq|refine vz ?_|simp -implicitDefEqProofs only [go_sem,hAn,hBn])
 refine vlp (ι:=Nat) (fun j=>[(0,A),(1,B),(5,(.sc (.int .i64 (j))))]) (fun j _=>j<=cl.length) (fun j=>cl.length - j) (fun _=>rfl) 0 ?_ ?_ ?_
 ·exact vsu
 ·exact Nat.zero_le _
 rintro j τ hj
 simp -implicitDefEqProofs only [go_sem,hAn]
 (refine vif ?_ ?_<;>intro hlt)
 ·obtain ⟨x,hx⟩:∃ x,cl[j]?=some x:=⟨cl[j]'(by omega),List.getElem?_eq_getElem _⟩
  have e1:(cl.map rA)[j]?=some (rA x):=by rw [List.getElem?_map,hx]; rfl
  have px:(rA x).cells=[(.sc (.int .i64 (x.1))),(.sc (.int .i64 (x.2)))]:=rfl
  have hw:=wrapS (i:=j) (by omega)
  (repeat' first|refine vw ?_ ?_<;>intro hq|refine vz ?_|simp -implicitDefEqProofs only [go_sem])
  ((try (refine Z_seq ?_; (try simp -implicitDefEqProofs only [go_sem]))); refine Z_draw (by kernel_rfl) [0,1,2,3,4,5,6,7,8] [(8,255),(7,112),(6,48),(5,0),(4,0),(3,7),(2,3),(1,0),(0,0)] (by kernel_rfl) (by kernel_rfl) ?_)
  have hne:∀ (τ:AStore) (cst:Bool),opBin (EE ⟨w.w,[]⟩) τ .neq 45 cst (some (.agg [(.sc (.int .i64 (x.1))),(.sc (.int .i64 (x.2)))])) (some (.agg [(.sc (.int .i64 (x.1))),(.sc (.int .i64 (x.2)))]))=.val (.sc (.bool false)) τ:=fun τ cst=>opBin_neA (ks:=[true,true]) (by kernel_rfl) (b:=true) (by simp [eqL])
  simp -implicitDefEqProofs only [go_sem,hA.idx e1,hB.idx e1,px,hne]
  (repeat' first|refine vw ?_ ?_<;>intro hq|refine vz ?_|simp -implicitDefEqProofs only [go_sem,hw])
  exact ⟨j+1,vom,vom,vsu⟩
 ·(repeat' first|refine vw ?_ ?_<;>intro hq|refine vz ?_|simp -implicitDefEqProofs only [go_sem])
  exact ⟨_,rfl,rfl⟩
theorem sameDisC {w:WD} {A B:AVal} {s:Stt} (hA:IsStt s A) (hB:IsStt s B):GivesV (EE w) 30 [A,B] (.sc (.bool (true))):=by
 have hwA:=hA.wf
 have hwB:=hB.wf
 obtain ⟨L,U,rfl,⟨hL,lL,iL0⟩,⟨hU,lU,iU0⟩⟩:=hA
 obtain ⟨L',U',rfl,⟨hL',_,_⟩,⟨hU',_,_⟩⟩:=hB
 have hLn:∀ σ:AStore,aLen (.slice 0) L σ=some (.sc (.int .i64 (s.locs.length))):=fun σ=>by have:=hL.len (σ:=σ); rwa [List.length_map] at this
 have hUn:∀ σ:AStore,aLen (.slice 0) U σ=some (.sc (.int .i64 (s.vars.length))):=fun σ=>by have:=hU.len (σ:=σ); rwa [List.length_map] at this
 have hLn':∀ σ:AStore,aLen (.slice 0) L' σ=some (.sc (.int .i64 (s.locs.length))):=fun σ=>by have:=hL'.len (σ:=σ); rwa [List.length_map] at this
 have hUn':∀ σ:AStore,aLen (.slice 0) U' σ=some (.sc (.int .i64 (s.vars.length))):=fun σ=>by have:=hU'.len (σ:=σ); rwa [List.length_map] at this
 have kL:=hL.fit
 have cL:=hL.cells
 have iL:=hL.isCell
 have kU:=hU.fit
 have cU:=hU.cells
 have iU:=hU.isCell
 have kM:=hL'.fit
 have cM:=hL'.cells
 have iM:=hL'.isCell
 have kW:=hU'.fit
 have cW:=hU'.cells
 have iW:=hU'.isCell
 refine GivesV.of gWF (.cons _ _ hwA (.cons _ _ hwB .nil)) 1 ?_
 refine of_30 rfl rfl rfl (by kernel_rfl) ?_
 simp -implicitDefEqProofs only [go_sem,kL,cL,iL,kU,cU,iU,kM,cM,iM,kW,cW,iW]
 have g0:((empty.alloc (.cells 2 [.agg [L,U]])).alloc (.cells 2 [.agg [L',U']])).get 0=some (.cells 2 [.agg [L,U]]):=by kernel_rfl
 have g1:((empty.alloc (.cells 2 [.agg [L,U]])).alloc (.cells 2 [.agg [L',U']])).get 1=some (.cells 2 [.agg [L',U']]):=by kernel_rfl
 generalize (empty.alloc (.cells 2 [.agg [L,U]])).alloc (.cells 2 [.agg [L',U']])=τ at g0 g1 ⊢
 (repeat' first|refine vw ?_ ?_<;>intro hq|refine vz ?_|simp -implicitDefEqProofs only [go_sem,g0,g1,kL,cL,iL,kU,cU,iU,kM,cM,iM,kW,cW,iW,hLn,hUn,hLn',hUn'])
 refine vlp (ι:=Nat) (fun j=>[(2,.ptr 0 0 0),(3,.ptr 1 0 0),(5,(.sc (.int .i64 (j))))]) (fun j ρ=>j<=s.locs.length/\ρ=τ) (fun j=>s.locs.length - j) (fun _=>rfl) 0 ?_ ?_ ?_
 ·exact vsu
 ·exact ⟨Nat.zero_le _,rfl⟩
 rintro j ρ ⟨hj,rfl⟩
 simp -implicitDefEqProofs only [go_sem,g0,kL,cL,iL,kU,cU,iU,hLn]
 (refine vif ?_ ?_<;>intro hlt)
 ·obtain ⟨x,hx⟩:∃ x,s.locs[j]?=some x:=⟨s.locs[j]'(by omega),List.getElem?_eq_getElem _⟩
  have e1:(s.locs.map iA)[j]?=some (iA x):=by rw [List.getElem?_map,hx]; rfl
  have hw:=wrapS (i:=j) (by omega)
  (repeat' first|refine vw ?_ ?_<;>intro hq|refine vz ?_|simp -implicitDefEqProofs only [go_sem])
  ((try (refine Z_seq ?_; (try simp -implicitDefEqProofs only [go_sem]))); refine Z_draw (by kernel_rfl) [0,1,2,3,4,5,6,7,8,9,10] [(10,1023),(9,480),(8,224),(7,0),(6,32),(5,0),(4,15),(3,7),(2,0),(1,1),(0,0)] (by kernel_rfl) (by kernel_rfl) ?_)
  simp -implicitDefEqProofs only [go_sem,g0,g1,kL,cL,iL,kU,cU,iU,kM,cM,iM,kW,cW,iW,hL.idx e1,hL'.idx e1,iA]
  (repeat' first|refine vw ?_ ?_<;>intro hq|refine vz ?_|simp -implicitDefEqProofs only [go_sem,hw])
  exact ⟨j+1,vom,⟨vom,rfl⟩,vsu⟩
 (repeat' first|refine vw ?_ ?_<;>intro hq|refine vz ?_|simp -implicitDefEqProofs only [go_sem])
 refine vlp (ι:=Nat) (fun j=>[(2,.ptr 0 0 0),(3,.ptr 1 0 0),(6,(.sc (.int .i64 (j))))]) (fun j τ=>j<=s.vars.length/\τ=ρ) (fun j=>s.vars.length - j) (fun _=>rfl) 0 ?_ ?_ ?_
 ·exact vsu
 ·exact ⟨Nat.zero_le _,rfl⟩
 rintro j τ ⟨hj,rfl⟩
 simp -implicitDefEqProofs only [go_sem,g0,kL,cL,iL,kU,cU,iU,hUn]
 (refine vif ?_ ?_<;>intro hlt)
 ·obtain ⟨x,hx⟩:∃ x,s.vars[j]?=some x:=⟨s.vars[j]'(by omega),List.getElem?_eq_getElem _⟩
  have e1:(s.vars.map iA)[j]?=some (iA x):=by rw [List.getElem?_map,hx]; rfl
  have hw:=wrapS (i:=j) (by omega)
  (repeat' first|refine vw ?_ ?_<;>intro hq|refine vz ?_|simp -implicitDefEqProofs only [go_sem])
  ((try (refine Z_seq ?_; (try simp -implicitDefEqProofs only [go_sem]))); refine Z_draw (by kernel_rfl) [0,1,2,3,4,5,6,7,8,9,10] [(10,1023),(9,480),(8,224),(7,0),(6,32),(5,0),(4,15),(3,7),(2,0),(1,1),(0,0)] (by kernel_rfl) (by kernel_rfl) ?_)
  simp -implicitDefEqProofs only [go_sem,g0,g1,kL,cL,iL,kU,cU,iU,kM,cM,iM,kW,cW,iW,hU.idx e1,hU'.idx e1,iA]
  (repeat' first|refine vw ?_ ?_<;>intro hq|refine vz ?_|simp -implicitDefEqProofs only [go_sem,hw])
  exact ⟨j+1,vom,⟨vom,rfl⟩,vsu⟩
 ·(repeat' first|refine vw ?_ ?_<;>intro hq|refine vz ?_|simp -implicitDefEqProofs only [go_sem])
  exact ⟨_,rfl,rfl⟩
theorem sameDnC {w:WD} {A B:AVal} {s:Dn} (hA:IsDn s A) (hB:IsDn s B):GivesV (EE w) 11 [A,B] (.sc (.bool (true))):=by
 have hwA:=hA.wf
 have hwB:=hB.wf
 obtain ⟨L,U,C,rfl,hd,hK,lK,_⟩:=hA
 obtain ⟨L',U',C',rfl,hd',hK',_,_⟩:=hB
 obtain ⟨⟨hL,_⟩,⟨hU,_⟩⟩:=hd.two
 obtain ⟨⟨hL',_⟩,⟨hU',_⟩⟩:=hd'.two
 have kL:=hL.fit
 have cL:=hL.cells
 have iL:=hL.isCell
 have kU:=hU.fit
 have cU:=hU.cells
 have iU:=hU.isCell
 have kM:=hL'.fit
 have cM:=hL'.cells
 have iM:=hL'.isCell
 have kW:=hU'.fit
 have cW:=hU'.cells
 have iW:=hU'.isCell
 have kK:=hK.fit
 have cK:=hK.cells
 have iK:=hK.isCell
 have kJ:=hK'.fit
 have cJ:=hK'.cells
 have iJ:=hK'.isCell
 refine GivesV.of gWF (.cons _ _ hwA (.cons _ _ hwB .nil)) 1 ?_
 refine of_11 rfl rfl rfl (by kernel_rfl) ?_
 simp -implicitDefEqProofs only [go_sem,kL,cL,iL,kU,cU,iU,kM,cM,iM,kW,cW,iW,kK,cK,iK,kJ,cJ,iJ]
 refine (sameDisC hd hd').use ?_
 (repeat' first|refine vw ?_ ?_<;>intro hq|refine vz ?_|simp -implicitDefEqProofs only [go_sem,kL,cL,iL,kU,cU,iU,kM,cM,iM,kW,cW,iW,kK,cK,iK,kJ,cJ,iJ])
 refine (sameClkC hK hK' lK).use ?_
 (repeat' first|refine vw ?_ ?_<;>intro hq|refine vz ?_|simp -implicitDefEqProofs only [go_sem])
 exact ⟨_,rfl,rfl⟩
def largeD (s:Dn):Bool:=decide ((20:Int) < s.d.locs.length) || (decide ((20:Int) < s.d.vars.length) || decide ((40:Int) < s.cl.length))
theorem largeDC {w:WD} {v:AVal} {s:Dn} (hA:IsDn s v):GivesV (EE w) 7 [v] (.sc (.bool (largeD s))):=by
 have hwA:=hA.wf
 obtain ⟨L,U,C,rfl,hd,hK,lK,_⟩:=hA
 obtain ⟨⟨hL,_⟩,⟨hU,_⟩⟩:=hd.two
 have hLn:∀ σ:AStore,aLen (.slice 0) L σ=some (.sc (.int .i64 (s.d.locs.length))):=fun σ=>by have:=hL.len (σ:=σ); rwa [List.length_map] at this
 have hUn:∀ σ:AStore,aLen (.slice 0) U σ=some (.sc (.int .i64 (s.d.vars.length))):=fun σ=>by have:=hU.len (σ:=σ); rwa [List.length_map] at this
 have hKn:=rs_n hK
 have kL:=hL.fit
 have cL:=hL.cells
 have iL:=hL.isCell
 have kU:=hU.fit
 have cU:=hU.cells
 have iU:=hU.isCell
 have kK:=hK.fit
 have cK:=hK.cells
 have iK:=hK.isCell
 refine GivesV.of gWF (.cons _ _ hwA .nil) 1 ?_
 refine of_7 rfl rfl rfl (by kernel_rfl) ?_
 simp -implicitDefEqProofs only [go_sem,kL,cL,iL,kU,cU,iU,kK,cK,iK,hLn,hUn,hKn]
 (repeat' first|refine vw ?_ ?_<;>intro hq|refine vz ?_|simp -implicitDefEqProofs only [go_sem,kL,cL,iL,kU,cU,iU,kK,cK,iK,hLn,hUn,hKn])
 all_goals (refine ret_bool ?_; unfold largeD; first|(rw [Bool.eq_iff_iff]; simp only [Bool.or_eq_true,Bool.and_eq_true,Bool.not_eq_true',decide_eq_true_eq,decide_eq_false_iff_not,Bool.true_eq_false,Bool.false_eq_true,iff_true,true_iff,iff_false,false_iff]; omega)|(simp_all; done))
theorem shEx:shape Tryz.prog 66=.struct [3,9,2,64]:=by kernel_rfl
theorem shExs:shape Tryz.prog 64=.slice 66 4 true:=by kernel_rfl
theorem shSs:shape Tryz.prog 100=.slice 9 1 false:=by kernel_rfl
theorem shFcs:shape Tryz.prog 24=.slice 151 3 true:=by kernel_rfl
theorem shFc:shape Tryz.prog 151=.struct [9,100,149]:=by kernel_rfl
theorem shSts:shape Tryz.prog 149=.slice 155 8 true:=by kernel_rfl
theorem shSt:shape Tryz.prog 155=.struct [3,9,66,149,149]:=by kernel_rfl
theorem shI:shape Tryz.prog 3=.int .i64:=by kernel_rfl
theorem shI64:shape Tryz.prog 2=.int .i64:=by kernel_rfl
theorem shS:shape Tryz.prog 9=.str:=by kernel_rfl
theorem shB:shape Tryz.prog 4=.bool:=by kernel_rfl
theorem byEx:Tryz.prog.bytesOf 66=56:=by kernel_rfl
theorem byS:Tryz.prog.bytesOf 9=16:=by kernel_rfl
theorem bySt:Tryz.prog.bytesOf 155=128:=by kernel_rfl
theorem byFc:Tryz.prog.bytesOf 151=64:=by kernel_rfl
theorem tw_int {P:Program} {n t:Nat} {vs:List AVal} (hs:shape P t=.int .i64) (h:HasTyW P n t vs):∃ m,in64 m/\vs=[(.sc (.int .i64 (m)))]:=by
 cases n with
 | zero=>exact h.elim
 | succ n=>
  unfold HasTyW at h
  rw [hs] at h
  obtain ⟨m,hw,h⟩:=h
  refine ⟨m,?_,h⟩
  have:(Lit.int .i64 m).wf=true:=hw
  simp [Lit.wf,IntKind.min,IntKind.max,IntKind.signed,IntKind.bits] at this
  exact ⟨vom,vom⟩
theorem tw_str {P:Program} {n t:Nat} {vs:List AVal} (hs:shape P t=.str) (h:HasTyW P n t vs):∃ s:ByteArray,s.size<=281474976710656/\vs=[.sc (.string s)]:=by
 cases n with
 | zero=>exact h.elim
 | succ n=>
  unfold HasTyW at h
  rw [hs] at h
  obtain ⟨s,hw,h⟩:=h
  exact ⟨s,vom,h⟩
theorem tw_struct {P:Program} {n t:Nat} {ts:List TypeId} {vs:List AVal} (hs:shape P t=.struct ts) (h:HasTyW P (n+1) t vs):HasL (HasTyW P n) P ts vs:=by
 unfold HasTyW at h
 rw [hs] at h
 exact h
/-- A slice that came in. -/
theorem tw_slice {P:Program} {n t e c by':Nat} {agg:Bool} {vs:List AVal} (hs:shape P t=.slice e c agg) (hb:P.bytesOf e=by') (h0:0 < by') (h:HasTyW P (n+1) t vs):
  ∃ (S:AVal) (els:List AVal),vs=[S]/\IsD c S els/\els.length<=281474976710656/\∀ x∈els,HasTyW P n e x.cells/\x.cells.length=c/\x.isAgg=agg:=by
 unfold HasTyW at h
 rw [hs] at h
 rcases h with h|⟨a,c,h⟩|⟨els,_,_,hlen,h,hels⟩
 ·exact ⟨_,[],h,.inl ⟨rfl,_,_,rfl⟩,by simp,by simp⟩
 ·exact ⟨_,[],h,.inl ⟨rfl,_,_,rfl⟩,by simp,by simp⟩
 ·rw [hb] at hlen
  exact ⟨_,els,h,.inr ⟨_,rfl⟩,by have:=Nat.le_mul_of_pos_right els.length h0; omega,hels⟩
theorem names_of {n:Nat} {els:List AVal} (h:∀ x∈els,HasTyW Tryz.prog n 9 x.cells/\x.cells.length=1/\x.isAgg=false):∃ g:List ByteArray,els=g.map sA/\∀ s∈g,s.size<=281474976710656:=by
 induction els with
 | nil=>exact ⟨[],rfl,by simp⟩
 | cons x els ih=>
  obtain ⟨g,rfl,hg⟩:=ih fun y hy=>h y (by simp [hy])
  obtain ⟨h1,_,h2⟩:=h x (by simp)
  obtain ⟨s,hs,he⟩:=tw_str shS h1
  have:=one_of h2 he
  subst this
  exact ⟨s::g,rfl,by intro t ht; rcases List.mem_cons.1 ht with rfl|ht; exact hs; exact hg t ht⟩
theorem is_names {n:Nat} {vs:List AVal} (h:HasTyW Tryz.prog n 100 vs):∃ (S:AVal) (g:List ByteArray),vs=[S]/\IsD 1 S (g.map sA)/\g.length<=281474976710656/\∀ s∈g,s.size<=281474976710656:=by
 cases n with
 | zero=>exact h.elim
 | succ n=>
  obtain ⟨S,els,h1,h2,h3,h4⟩:=tw_slice shSs byS (by decide) h
  obtain ⟨g,rfl,hg⟩:=names_of h4
  exact ⟨S,g,h1,h2,by rw [List.length_map] at h3; exact h3,hg⟩
theorem is_ex (n:Nat):(∀ vs,HasTyW Tryz.prog n 66 vs->∃ x,IsEx x (.agg vs))/\(∀ vs,HasTyW Tryz.prog n 64 vs->∃ S els xs,vs=[S]/\IsD 4 S els/\IsExs xs els/\els.length<=281474976710656):=by
 induction n with
 | zero=>exact ⟨fun vs h=>h.elim,fun vs h=>h.elim⟩
 | succ n ih=>
  constructor
  ·intro vs h
   obtain ⟨a1,r1,rfl,_,h1,a2,r2,rfl,_,h2,a3,r3,rfl,_,h3,a4,r4,rfl,_,h4,h5⟩:=tw_struct shEx h
   have h5:r4=[]:=h5
   subst h5
   obtain ⟨k,hk,rfl⟩:=tw_int shI h1
   obtain ⟨s,hs,rfl⟩:=tw_str shS h2
   obtain ⟨i,hi,rfl⟩:=tw_int shI64 h3
   obtain ⟨S,els,xs,rfl,hS,hx,hl⟩:=ih.2 _ h4
   refine ⟨.mk k s i xs,?_⟩
   simp only [IsEx]
   exact ⟨S,els,rfl,hS,hx,hk,hi,hs,hl⟩
  ·intro vs h
   obtain ⟨S,els,h1,h2,h3,h4⟩:=tw_slice shExs byEx (by decide) h
   have key:∃ xs,IsExs xs els:=by
    clear h2 h3
    induction els with
    | nil=>exact ⟨[],rfl⟩
    | cons x els ih2=>
     obtain ⟨xs,hxs⟩:=ih2 fun y hy=>h4 y (by simp [hy])
     obtain ⟨g1,_,g2⟩:=h4 x (by simp)
     obtain ⟨y,hy⟩:=ih.1 _ g1
     rw [<-agg_of g2 rfl] at hy
     exact ⟨y::xs,x,els,rfl,hy,hxs⟩
   obtain ⟨xs,hxs⟩:=key
   exact ⟨S,els,xs,h1,h2,hxs,h3⟩
theorem is_st (n:Nat):(∀ vs,HasTyW Tryz.prog n 155 vs->∃ x,IsSt x (.agg vs))/\(∀ vs,HasTyW Tryz.prog n 149 vs->∃ S els xs,vs=[S]/\IsD 8 S els/\IsSts xs els/\els.length<=281474976710656):=by
 induction n with
 | zero=>exact ⟨fun vs h=>h.elim,fun vs h=>h.elim⟩
 | succ n ih=>
  constructor
  ·intro vs h
   obtain ⟨a1,r1,rfl,_,h1,a2,r2,rfl,_,h2,a3,r3,rfl,_,h3,a4,r4,rfl,_,h4,a5,r5,rfl,_,h5,h6⟩:=tw_struct shSt h
   have h6:r5=[]:=h6
   subst h6
   obtain ⟨k,hk,rfl⟩:=tw_int shI h1
   obtain ⟨s,hs,rfl⟩:=tw_str shS h2
   obtain ⟨x,hx⟩:=(is_ex n).1 _ h3
   obtain ⟨SB,eb,xb,rfl,hB,hb,hlb⟩:=ih.2 _ h4
   obtain ⟨SE,ee,xe,rfl,hE,he,hle⟩:=ih.2 _ h5
   obtain ⟨ek,en,ei,ez⟩:=x
   simp only [IsEx] at hx
   obtain ⟨SA,ea,hv,hA,ha,hk2,hi2,hn2,hl2⟩:=hx
   injection hv with hv
   subst hv
   refine ⟨.mk k s (.mk ek en ei ez) xb xe,?_⟩
   simp only [IsSt]
   exact ⟨SA,SB,SE,ea,eb,ee,rfl,hA,ha,hB,hb,hE,he,hk,hk2,hi2,hs,hn2,hl2,hlb,hle⟩
  ·intro vs h
   obtain ⟨S,els,h1,h2,h3,h4⟩:=tw_slice shSts bySt (by decide) h
   have key:∃ xs,IsSts xs els:=by
    clear h2 h3
    induction els with
    | nil=>exact ⟨[],rfl⟩
    | cons x els ih2=>
     obtain ⟨xs,hxs⟩:=ih2 fun y hy=>h4 y (by simp [hy])
     obtain ⟨g1,_,g2⟩:=h4 x (by simp)
     obtain ⟨y,hy⟩:=ih.1 _ g1
     rw [<-agg_of g2 rfl] at hy
     exact ⟨y::xs,x,els,rfl,hy,hxs⟩
   obtain ⟨xs,hxs⟩:=key
   exact ⟨S,els,xs,h1,h2,hxs,h3⟩
theorem is_fc {n:Nat} {vs:List AVal} (h:HasTyW Tryz.prog (n+1) 151 vs):∃ f,IsFc f (.agg vs):=by
 obtain ⟨a1,r1,rfl,_,h1,a2,r2,rfl,_,h2,a3,r3,rfl,_,h3,h4⟩:=tw_struct shFc h
 have h4:r3=[]:=h4
 subst h4
 obtain ⟨s,hs,rfl⟩:=tw_str shS h1
 obtain ⟨SP,ps,rfl,hP,hlp,hsp⟩:=is_names h2
 obtain ⟨SB,eb,xb,rfl,hB,hb,hlb⟩:=(is_st n).2 _ h3
 exact ⟨⟨s,ps,xb⟩,SP,SB,eb,rfl,hP,hB,hb,hs,hsp,hlp,hlb⟩
theorem is_fcs {n:Nat} {vs:List AVal} (h:HasTyW Tryz.prog n 24 vs):∃ (S:AVal) (els:List AVal) (fs:List Fc),vs=[S]/\IsD 3 S els/\IsFcs fs els/\els.length<=281474976710656:=by
 cases n with
 | zero=>exact h.elim
 | succ n=>
  obtain ⟨S,els,h1,h2,h3,h4⟩:=tw_slice shFcs byFc (by decide) h
  have key:∃ fs,IsFcs fs els:=by
   clear h2 h3
   induction els with
   | nil=>exact ⟨[],rfl,fun j f h=>by simp at h⟩
   | cons x els ih2=>
    obtain ⟨xs,hxs⟩:=ih2 fun y hy=>h4 y (by simp [hy])
    obtain ⟨g1,_,g2⟩:=h4 x (by simp)
    cases n with
    | zero=>exact g1.elim
    | succ n=>
     obtain ⟨y,hy⟩:=is_fc g1
     rw [<-agg_of g2 rfl] at hy
     refine ⟨y::xs,by simp [hxs.len],fun j f hj=>?_⟩
     cases j with
     | zero=>simp at hj; subst hj; exact ⟨x,rfl,hy⟩
     | succ j=>simpa using hxs.at' j f (by simpa using hj)
  obtain ⟨fs,hfs⟩:=key
  exact ⟨S,els,fs,h1,h2,hfs,h3⟩
theorem shCn:shape Tryz.prog 94=.struct [3,4,4,2]:=by kernel_rfl
theorem shCns:shape Tryz.prog 61=.slice 94 4 true:=by kernel_rfl
theorem shRt:shape Tryz.prog 97=.struct [3,2]:=by kernel_rfl
theorem shRts:shape Tryz.prog 68=.slice 97 2 true:=by kernel_rfl
theorem shSg:shape Tryz.prog 73=.struct [3,66]:=by kernel_rfl
theorem shSgs:shape Tryz.prog 67=.slice 73 5 true:=by kernel_rfl
theorem shLc:shape Tryz.prog 63=.struct [3,61,2]:=by kernel_rfl
theorem shLcs:shape Tryz.prog 57=.slice 63 3 true:=by kernel_rfl
theorem shEg:shape Tryz.prog 70=.struct [3,3,61,66,3,4,67,68,2,3]:=by kernel_rfl
theorem shEgs:shape Tryz.prog 58=.slice 70 13 true:=by kernel_rfl
theorem shPr:shape Tryz.prog 60=.struct [3,57,58]:=by kernel_rfl
theorem shPrs:shape Tryz.prog 25=.slice 60 3 true:=by kernel_rfl
theorem shVr:shape Tryz.prog 108=.struct [9,2,2,2]:=by kernel_rfl
theorem shVrs:shape Tryz.prog 22=.slice 108 4 true:=by kernel_rfl
theorem shCh:shape Tryz.prog 160=.struct [9,4,4]:=by kernel_rfl
theorem shChs:shape Tryz.prog 23=.slice 160 3 true:=by kernel_rfl
theorem shNt:shape Tryz.prog 27=.struct [3,22,23,24,25]:=by kernel_rfl
theorem shIs:shape Tryz.prog 28=.slice 3 1 false:=by kernel_rfl
theorem shI64s:shape Tryz.prog 29=.slice 2 1 false:=by kernel_rfl
theorem shStt:shape Tryz.prog 31=.struct [28,29]:=by kernel_rfl
theorem byCn:Tryz.prog.bytesOf 94=24:=by kernel_rfl
theorem byRt:Tryz.prog.bytesOf 97=16:=by kernel_rfl
theorem bySg:Tryz.prog.bytesOf 73=64:=by kernel_rfl
theorem byLc:Tryz.prog.bytesOf 63=40:=by kernel_rfl
theorem byEg:Tryz.prog.bytesOf 70=176:=by kernel_rfl
theorem byPr:Tryz.prog.bytesOf 60=56:=by kernel_rfl
theorem byVr:Tryz.prog.bytesOf 108=40:=by kernel_rfl
theorem byCh:Tryz.prog.bytesOf 160=24:=by kernel_rfl
theorem byI:Tryz.prog.bytesOf 3=8:=by kernel_rfl
theorem byI64:Tryz.prog.bytesOf 2=8:=by kernel_rfl
theorem tw_bool {P:Program} {n t:Nat} {vs:List AVal} (hs:shape P t=.bool) (h:HasTyW P n t vs):∃ b,vs=[(.sc (.bool (b)))]:=by
 cases n with
 | zero=>exact h.elim
 | succ n=>
  unfold HasTyW at h
  rw [hs] at h
  exact h
/-- Elements of one kind, as a list of plain data. -/
theorem els_map {α:Type} {f:α->AVal} {ok:α->Prop} {els:List AVal} (h:∀ x∈els,∃ y,x=f y/\ok y):∃ l:List α,els=l.map f/\∀ y∈l,ok y:=by
 induction els with
 | nil=>exact ⟨[],rfl,by simp⟩
 | cons x els ih=>
  obtain ⟨l,rfl,hl⟩:=ih fun y hy=>h y (by simp [hy])
  obtain ⟨y,rfl,hy⟩:=h x (by simp)
  exact ⟨y::l,rfl,by intro t ht; rcases List.mem_cons.1 ht with rfl|ht; exact hy; exact hl t ht⟩
theorem els_rel {α:Type} {R:α->AVal->Prop} {els:List AVal} (h:∀ x∈els,∃ y,R y x):∃ l:List α,els.length=l.length/\∀ (j:Nat) y,l[j]?=some y->∃ e,els[j]?=some e/\R y e:=by
 induction els with
 | nil=>exact ⟨[],rfl,fun j y hy=>by simp at hy⟩
 | cons x els ih=>
  obtain ⟨l,hll,hl⟩:=ih fun y hy=>h y (by simp [hy])
  obtain ⟨y,hy⟩:=h x (by simp)
  refine ⟨y::l,by simp [hll],fun j z hz=>?_⟩
  cases j with
  | zero=>simp at hz; subst hz; exact ⟨x,rfl,hy⟩
  | succ j=>simpa using hl j z (by simpa using hz)
theorem tw_list {n t e c by':Nat} {vs:List AVal} {α:Type} {R:α->AVal->Prop} (hs:shape Tryz.prog t=.slice e c true) (hb:Tryz.prog.bytesOf e=by') (h0:0 < by') (hR:∀ n xs,HasTyW Tryz.prog n e xs->∃ y,R y (.agg xs)) (h:HasTyW Tryz.prog n t vs):
  ∃ (S:AVal) (l:List α),vs=[S]/\IsL c R l S:=by
 cases n with
 | zero=>exact h.elim
 | succ n=>
  obtain ⟨S,els,h1,h2,h3,h4⟩:=tw_slice hs hb h0 h
  obtain ⟨l,hl1,hl2⟩:=els_rel (R:=R) (els:=els) fun x hx=>by
   obtain ⟨g1,_,g2⟩:=h4 x hx
   obtain ⟨y,hy⟩:=hR _ _ g1
   rw [<-agg_of g2 rfl] at hy
   exact ⟨y,hy⟩
  exact ⟨S,l,h1,els,h2,hl1,vom,hl2⟩
theorem tw_flat {n t e c by':Nat} {vs:List AVal} {α:Type} {f:α->AVal} {ok:α->Prop} (hs:shape Tryz.prog t=.slice e c true) (hb:Tryz.prog.bytesOf e=by') (h0:0 < by') (hR:∀ n xs,HasTyW Tryz.prog n e xs->∃ y,AVal.agg xs=f y/\ok y) (h:HasTyW Tryz.prog n t vs):
  ∃ (S:AVal) (l:List α),vs=[S]/\IsD c S (l.map f)/\l.length<=281474976710656/\∀ y∈l,ok y:=by
 cases n with
 | zero=>exact h.elim
 | succ n=>
  obtain ⟨S,els,h1,h2,h3,h4⟩:=tw_slice hs hb h0 h
  obtain ⟨l,rfl,hl2⟩:=els_map (f:=f) (ok:=ok) (els:=els) fun x hx=>by
   obtain ⟨g1,_,g2⟩:=h4 x hx
   obtain ⟨y,hy,hok⟩:=hR _ _ g1
   rw [<-agg_of g2 rfl] at hy
   exact ⟨y,hy,hok⟩
  exact ⟨S,l,h1,h2,by rw [List.length_map] at h3; exact h3,hl2⟩
theorem tw_ints {n t e by':Nat} {vs:List AVal} (hs:shape Tryz.prog t=.slice e 1 false) (he:shape Tryz.prog e=.int .i64) (hb:Tryz.prog.bytesOf e=by') (h0:0 < by') (h:HasTyW Tryz.prog n t vs):
  ∃ (S:AVal) (l:List Int),vs=[S]/\IsD 1 S (l.map iA)/\l.length<=281474976710656/\∀ y∈l,in64 y:=by
 cases n with
 | zero=>exact h.elim
 | succ n=>
  obtain ⟨S,els,h1,h2,h3,h4⟩:=tw_slice hs hb h0 h
  obtain ⟨l,rfl,hl2⟩:=els_map (f:=iA) (ok:=in64) (els:=els) fun x hx=>by
   obtain ⟨g1,_,g2⟩:=h4 x hx
   obtain ⟨m,hm,he⟩:=tw_int he g1
   exact ⟨m,one_of g2 he,hm⟩
  exact ⟨S,l,h1,h2,by rw [List.length_map] at h3; exact h3,hl2⟩
theorem is_cn (n:Nat) (xs:List AVal) (h:HasTyW Tryz.prog n 94 xs):∃ y,AVal.agg xs=cnA y/\cnOk y:=by
 cases n with
 | zero=>exact h.elim
 | succ n=>
  obtain ⟨a1,r1,rfl,_,h1,a2,r2,rfl,_,h2,a3,r3,rfl,_,h3,a4,r4,rfl,_,h4,h5⟩:=tw_struct shCn h
  have h5:r4=[]:=h5
  subst h5
  obtain ⟨k,hk,rfl⟩:=tw_int shI h1
  obtain ⟨b,rfl⟩:=tw_bool shB h2
  obtain ⟨d,rfl⟩:=tw_bool shB h3
  obtain ⟨c,hc,rfl⟩:=tw_int shI64 h4
  exact ⟨⟨k,b,d,c⟩,rfl,hk,hc⟩
theorem is_rt (n:Nat) (xs:List AVal) (h:HasTyW Tryz.prog n 97 xs):∃ y,AVal.agg xs=rtA y/\rtOk y:=by
 cases n with
 | zero=>exact h.elim
 | succ n=>
  obtain ⟨a1,r1,rfl,_,h1,a2,r2,rfl,_,h2,h5⟩:=tw_struct shRt h
  have h5:r2=[]:=h5
  subst h5
  obtain ⟨k,hk,rfl⟩:=tw_int shI h1
  obtain ⟨c,hc,rfl⟩:=tw_int shI64 h2
  exact ⟨⟨k,c⟩,rfl,hk,hc⟩
theorem is_vr (n:Nat) (xs:List AVal) (h:HasTyW Tryz.prog n 108 xs):∃ y,AVal.agg xs=vrA y/\vrOk y:=by
 cases n with
 | zero=>exact h.elim
 | succ n=>
  obtain ⟨a1,r1,rfl,_,h1,a2,r2,rfl,_,h2,a3,r3,rfl,_,h3,a4,r4,rfl,_,h4,h5⟩:=tw_struct shVr h
  have h5:r4=[]:=h5
  subst h5
  obtain ⟨s,hs,rfl⟩:=tw_str shS h1
  obtain ⟨b,hb,rfl⟩:=tw_int shI64 h2
  obtain ⟨d,hd,rfl⟩:=tw_int shI64 h3
  obtain ⟨c,hc,rfl⟩:=tw_int shI64 h4
  exact ⟨⟨s,b,d,c⟩,rfl,hs,hb,hd,hc⟩
theorem is_ch (n:Nat) (xs:List AVal) (h:HasTyW Tryz.prog n 160 xs):∃ y,AVal.agg xs=chA y/\y.nm.size<=281474976710656:=by
 cases n with
 | zero=>exact h.elim
 | succ n=>
  obtain ⟨a1,r1,rfl,_,h1,a2,r2,rfl,_,h2,a3,r3,rfl,_,h3,h5⟩:=tw_struct shCh h
  have h5:r3=[]:=h5
  subst h5
  obtain ⟨s,hs,rfl⟩:=tw_str shS h1
  obtain ⟨b,rfl⟩:=tw_bool shB h2
  obtain ⟨d,rfl⟩:=tw_bool shB h3
  exact ⟨⟨s,b,d⟩,rfl,hs⟩
theorem is_cns {n:Nat} {vs:List AVal} (h:HasTyW Tryz.prog n 61 vs):∃ (S:AVal) (l:List Cn),vs=[S]/\IsCns l S:=by
 obtain ⟨S,l,h1,h2,h3,h4⟩:=tw_flat shCns byCn (by decide) is_cn h
 exact ⟨S,l,h1,h2,h3,h4⟩
theorem is_rts {n:Nat} {vs:List AVal} (h:HasTyW Tryz.prog n 68 vs):∃ (S:AVal) (l:List Rt),vs=[S]/\IsRts l S:=by
 obtain ⟨S,l,h1,h2,h3,h4⟩:=tw_flat shRts byRt (by decide) is_rt h
 exact ⟨S,l,h1,h2,h3,h4⟩
theorem is_sg (n:Nat) (xs:List AVal) (h:HasTyW Tryz.prog n 73 xs):∃ y,IsSg y (.agg xs):=by
 cases n with
 | zero=>exact h.elim
 | succ n=>
  obtain ⟨a1,r1,rfl,_,h1,a2,r2,rfl,_,h2,h5⟩:=tw_struct shSg h
  have h5:r2=[]:=h5
  subst h5
  obtain ⟨k,hk,rfl⟩:=tw_int shI h1
  obtain ⟨x,hx⟩:=(is_ex n).1 _ h2
  exact ⟨⟨k,x⟩,a2,by simp,hx,hk⟩
theorem is_lc (n:Nat) (xs:List AVal) (h:HasTyW Tryz.prog n 63 xs):∃ y,IsLc y (.agg xs):=by
 cases n with
 | zero=>exact h.elim
 | succ n=>
  obtain ⟨a1,r1,rfl,_,h1,a2,r2,rfl,_,h2,a3,r3,rfl,_,h3,h5⟩:=tw_struct shLc h
  have h5:r3=[]:=h5
  subst h5
  obtain ⟨k,hk,rfl⟩:=tw_int shI h1
  obtain ⟨S,l,rfl,hS⟩:=is_cns h2
  obtain ⟨c,hc,rfl⟩:=tw_int shI64 h3
  exact ⟨⟨k,l,c⟩,S,rfl,hS,hk,hc⟩
theorem is_eg (n:Nat) (xs:List AVal) (h:HasTyW Tryz.prog n 70 xs):∃ y,IsEg y (.agg xs):=by
 cases n with
 | zero=>exact h.elim
 | succ n=>
  obtain ⟨a1,r1,rfl,_,h1,a2,r2,rfl,_,h2,a3,r3,rfl,_,h3,a4,r4,rfl,l4,h4,a5,r5,rfl,_,h5,a6,r6,rfl,_,h6,a7,r7,rfl,_,h7,a8,r8,rfl,_,h8,a9,r9,rfl,_,h9,a10,r10,rfl,_,h10,h11⟩:=tw_struct shEg h
  have h11:r10=[]:=h11
  subst h11
  obtain ⟨fr,i1,rfl⟩:=tw_int shI h1
  obtain ⟨to,i2,rfl⟩:=tw_int shI h2
  obtain ⟨G,gd,rfl,hG⟩:=is_cns h3
  obtain ⟨x,hx⟩:=(is_ex n).1 _ h4
  obtain ⟨ch,i3,rfl⟩:=tw_int shI h5
  obtain ⟨snd,rfl⟩:=tw_bool shB h6
  obtain ⟨SS,ss,rfl,hSS⟩:=tw_list shSgs bySg (by decide) is_sg h7
  obtain ⟨SR,rs,rfl,hSR⟩:=is_rts h8
  obtain ⟨cost,i4,rfl⟩:=tw_int shI64 h9
  obtain ⟨kind,i5,rfl⟩:=tw_int shI h10
  have hx0:=hx
  obtain ⟨ek,en,ei,ez⟩:=x
  simp only [IsEx] at hx
  obtain ⟨SA,ea,hv,hA,ha,hk2,hi2,hn2,hl2⟩:=hx
  injection hv with hv
  subst hv
  exact ⟨⟨fr,to,gd,.mk ek en ei ez,ch,snd,ss,rs,cost,kind⟩,G,_,_,_,_,SS,SR,rfl,hG,hx0,hSS,hSR,i1,i2,i3,i4,i5⟩
theorem is_pr (n:Nat) (xs:List AVal) (h:HasTyW Tryz.prog n 60 xs):∃ y,IsPr y (.agg xs):=by
 cases n with
 | zero=>exact h.elim
 | succ n=>
  obtain ⟨a1,r1,rfl,_,h1,a2,r2,rfl,_,h2,a3,r3,rfl,_,h3,h5⟩:=tw_struct shPr h
  have h5:r3=[]:=h5
  subst h5
  obtain ⟨k,hk,rfl⟩:=tw_int shI h1
  obtain ⟨SL,ll,rfl,hL⟩:=tw_list shLcs byLc (by decide) is_lc h2
  obtain ⟨SE,le,rfl,hE⟩:=tw_list shEgs byEg (by decide) is_eg h3
  exact ⟨⟨k,ll,le⟩,SL,SE,rfl,hL,hE,hk⟩
theorem is_nt {n:Nat} {xs:List AVal} (h:HasTyW Tryz.prog n 27 xs):∃ y,IsNt y (.agg xs):=by
 cases n with
 | zero=>exact h.elim
 | succ n=>
  obtain ⟨a1,r1,rfl,_,h1,a2,r2,rfl,_,h2,a3,r3,rfl,_,h3,a4,r4,rfl,_,h4,a5,r5,rfl,_,h5,h6⟩:=tw_struct shNt h
  have h6:r5=[]:=h6
  subst h6
  obtain ⟨k,hk,rfl⟩:=tw_int shI h1
  obtain ⟨SV,lv,rfl,hV⟩:=tw_flat shVrs byVr (by decide) is_vr h2
  obtain ⟨SC,lc,rfl,hC⟩:=tw_flat shChs byCh (by decide) is_ch h3
  obtain ⟨SF,fels,fs,rfl,hF,hFs,hlf⟩:=is_fcs h4
  obtain ⟨SP,lp,rfl,hP⟩:=tw_list shPrs byPr (by decide) is_pr h5
  exact ⟨⟨k,lv,lc,fs,lp⟩,SV,SC,SF,SP,fels,rfl,hk,hV,hC,hF,hFs,hlf,hP⟩
theorem is_stt {n:Nat} {xs:List AVal} (h:HasTyW Tryz.prog n 31 xs):∃ y,IsStt y (.agg xs):=by
 cases n with
 | zero=>exact h.elim
 | succ n=>
  obtain ⟨a1,r1,rfl,_,h1,a2,r2,rfl,_,h2,h6⟩:=tw_struct shStt h
  have h6:r2=[]:=h6
  subst h6
  obtain ⟨S1,l1,rfl,hL⟩:=tw_ints shIs shI byI (by decide) h1
  obtain ⟨S2,l2,rfl,hV⟩:=tw_ints shI64s shI64 byI64 (by decide) h2
  exact ⟨⟨l1,l2⟩,S1,S2,rfl,hL,hV⟩
theorem shRa:shape Tryz.prog 45=.struct [2,2]:=by kernel_rfl
theorem shRas:shape Tryz.prog 32=.slice 45 2 true:=by kernel_rfl
theorem byRa:Tryz.prog.bytesOf 45=16:=by kernel_rfl
theorem shDn:shape Tryz.prog 34=.struct [31,32]:=by kernel_rfl
theorem is_ra (n:Nat) (xs:List AVal) (h:HasTyW Tryz.prog n 45 xs):∃ y,AVal.agg xs=rA y/\(in64 y.1/\in64 y.2):=by
 cases n with
 | zero=>exact h.elim
 | succ n=>
  obtain ⟨a1,r1,rfl,_,h1,a2,r2,rfl,_,h2,h5⟩:=tw_struct shRa h
  have h5:r2=[]:=h5
  subst h5
  obtain ⟨k,hk,rfl⟩:=tw_int shI64 h1
  obtain ⟨c,hc,rfl⟩:=tw_int shI64 h2
  exact ⟨(k,c),rfl,hk,hc⟩
theorem is_dn {n:Nat} {xs:List AVal} (h:HasTyW Tryz.prog n 34 xs):∃ y,IsDn y (.agg xs):=by
 cases n with
 | zero=>exact h.elim
 | succ n=>
  obtain ⟨a1,r1,rfl,_,h1,a2,r2,rfl,_,h2,h6⟩:=tw_struct shDn h
  have h6:r2=[]:=h6
  subst h6
  obtain ⟨s,hs⟩:=is_stt h1
  obtain ⟨S,l,rfl,hS,hl,ho⟩:=tw_flat shRas byRa (by decide) is_ra h2
  have hs':=hs
  obtain ⟨L,U,he,_,_⟩:=hs'
  simp only [AVal.agg.injEq] at he
  subst he
  exact ⟨⟨s,l⟩,L,U,S,rfl,hs,hS,hl,ho⟩
theorem EE_ofG (w:World):EE ⟨w,[]⟩=Env.ofG Tryz.prog GG w:=rfl
end Abs
end
