/-
  Functions of the program walked: each is shown to compute a plain function (T31).
-/
import Derived.Test.YtdbkkindfakbfaaGreatT25
import Derived.Test.YtdbkkindfakbfaaGreatU1
set_option linter.unusedSimpArgs false
set_option linter.unusedVariables false
set_option maxRecDepth 100000
set_option maxHeartbeats 16000000
noncomputable section
namespace Abs
open Go Go.Proofs
structure IsSc (g o:List ByteArray) (l:List Fc) (s:AVal):Prop where
 ex:∃ G O F els,s=.agg [G,O,F]/\IsD 1 G (g.map sA)/\IsD 1 O (o.map sA)/\IsD 3 F els/\IsFcs l els/\g.length<=281474976710656/\o.length<=281474976710656/\els.length<=281474976710656
theorem fcOf_at {l:List Fc} {i:Nat} {f:Fc} {nm:ByteArray} (h:l[i]?=some f) (h0:fcOf (l.take i) nm=none):fcOf (l.take (i+1)) nm=if f.nm=nm then some f else none:=by
 obtain ⟨hj,he⟩:=List.getElem?_eq_some_iff.1 h
 rw [List.take_succ_eq_append_getElem hj,he,fcOf_snoc,h0]
theorem fcOf_more {l:List Fc} {i:Nat} {f:Fc} {nm:ByteArray} (h:fcOf (l.take i) nm=some f):fcOf l nm=some f:=by
 unfold fcOf at h ⊢
 rw [<-List.take_append_drop i l,List.find?_append,h]; rfl
theorem expRStep {k i:Int} {nm:ByteArray} {xs:List Ex} {w:WD} {v s:AVal} {g o:List ByteArray} {l:List Fc} (h:IsEx (.mk k nm i xs) v) (hs:IsSc g o l s)
  (rec:∀ y∈xs,∀ (w:WD) (v:AVal),IsEx y v->GivesV (EE w) 60 [s,v] (.sc (.int .i64 (expE g o l y)))):
  GivesV (EE w) 60 [s,v] (.sc (.int .i64 (expE g o l (.mk k nm i xs)))):=by
 have hwf:=h.wf
 simp only [IsEx] at h
 obtain ⟨S,els,rfl,hS,hx,hk,hi,hn,hl⟩:=h
 have hlen:=hx.len
 have hSn:=fun σ:AStore=>hS.lenN hlen (σ:=σ)
 have kS:=hS.fit
 have cS:=hS.cells
 have iS:=hS.isCell
 obtain ⟨G,O,F,fels,rfl,hG,hO,hF,hFs,lg,lo,lf⟩:=hs
 have kG:=hG.fit
 have cG:=hG.cells
 have iG:=hG.isCell
 have kO:=hO.fit
 have cO:=hO.cells
 have iO:=hO.isCell
 have kF:=hF.fit
 have cF:=hF.cells
 have iF:=hF.isCell
 have hFn:∀ σ:AStore,aLen (.slice 0) F σ=some (.sc (.int .i64 (l.length))):=fun σ=>hF.lenN hFs.len
 have hsw:WF 0 (.agg [G,O,F]):=.agg _ (.cons _ _ (hG.wf (wf_sA _)) (.cons _ _ (hO.wf (wf_sA _)) (.cons _ _ (hF.wf hFs.wf) .nil)))
 refine GivesV.of (fun _=>.sc _) (.cons _ _ hsw (.cons _ _ hwf .nil)) 1 ?_
 refine of_60 rfl rfl rfl (by kernel_rfl) ?_
 simp -implicitDefEqProofs only [go_sem,kS,cS,iS,kG,cG,iG,kO,cO,iO,kF,cF,iF]
 have g0:((empty.alloc (.cells 3 [.agg [G,O,F]])).alloc (.cells 4 [.agg [(.sc (.int .i64 (k))),.sc (.string nm),(.sc (.int .i64 (i))),S]])).get 0=some (.cells 3 [.agg [G,O,F]]):=get_alloc_old (by rw [AStore.get_alloc]; rfl)
 have g1:((empty.alloc (.cells 3 [.agg [G,O,F]])).alloc (.cells 4 [.agg [(.sc (.int .i64 (k))),.sc (.string nm),(.sc (.int .i64 (i))),S]])).get 1=some (.cells 4 [.agg [(.sc (.int .i64 (k))),.sc (.string nm),(.sc (.int .i64 (i))),S]]):=by rw [AStore.get_alloc]; rfl
 generalize (empty.alloc (.cells 3 [.agg [G,O,F]])).alloc (.cells 4 [.agg [(.sc (.int .i64 (k))),.sc (.string nm),(.sc (.int .i64 (i))),S]])=τ at g0 g1 ⊢
 refine vlp (ι:=Nat) (fun j=>[(2,.ptr 0 0 0),(3,.ptr 1 0 0),(5,(.sc (.int .i64 (j))))]) (fun j τ=>j<=xs.length/\τ.get 0=some (.cells 3 [.agg [G,O,F]])/\τ.get 1=some (.cells 4 [.agg [(.sc (.int .i64 (k))),.sc (.string nm),(.sc (.int .i64 (i))),S]])/\expEs g o l (xs.take j)=0) (fun j=>xs.length - j) (fun _=>rfl) 0 ?_ ?_ ?_
 ·exact vsu
 ·exact ⟨Nat.zero_le _,g0,g1,rfl⟩
 clear g0 g1
 rintro j τ ⟨hj,g0,g1,h0⟩
 simp -implicitDefEqProofs only [go_sem,g1,hSn]
 (refine vif ?_ ?_<;>intro hlt)
 ·obtain ⟨x,hx1⟩:∃ x,xs[j]?=some x:=⟨xs[j]'(by omega),by simp⟩
  obtain ⟨e,he,hxe⟩:=hx.at hx1
  obtain ⟨c1,c2,c3⟩:=hxe.isA.facts
  have hw:=wrapS (i:=j) (by omega)
  (repeat' first|refine vw ?_ ?_<;>intro hq|refine vz ?_|simp -implicitDefEqProofs only [go_sem])
  ((try (refine Z_seq ?_; (try simp -implicitDefEqProofs only [go_sem]))); refine Z_draw (by kernel_rfl) [0,1,2,3,4,5,6,7] [(7,127),(6,63),(5,30),(4,14),(3,0),(2,2),(1,0),(0,0)] (by kernel_rfl) (by kernel_rfl) ?_)
  simp -implicitDefEqProofs only [go_sem,g0,g1,hS.idx he,c1,c2,c3,kG,cG,iG,kO,cO,iO,kF,cF,iF]
  refine (rec x (List.mem_of_getElem? hx1) _ e hxe).useD ?_
  simp -implicitDefEqProofs only [go_sem]
  by_cases hz:expE g o l x=0
  ·(repeat' first|refine vw ?_ ?_<;>intro hq|refine vz ?_|simp -implicitDefEqProofs only [go_sem,dct hz,hw])
   exact ⟨j+1,vom,⟨vom,g0,g1,expEs_take hx1 h0 hz⟩,vsu⟩
  ·(repeat' first|refine vw ?_ ?_<;>intro hq|refine vz ?_|simp -implicitDefEqProofs only [go_sem,dcf hz])
   exact ret_int (by rw [expE_mk,expEs_eq hx1 h0 hz,if_neg hz])
 ·obtain rfl:j=xs.length:=by omega
  rw [List.take_length] at h0
  rw [expE_mk,if_pos h0]
  by_cases k2:k=2
  ·rw [if_pos k2]
   simp -implicitDefEqProofs only [go_sem,g0,g1,dct k2,kG,cG,iG,kO,cO,iO,kF,cF,iF]
   (repeat' first|refine vw ?_ ?_<;>intro hq|refine vz ?_|simp -implicitDefEqProofs only [go_sem,g0,g1,dct k2,kG,cG,iG,kO,cO,iO,kF,cF,iF])
   refine (inC hG (by omega) nm).use ?_
   by_cases m1:nm∈g
   ·rw [dct m1]
    (repeat' first|refine vw ?_ ?_<;>intro hq|refine vz ?_|simp -implicitDefEqProofs only [go_sem,g0,g1,dct k2])
    all_goals exact ret_int (by rw [if_pos (.inl m1)])
   ·rw [dcf m1]
    (repeat' first|refine vw ?_ ?_<;>intro hq|refine vz ?_|simp -implicitDefEqProofs only [go_sem,g0,g1,dct k2,kG,cG,iG,kO,cO,iO,kF,cF,iF])
    refine (inC hO (by omega) nm).use ?_
    by_cases m2:nm∈o
    ·rw [dct m2]
     (repeat' first|refine vw ?_ ?_<;>intro hq|refine vz ?_|simp -implicitDefEqProofs only [go_sem,g0,g1,dct k2])
     all_goals exact ret_int (by rw [if_pos (.inr m2)])
    ·rw [dcf m2]
     (repeat' first|refine vw ?_ ?_<;>intro hq|refine vz ?_|simp -implicitDefEqProofs only [go_sem,g0,g1,dct k2])
     all_goals exact ret_int (by rw [if_neg (fun h=>h.elim m1 m2)])
  ·rw [if_neg k2]
   by_cases k3:k=19
   ·rw [if_pos k3]
    simp -implicitDefEqProofs only [go_sem,g0,g1,dcf k2,dct k3]
    (repeat' first|refine vw ?_ ?_<;>intro hq|refine vz ?_|simp -implicitDefEqProofs only [go_sem,g0,g1,dcf k2,dct k3,kG,cG,iG,kO,cO,iO,kF,cF,iF,hFn])
    refine vlp (ι:=Nat) (fun i=>[(2,.ptr 0 0 0),(3,.ptr 1 0 0),(7,(.sc (.int .i64 (i))))]) (fun i' τ=>i'<=l.length/\τ.get 0=some (.cells 3 [.agg [G,O,F]])/\τ.get 1=some (.cells 4 [.agg [(.sc (.int .i64 (k))),.sc (.string nm),(.sc (.int .i64 (i))),S]])/\fcOf (l.take i') nm=none) (fun i=>l.length - i) (fun _=>rfl) 0 ?_ ?_ ?_
    ·exact vsu
    ·exact ⟨Nat.zero_le _,g0,g1,rfl⟩
    clear g0 g1
    rintro i' τ' ⟨hi',g0,g1,hn0⟩
    simp -implicitDefEqProofs only [go_sem,g0,hFn,kG,cG,iG,kO,cO,iO,kF,cF,iF]
    (refine vif ?_ ?_<;>intro hilt)
    ·obtain ⟨f,hf⟩:∃ f,l[i']?=some f:=⟨l[i']'(by omega),by simp⟩
     obtain ⟨e,he,hfe⟩:=hFs.at' i' f hf
     obtain ⟨SP,SB,eb,rfl,hP,hB,hb',y1,y2,y3,y4⟩:=hfe
     have hPn:∀ σ:AStore,aLen (.slice 0) SP σ=some (.sc (.int .i64 (f.ps.length))):=fun σ=>by have:=hP.len (σ:=σ); rwa [List.length_map] at this
     have hw:=wrapS (i:=i') (by have:=hFs.len; omega)
     have hft:=fcOf_at hf hn0
     (repeat' first|refine vw ?_ ?_<;>intro hq|refine vz ?_|simp -implicitDefEqProofs only [go_sem])
     ((try (refine Z_seq ?_; (try simp -implicitDefEqProofs only [go_sem]))); refine Z_draw (by kernel_rfl) [0,1,2,3,4,5,6,7,8] [(8,255),(7,64),(6,0),(5,31),(4,15),(3,7),(2,0),(1,1),(0,0)] (by kernel_rfl) (by kernel_rfl) ?_)
     simp -implicitDefEqProofs only [go_sem,g0,g1,hF.idx he,kG,cG,iG,kO,cO,iO,kF,cF,iF,ba_list]
     by_cases hnm:f.nm=nm
     ·rw [if_pos hnm] at hft
      have hfo:=fcOf_more hft
      (try simp -implicitDefEqProofs only [go_sem,dct hnm])
      refine vzt ?_
      simp -implicitDefEqProofs only [go_sem]
      refine Z_seq ?_
      simp -implicitDefEqProofs only [go_sem]
      ((try (refine Z_seq ?_; (try simp -implicitDefEqProofs only [go_sem]))); refine Z_draw (by kernel_rfl) [0,1,2,3,4,5,6,7,8,9,10] [(10,1023),(9,384),(8,128),(7,0),(6,63),(5,31),(4,15),(3,7),(2,0),(1,1),(0,0)] (by kernel_rfl) (by kernel_rfl) ?_)
      by_cases hps:f.ps.length=xs.length
      ·have hps':(f.ps.length:Int)=(xs.length:Int):=by omega
       simp -implicitDefEqProofs only [go_sem,g0,g1,hF.idx he,kG,cG,iG,kO,cO,iO,kF,cF,iF,hPn,hSn,dct hps']
       (repeat' first|refine vw ?_ ?_<;>intro hq|refine vz ?_|simp -implicitDefEqProofs only [go_sem,dct hps'])
       all_goals exact ret_int (by rw [hfo]; simp only []; rw [if_pos hps])
      ·have hps':¬ (f.ps.length:Int)=(xs.length:Int):=by omega
       simp -implicitDefEqProofs only [go_sem,g0,g1,hF.idx he,kG,cG,iG,kO,cO,iO,kF,cF,iF,hPn,hSn,dcf hps']
       (repeat' first|refine vw ?_ ?_<;>intro hq|refine vz ?_|simp -implicitDefEqProofs only [go_sem,dcf hps'])
       all_goals exact ret_int (by rw [hfo]; simp only []; rw [if_neg hps])
     ·rw [if_neg hnm] at hft
      (try simp -implicitDefEqProofs only [go_sem,dcf hnm])
      refine vzf ?_
      (repeat' first|refine vw ?_ ?_<;>intro hq|refine vz ?_|simp -implicitDefEqProofs only [go_sem,hw])
      exact ⟨i'+1,vom,⟨vom,g0,g1,hft⟩,vsu⟩
    ·obtain rfl:i'=l.length:=by omega
     rw [List.take_length] at hn0
     (repeat' first|refine vw ?_ ?_<;>intro hq|refine vz ?_|simp -implicitDefEqProofs only [go_sem])
     exact ret_int (by rw [hn0])
   ·rw [if_neg k3]
    simp -implicitDefEqProofs only [go_sem,g0,g1,dcf k2]
    (repeat' first|refine vw ?_ ?_<;>intro hq|refine vz ?_|simp -implicitDefEqProofs only [go_sem,g0,g1,dcf k2,dcf k3])
    all_goals exact ret_int rfl
theorem expRC:∀ {x:Ex} {w:WD} {v s:AVal} {g o:List ByteArray} {l:List Fc},IsEx x v->IsSc g o l s->GivesV (EE w) 60 [s,v] (.sc (.int .i64 (expE g o l x)))
 | .mk _ _ _ xs,_,_,_,_,_,_,h,hs=>expRStep h hs fun y hy _ _ h'=>expRC (x:=y) h' hs
termination_by x=>sizeOf x
decreasing_by have:=List.sizeOf_lt_of_mem hy; simp only [Ex.mk.sizeOf_spec]; omega
theorem GivesV.lent {E:Env} (hG:∀ g,WF 0 (E.G g)) {f:FuncId} {args:List AVal} {x:Value} (h:GivesV E f args (.sc x)) (σ:AStore) {M:Nat} {bs:List Nat} {args1:List AVal} (hz:mapO (frz (σ.only bs) M) args1=some args):
  ACalls E f args1 σ fun e σ'=>σ'=σ/\e=.ret (.sc x):=by
 refine (ACalls.pureT hG (N:=1) (h empty) ?_ σ hz).mono ?_
 ·rintro e σ0 ⟨rfl,rfl⟩
  exact ⟨.ret (.sc x),rfl,rfl⟩
 ·rintro e σ' ⟨h1,e0,σ0,⟨rfl,rfl⟩,h3⟩
  cases h3
  exact ⟨h1,rfl⟩
mutual
/-- Scalars, records and data. -/
inductive Dat:AVal->Prop
 | sc (v:Value):Dat (.sc v)
 | agg (cs:List AVal) (h:Dats cs):Dat (.agg cs)
 | data (sz:Nat) (t:Bool) (els:List AVal) (h:Dats els):Dat (.data sz t els)
inductive Dats:List AVal->Prop
 | nil:Dats []
 | cons (v:AVal) (vs:List AVal) (h:Dat v) (hs:Dats vs):Dats (v::vs)
end
mutual
theorem Dat.frz {σ:AStore}:∀ {v:AVal},Dat v->∃ N,∀ M,N<=M->Abs.frz σ M v=some v
  | _,.sc v=>⟨1,fun M h=>by obtain ⟨M,rfl⟩:∃ k,M=k+1:=⟨M - 1,vom⟩; rfl⟩
  | _, .agg cs h => by
      obtain ⟨N,hN⟩:=Dats.frz (σ:=σ) h
      refine ⟨N+1,fun M hM=>?_⟩
      obtain ⟨M,rfl⟩:∃ k,M=k+1:=⟨M - 1,vom⟩
      rw [frz_agg,hN M (by omega)]; rfl
  | _, .data sz t els h => by
      obtain ⟨N,hN⟩:=Dats.frz (σ:=σ) h
      refine ⟨N+1,fun M hM=>?_⟩
      obtain ⟨M,rfl⟩:∃ k,M=k+1:=⟨M - 1,vom⟩
      rw [frz_data,hN M (by omega)]; rfl
theorem Dats.frz {σ:AStore}:∀ {vs:List AVal},Dats vs->∃ N,∀ M,N<=M->mapO (Abs.frz σ M) vs=some vs
  | _,.nil=>⟨0,fun _ _=>rfl⟩
  | _, .cons v vs h hs => by
      obtain ⟨N1,h1⟩:=Dat.frz (σ:=σ) h
      obtain ⟨N2,h2⟩:=Dats.frz (σ:=σ) hs
      refine ⟨N1+N2,fun M hM=>?_⟩
      rw [mapO_cons',h1 M (by omega),h2 M (by omega)]; rfl
end
theorem IsD.dat {sz:Nat} {x:AVal} {els:List AVal} (h:IsD sz x els) (hw:Dats els):Dat x:=by
 rcases h with ⟨rfl,a,c,rfl⟩|⟨t,rfl⟩
 ·exact .sc _
 ·exact .data _ _ _ hw
mutual
theorem IsEx.dat:∀ {x:Ex} {v:AVal},IsEx x v->Dat v
  | .mk k nm i zs, v, h => by
      simp only [IsEx] at h
      obtain ⟨S,els,rfl,hS,hs,_⟩:=h
      exact .agg _ (.cons _ _ (.sc _) (.cons _ _ (.sc _) (.cons _ _ (.sc _) (.cons _ _ (hS.dat (IsExs.dat hs)) .nil))))
theorem IsExs.dat:∀ {zs:List Ex} {els:List AVal},IsExs zs els->Dats els
  | [],els,h=>by simp only [IsExs] at h; subst h; exact .nil
  | x :: xs, els, h => by
      simp only [IsExs] at h
      obtain ⟨e,es,rfl,h1,h⟩:=h
      exact .cons _ _ (IsEx.dat h1) (IsExs.dat h)
end
mutual
theorem IsSt.dat:∀ {x:St} {v:AVal},IsSt x v->Dat v
  | .mk k nm w body els, v, h => by
      simp only [IsSt] at h
      obtain ⟨SA,SB,SE,ea,eb,ee,rfl,hA,ha,hB,hb,hE,he,_⟩:=h
      exact .agg _ (.cons _ _ (.sc _) (.cons _ _ (.sc _) (.cons _ _ (.sc _) (.cons _ _ (.sc _) (.cons _ _ (.sc _) (.cons _ _ (hA.dat (IsExs.dat ha)) (.cons _ _ (hB.dat (IsSts.dat hb)) (.cons _ _ (hE.dat (IsSts.dat he)) .nil))))))))
theorem IsSts.dat:∀ {zs:List St} {els:List AVal},IsSts zs els->Dats els
  | [],els,h=>by simp only [IsSts] at h; subst h; exact .nil
  | x :: xs, els, h => by
      simp only [IsSts] at h
      obtain ⟨e,es,rfl,h1,h⟩:=h
      exact .cons _ _ (IsSt.dat h1) (IsSts.dat h)
end
theorem dats_sA:∀ l:List ByteArray,Dats (l.map sA)
 | []=>.nil
 | x::l=>.cons _ _ (.sc _) (dats_sA l)
theorem IsFc.dat {f:Fc} {w:AVal} (h:IsFc f w):Dat w:=by
 obtain ⟨SP,SB,eb,rfl,hP,hB,hb,_⟩:=h
 exact .agg _ (.cons _ _ (.sc _) (.cons _ _ (hP.dat (dats_sA _)) (.cons _ _ (hB.dat (IsSts.dat hb)) .nil)))
theorem Dats.of:∀ {l:List AVal},(∀ x∈l,Dat x)->Dats l
 | [],_=>.nil
 | x::l,h=>.cons x l (h x (by simp)) (Dats.of fun y hy=>h y (by simp [hy]))
theorem IsFcs.dat {l:List Fc} {els:List AVal} (h:IsFcs l els):Dats els:=Dats.of fun e he=>by
 obtain ⟨j,hj,rfl⟩:=List.mem_iff_getElem.1 he
 obtain ⟨x,_,h2⟩:=h.all (List.getElem?_eq_getElem hj)
 exact h2.dat
theorem only_self {σ:AStore} {b:Nat} {x:ABlk} (h:σ.get b=some x):(σ.only [b]).get b=some x:=by
 have hlt:=AStore.lt_of_get h
 unfold AStore.only AStore.get
 have h1:Nat.blt b σ.next=true:=by rw [Nat.blt_eq]; exact hlt
 simp only [h1]
 unfold onlyT
 simp only [h,onlyT]
 rw [T.get_put _ _ _ _ _ (lt_two_pow_sub _),if_pos rfl]
/-- The names that a scope holds as its own: data, or a slice in local memory. -/
def HasO (σ:AStore) (O:AVal) (o:List ByteArray):Prop:=IsD 1 O (o.map sA)\/∃ b,O=.slice b 0 o.length/\σ.get b=some (.cells 1 (o.map sA))
/-- A call with such a scope, by the contract at data. -/
theorem scope_lent {E:Env} (hG:∀ g,WF 0 (E.G g)) {f:FuncId} {σ:AStore} {G O F v:AVal} {o:List ByteArray} {x:Value} (hO:HasO σ O o) (dG:Dat G) (dF:Dat F) (dv:Dat v)
  (h:∀ O',IsD 1 O' (o.map sA)->GivesV E f [.agg [G,O',F],v] (.sc x)):ACalls E f [.agg [G,O,F],v] σ fun e σ'=>σ'=σ/\e=.ret (.sc x):=by
 rcases hO with hO|⟨b,rfl,hb⟩
 ·exact h O hO σ
 ·obtain ⟨N1,h1⟩:=Dat.frz (σ:=σ.only [b]) dG
  obtain ⟨N2,h2⟩:=Dat.frz (σ:=σ.only [b]) dF
  obtain ⟨N3,h3⟩:=Dat.frz (σ:=σ.only [b]) dv
  obtain ⟨N4,h4⟩:=Dats.frz (σ:=σ.only [b]) (dats_sA o)
  refine GivesV.lent hG (h (.data 1 false (o.map sA)) (.inr ⟨false,rfl⟩)) σ (bs:=[b]) (M:=N1+N2+N3+N4+2) ?_
  have hs:Abs.frz (σ.only [b]) (N1+N2+N3+N4+1) (.slice b 0 o.length)=some (.data 1 false (o.map sA)):=by
   rw [frz_slice,only_self hb,frzS_cells (by simp),List.drop_zero]
   have:(o.map sA).take o.length=o.map sA:=List.take_of_length_le (by simp)
   rw [this,h4 _ (by omega)]; rfl
  rw [mapO_cons',mapO_cons',mapO_nil',h3 _ (by omega),frz_agg,mapO_cons',mapO_cons',mapO_cons',mapO_nil',h1 _ (by omega),h2 _ (by omega),hs]
  rfl
theorem expRL {w:WD} {x:Ex} {v G O F:AVal} {g o:List ByteArray} {l:List Fc} {fels:List AVal} {σ:AStore} (h:IsEx x v) (hG:IsD 1 G (g.map sA)) (hO:HasO σ O o) (hF:IsD 3 F fels) (hl:IsFcs l fels)
  (lg:g.length<=281474976710656) (lo:o.length<=281474976710656) (lf:fels.length<=281474976710656):
  ACalls (EE w) 60 [.agg [G,O,F],v] σ fun e σ'=>σ'=σ/\e=.ret (.sc (.int .i64 (expE g o l x))):=
 scope_lent (fun _=>.sc _) hO (hG.dat (dats_sA _)) (hF.dat hl.dat) h.dat fun O' hO'=>expRC h ⟨G,O',F,fels,rfl,hG,hO',hF,hl,lg,lo,lf⟩
theorem inL {w:WD} {O:AVal} {o:List ByteArray} {σ:AStore} (hO:HasO σ O o) (lo:o.length<=1152921504606846976) (s:ByteArray):
  ACalls (EE w) 13 [O,sA s] σ fun e σ'=>σ'=σ/\e=.ret (.sc (.bool (decide (s∈o)))):=by
 rcases hO with hO|⟨b,rfl,hb⟩
 ·exact inC hO lo s σ
 ·obtain ⟨N4,h4⟩:=Dats.frz (σ:=σ.only [b]) (dats_sA o)
  refine GivesV.lent (fun _=>.sc _) (inC (L:=.data 1 false (o.map sA)) (.inr ⟨false,rfl⟩) lo s) σ (bs:=[b]) (M:=N4+1) ?_
  have hs:Abs.frz (σ.only [b]) (N4+1) (.slice b 0 o.length)=some (.data 1 false (o.map sA)):=by
   rw [frz_slice,only_self hb,frzS_cells (by simp),List.drop_zero]
   have:(o.map sA).take o.length=o.map sA:=List.take_of_length_le (by simp)
   rw [this,h4 _ (by omega)]; rfl
  rw [mapO_cons',mapO_cons',mapO_nil',hs]
  rfl
theorem HasO.fit {σ:AStore} {O:AVal} {o:List ByteArray} (h:HasO σ O o):O.fit=true:=by
 rcases h with h|⟨b,rfl,_⟩
 ·exact h.fit
 ·rfl
theorem HasO.cells {σ:AStore} {O:AVal} {o:List ByteArray} (h:HasO σ O o):O.cells=[O]:=by
 rcases h with h|⟨b,rfl,_⟩
 ·exact h.cells
 ·rfl
theorem HasO.isCell {σ:AStore} {O:AVal} {o:List ByteArray} (h:HasO σ O o):O.isCell=true:=by
 rcases h with h|⟨b,rfl,_⟩
 ·exact h.isCell
 ·rfl
theorem HasO.src {σ τ:AStore} {O:AVal} {o:List ByteArray} (h:HasO σ O o) (hk:∀ b y,σ.get b=some y->τ.get b=some y):aSrc 1 O τ=some (o.map sA):=by
 rcases h with h|⟨b,rfl,hb⟩
 ·exact h.src
 ·rw [aSrc_slice,hk _ _ hb,elAt_cells,if_pos ⟨rfl,by simp⟩]
  exact congrArg some (List.take_of_length_le (by simp))
theorem app_lit0 {sz bytes:Nat} {t:Bool} {els:List AVal} {σ:AStore}:aAppend sz bytes (.data sz t els) [] σ=some (.data sz t els,σ):=rfl
theorem app_lit {sz bytes:Nat} {y:AVal} {ys:List AVal} {σ:AStore} (hb:(ys.length+1)*bytes<=140737488355328) (h2:bytes≠0):aAppend sz bytes (.data sz true []) (y::ys) σ=some (.slice σ.next 0 (ys.length+1),σ.alloc (.cells sz (y::ys))):=by
 have h0:¬ (ys.length+1=0):=by omega
 have h3:True/\True/\(0+(ys.length+1))*bytes<=140737488355328/\bytes≠0:=⟨trivial,trivial,by rw [Nat.zero_add]; exact hb,h2⟩
 unfold aAppend aAppend0
 simp only [List.length_cons,List.length_nil,if_neg h0]
 rw [if_pos h3,Nat.zero_add]; rfl
theorem allRStep {xs:List St} {w:WD} {L G O F:AVal} {els fels:List AVal} {g o:List ByteArray} {l:List Fc} (hL:IsD 8 L els) (hx:IsSts xs els) (hb:nodesSs xs<=400)
  (hG:IsD 1 G (g.map sA)) (hO:IsD 1 O (o.map sA)) (hF:IsD 3 F fels) (hl:IsFcs l fels) (lg:g.length<=281474976710656) (lo:o.length+nodesSs xs<=1048576) (lf:fels.length<=281474976710656)
  (rec:∀ x∈xs,∀ (ys:List St),(∀ k nm v b e,x=.mk k nm v b e->ys=b\/ys=e)->∀ (w:WD) (L O:AVal) (els:List AVal) (o:List ByteArray),IsD 8 L els->IsSts ys els->IsD 1 O (o.map sA)->o.length+nodesSs ys<=1048576->
   GivesV (EE w) 110 [.agg [G,O,F],L] (.sc (.int .i64 (stEs g o l ys)))):GivesV (EE w) 110 [.agg [G,O,F],L] (.sc (.int .i64 (stEs g o l xs))):=by
 have hln:=hx.len
 have hLn:=fun σ:AStore=>hL.lenN hln (σ:=σ)
 have kG:=hG.fit
 have cG:=hG.cells
 have iG:=hG.isCell
 have kF:=hF.fit
 have cF:=hF.cells
 have iF:=hF.isCell
 have kO:=hO.fit
 have cO:=hO.cells
 have iO:=hO.isCell
 have hsw:WF 0 (.agg [G,O,F]):=.agg _ (.cons _ _ (hG.wf (wf_sA _)) (.cons _ _ (hO.wf (wf_sA _)) (.cons _ _ (hF.wf hl.wf) .nil)))
 refine GivesV.of (fun _=>.sc _) (.cons _ _ hsw (.cons _ _ (hL.wf hx.wf) .nil)) 1 ?_
 refine of_110 rfl rfl rfl (by kernel_rfl) ?_
 simp -implicitDefEqProofs only [go_sem,kG,cG,iG,kO,cO,iO,kF,cF,iF]
 have g0:(empty.alloc (.cells 3 [.agg [G,O,F]])).get 0=some (.cells 3 [.agg [G,O,F]]):=by rw [AStore.get_alloc]; rfl
 generalize empty.alloc (.cells 3 [.agg [G,O,F]])=τ at g0 ⊢
 clear kO cO iO hsw
 refine vlp (ι:=Nat) (fun j=>[(1,L),(2,.ptr 0 0 0),(5,(.sc (.int .i64 (j))))]) (fun j τ=>j<=xs.length/\(∃ O,τ.get 0=some (.cells 3 [.agg [G,O,F]])/\HasO τ O (o++madeSs (xs.take j)))/\stEs g o l (xs.take j)=0) (fun j=>xs.length - j) (fun _=>rfl) 0 ?_ ?_ ?_
 ·exact vsu
 ·exact ⟨Nat.zero_le _,⟨O,g0,.inl (by simpa [madeSs] using hO)⟩,rfl⟩
 clear g0 hO
 rintro j τ ⟨hj,⟨O,g0,hO⟩,h0⟩
 have kO:=hO.fit
 have cO:=hO.cells
 have iO:=hO.isCell
 have lml:=madeSs_length (xs.take j)
 have lns:=len_nodesSs xs
 have lom:(o++madeSs (xs.take j)).length<=1048576:=by
  rw [List.length_append]
  simp only [List.length_take] at lml
  omega
 simp -implicitDefEqProofs only [go_sem,hLn]
 (refine vif ?_ ?_<;>intro hlt)
 ·obtain ⟨x,hx1⟩:∃ x,xs[j]?=some x:=⟨xs[j]'(by omega),by simp⟩
  obtain ⟨e,he,hxe⟩:=hx.at hx1
  have hmem:=List.mem_of_getElem? hx1
  obtain ⟨k,nm,v,body,els'⟩:=x
  simp only [IsSt] at hxe
  obtain ⟨SA,SB,SE,ea,eb,ee,rfl,hA',ha,hB,hb',hE,hee,h1,h2,h3,h4,h5,h6,h7,h8⟩:=hxe
  have hvx:=ex_of hA' ha h2 h3 h5 h6
  have hw:=wrapS (i:=j) (by omega)
  (repeat' first|refine vw ?_ ?_<;>intro hq|refine vz ?_|simp -implicitDefEqProofs only [go_sem])
  ((try (refine Z_seq ?_; (try simp -implicitDefEqProofs only [go_sem]))); refine Z_draw (by kernel_rfl) [0,1,2,3,4,5,6,7] [(7,127),(6,63),(5,30),(4,14),(3,6),(2,0),(1,0),(0,0)] (by kernel_rfl) (by kernel_rfl) ?_)
  simp -implicitDefEqProofs only [go_sem,g0,hL.idx he,kG,cG,iG,kO,cO,iO,kF,cF,iF]
  refine (expRL hvx hG hO hF hl lg (by omega) lf).use1D ?_
  simp -implicitDefEqProofs only [go_sem]
  by_cases hv0:expE g (o++madeSs (xs.take j)) l v=0
  ·simp -implicitDefEqProofs only [go_sem,dct hv0]
   (try refine vzf ?_)
   simp -implicitDefEqProofs only [go_sem,hL.idx he]
   refine Z_mid (fun ev σ'=>look? ev 1=some L/\look? ev 2=some (.ptr 0 0 0)/\look? ev 5=some (.sc (.int .i64 (j)))/\
    (∃ O',σ'.get 0=some (.cells 3 [.agg [G,O',F]])/\HasO σ' O' (o++madeSs (xs.take j)++mk1 (.mk k nm v body els')))/\
    ¬ ((k=1/\(nm∈g\/nm∈o++madeSs (xs.take j)))\/(k=2/\nm ∉ o++madeSs (xs.take j)))) ?_ ?_
   ·by_cases k1:k=1
    ·(repeat' first|refine vw ?_ ?_<;>intro hq|refine vz ?_|simp -implicitDefEqProofs only [go_sem,dct k1])
     ((try (refine Z_seq ?_; (try simp -implicitDefEqProofs only [go_sem]))); refine Z_draw (by kernel_rfl) [0,1,2,3,4,5,6,7,8,9,10,11,12,13,14,15,16,17] [(17,131071),(16,65535),(15,31231),(14,14847),(13,6655),(12,511),(11,511),(10,1023),(9,511),(8,255),(7,127),(6,60),(5,28),(4,12),(3,0),(2,0),(1,1),(0,0)] (by kernel_rfl) (by kernel_rfl) ?_)
     simp -implicitDefEqProofs only [go_sem,g0,hL.idx he,kG,cG,iG,kO,cO,iO,kF,cF,iF]
     refine (inC hG (by omega) nm).useD ?_
     simp -implicitDefEqProofs only [go_sem]
     by_cases hgN:nm∈g
     ·have e1:stE g (o++madeSs (xs.take j)) l (.mk k nm v body els')=90:=by rw [stE_mk,if_pos hv0,if_pos (.inl ⟨k1,.inl hgN⟩)]
      simp -implicitDefEqProofs only [go_sem,dct hgN]
      (repeat' first|refine vw ?_ ?_<;>intro hq|refine vz ?_|simp -implicitDefEqProofs only [go_sem,dct hgN])
      exact ret_int (by rw [stEs_eq hx1 h0 (by rw [e1]; decide),e1])
     ·simp -implicitDefEqProofs only [go_sem,dcf hgN,g0,hL.idx he,kG,cG,iG,kO,cO,iO,kF,cF,iF]
      refine (inL hO (by omega) nm).use1D ?_
      simp -implicitDefEqProofs only [go_sem]
      by_cases hoN:nm∈o++madeSs (xs.take j)
      ·have e1:stE g (o++madeSs (xs.take j)) l (.mk k nm v body els')=90:=by rw [stE_mk,if_pos hv0,if_pos (.inl ⟨k1,.inr hoN⟩)]
       rw [dct hoN]
       (repeat' first|refine vw ?_ ?_<;>intro hq|refine vz ?_|simp -implicitDefEqProofs only [go_sem])
       exact ret_int (by rw [stEs_eq hx1 h0 (by rw [e1]; decide),e1])
      ·rw [dcf hoN]
       (repeat' first|refine vw ?_ ?_<;>intro hq|refine vz ?_|simp -implicitDefEqProofs only [go_sem])
       have hsr:=hO.src (τ:=τ) (fun _ _ h=>h)
       have hm1:mk1 (.mk k nm v body els')=[nm]:=by simp [mk1,St.k,St.nm,k1]
       rw [hm1]
       generalize hoo:o++madeSs (xs.take j)=oo at hsr lom hO hoN ⊢
       have hpos:=AStore.lt_of_get g0
       ((try (refine Z_seq ?_; (try simp -implicitDefEqProofs only [go_sem]))); refine Z_draw (by kernel_rfl) [0,1,2,4,5,6,7,8,9,3,10,11,12] [(12,4095),(11,2047),(10,1023),(3,7),(9,496),(8,240),(7,112),(6,48),(5,0),(4,0),(2,2),(1,0),(0,0)] (by kernel_rfl) (by kernel_rfl) ?_)
       cases oo with
       | nil=>
        have e1:=app_lit (sz:=1) (bytes:=16) (y:=.sc (.string nm)) (ys:=[]) (σ:=τ) (by decide) (by decide)
        simp -implicitDefEqProofs only [go_sem,g0,hL.idx he,kG,cG,iG,kO,cO,iO,kF,cF,iF,hsr,app_lit0,e1,hpos,(show ¬ 0=τ.next by omega)]
        rw [if_pos (show 0 < τ.next+1 by omega)]
        refine ⟨⟨_,rfl,.inr ⟨τ.next,rfl,?_⟩⟩,?_⟩
        ·rw [AStore.get_set,if_neg (by omega),AStore.get_alloc,if_pos rfl]; rfl
        ·rintro (⟨_,h|h⟩|⟨h,_⟩)
         ·exact hgN h
         ·exact hoN h
         ·omega
       | cons y oo=>
        have e1:=app_lit (sz:=1) (bytes:=16) (y:=sA y) (ys:=oo.map sA) (σ:=τ) (by simp only [List.length_map,List.length_cons] at lom ⊢; omega) (by decide)
        rw [List.length_map] at e1
        obtain ⟨σ',a1,a2,a3,a4⟩:=(show Own (τ.alloc (.cells 1 (sA y::oo.map sA))) 1 (.slice τ.next 0 (oo.length+1)) (sA y::oo.map sA) from .inr ⟨by simp,τ.next,by simp,by rw [AStore.get_alloc,if_pos rfl]⟩).append (bytes:=16) (xs:=[.sc (.string nm)]) (by simp) (by simp only [List.length_map,List.length_cons] at lom ⊢; simp; omega) (by decide) (by decide) rfl
        have g0':=a4 0 _ (get_alloc_old g0) (fun l hl=>by injection hl; omega)
        have hpos':=AStore.lt_of_get g0'
        simp -implicitDefEqProofs only [go_sem,g0,hL.idx he,kG,cG,iG,kO,cO,iO,kF,cF,iF,hsr,e1,a1,g0',hpos']
        refine ⟨⟨_,rfl,.inr ⟨τ.next+1,by simp,?_⟩⟩,?_⟩
        ·rw [AStore.get_set,if_neg (by omega)]
         rcases a2 with ⟨h,_⟩|⟨_,b,hb,hg⟩
         ·simp at h
         ·simp only [AVal.slice.injEq] at hb
          obtain ⟨rfl,_⟩:=hb
          simpa [alloc_next,sA] using hg
        ·rintro (⟨_,h|h⟩|⟨h,_⟩)
         ·exact hgN h
         ·exact hoN h
         ·omega
    ·by_cases k2:k=2
     ·(repeat' first|refine vw ?_ ?_<;>intro hq|refine vz ?_|simp -implicitDefEqProofs only [go_sem,dcf k1,dct k2])
      ((try (refine Z_seq ?_; (try simp -implicitDefEqProofs only [go_sem]))); refine Z_draw (by kernel_rfl) [0,1,2,3,4,5,6,7,8] [(8,255),(7,127),(6,60),(5,28),(4,12),(3,0),(2,0),(1,1),(0,0)] (by kernel_rfl) (by kernel_rfl) ?_)
      simp -implicitDefEqProofs only [go_sem,g0,hL.idx he,kG,cG,iG,kO,cO,iO,kF,cF,iF]
      refine (inL hO (by omega) nm).use1D ?_
      simp -implicitDefEqProofs only [go_sem]
      by_cases hO2:nm∈o++madeSs (xs.take j)
      ·rw [dct hO2]
       (repeat' first|refine vw ?_ ?_<;>intro hq|refine vz ?_|simp -implicitDefEqProofs only [go_sem])
       rw [show mk1 (.mk k nm v body els')=[] from by simp [mk1,St.k,k1],List.append_nil]
       exact ⟨⟨O,g0,hO⟩,by rintro (⟨h,_⟩|⟨_,h⟩); exact k1 h; exact h hO2⟩
      ·rw [dcf hO2]
       (repeat' first|refine vw ?_ ?_<;>intro hq|refine vz ?_|simp -implicitDefEqProofs only [go_sem])
       have e1:stE g (o++madeSs (xs.take j)) l (.mk k nm v body els')=90:=by rw [stE_mk,if_pos hv0,if_pos (.inr ⟨k2,hO2⟩)]
       exact ret_int (by rw [stEs_eq hx1 h0 (by rw [e1]; decide),e1])
     ·(repeat' first|refine vw ?_ ?_<;>intro hq|refine vz ?_|simp -implicitDefEqProofs only [go_sem,dcf k1,dcf k2])
      rw [show mk1 (.mk k nm v body els')=[] from by simp [mk1,St.k,k1],List.append_nil]
      exact ⟨⟨O,g0,hO⟩,by rintro (⟨h,_⟩|⟨h,_⟩); exact k1 h; exact k2 h⟩
   ·rintro ev τ2 ⟨l1,l2,l5,⟨O',g2,hO'⟩,hnb⟩
    have kO':=hO'.fit
    have cO':=hO'.cells
    have iO':=hO'.isCell
    have n1:=nodesSs_take hx1
    have n2:=nodesSs_le (l:=xs) (i:=j+1)
    have n3:=len_nodesSs (xs.take j)
    have n4:nodesS (.mk k nm v body els')=1+nodesE v+nodesSs body+nodesSs els':=by simp [nodesS]
    have n5:=mk1_length (.mk k nm v body els')
    have n6:=madeSs_length (xs.take j)
    have n7:=nodesE_pos v
    have hlb:(o++madeSs (xs.take j)++mk1 (.mk k nm v body els')).length+nodesSs body+nodesSs els'<=1048576:=by
     simp only [List.length_append]; omega
    have rB:=fun (w:WD) O'' hO''=>rec _ hmem body (fun _ _ _ _ _ h=>by cases h; exact .inl rfl) w SB O'' eb (o++madeSs (xs.take j)++mk1 (.mk k nm v body els')) hB hb' hO'' (by omega)
    have rE:=fun (w:WD) O'' hO''=>rec _ hmem els' (fun _ _ _ _ _ h=>by cases h; exact .inr rfl) w SE O'' ee (o++madeSs (xs.take j)++mk1 (.mk k nm v body els')) hE hee hO'' (by omega)
    simp -implicitDefEqProofs only [go_sem,l1,l2,l5,g2]
    ((try (refine Z_seq ?_; (try simp -implicitDefEqProofs only [go_sem]))); refine Z_draw (by kernel_rfl) [0,1,2,3,4,5,6,7] [(7,127),(6,63),(5,30),(4,14),(3,6),(2,0),(1,0),(0,0)] (by kernel_rfl) (by kernel_rfl) ?_)
    simp -implicitDefEqProofs only [go_sem,l1,l2,l5,g2,hL.idx he,kG,cG,iG,kO',cO',iO',kF,cF,iF]
    refine (scope_lent (fun _=>.sc _) hO' (hG.dat (dats_sA _)) (hF.dat hl.dat) (hB.dat (IsSts.dat hb')) (fun O'' hO''=>rB _ O'' hO'')).use1D ?_
    simp -implicitDefEqProofs only [go_sem,l1,l2,l5,g2]
    have e0:stE g (o++madeSs (xs.take j)) l (.mk k nm v body els')=if stEs g (o++madeSs (xs.take j)++mk1 (.mk k nm v body els')) l body=0 then stEs g (o++madeSs (xs.take j)++mk1 (.mk k nm v body els')) l els' else stEs g (o++madeSs (xs.take j)++mk1 (.mk k nm v body els')) l body:=by
     rw [stE_mk,if_pos hv0,if_neg hnb]
    by_cases hz:stEs g (o++madeSs (xs.take j)++mk1 (.mk k nm v body els')) l body=0
    ·rw [if_pos hz] at e0
     (repeat' first|refine vw ?_ ?_<;>intro hq|refine vz ?_|simp -implicitDefEqProofs only [go_sem,dct hz,l1,l2,l5])
     ((try (refine Z_seq ?_; (try simp -implicitDefEqProofs only [go_sem]))); refine Z_draw (by kernel_rfl) [0,1,2,3,4,5,6,7] [(7,127),(6,63),(5,30),(4,14),(3,6),(2,0),(1,0),(0,0)] (by kernel_rfl) (by kernel_rfl) ?_)
     simp -implicitDefEqProofs only [go_sem,l1,l2,l5,g2,hL.idx he,kG,cG,iG,kO',cO',iO',kF,cF,iF]
     refine (scope_lent (fun _=>.sc _) hO' (hG.dat (dats_sA _)) (hF.dat hl.dat) (hE.dat (IsSts.dat hee)) (fun O'' hO''=>rE _ O'' hO'')).use1D ?_
     simp -implicitDefEqProofs only [go_sem,l1,l2,l5,g2]
     by_cases hz2:stEs g (o++madeSs (xs.take j)++mk1 (.mk k nm v body els')) l els'=0
     ·rw [hz2] at e0
      (repeat' first|refine vw ?_ ?_<;>intro hq|refine vz ?_|simp -implicitDefEqProofs only [go_sem,dct hz2,l1,l2,l5,hw])
      have htk:madeSs (xs.take (j+1))=madeSs (xs.take j)++mk1 (.mk k nm v body els'):=madeSs_take hx1
      refine ⟨j+1,vom,⟨by omega,⟨O',g2,by rw [htk,<-List.append_assoc]; exact hO'⟩,stEs_take hx1 h0 e0⟩,?_⟩
      simp [subE,look?,l1,l2]
     ·(repeat' first|refine vw ?_ ?_<;>intro hq|refine vz ?_|simp -implicitDefEqProofs only [go_sem,dcf hz2,l1,l2,l5])
      exact ret_int (by rw [stEs_eq hx1 h0 (by rw [e0]; exact hz2),e0])
    ·rw [if_neg hz] at e0
     (repeat' first|refine vw ?_ ?_<;>intro hq|refine vz ?_|simp -implicitDefEqProofs only [go_sem,dcf hz,l1,l2,l5])
     exact ret_int (by rw [stEs_eq hx1 h0 (by rw [e0]; exact hz),e0])
  ·(repeat' first|refine vw ?_ ?_<;>intro hq|refine vz ?_|simp -implicitDefEqProofs only [go_sem,dcf hv0])
   have e1:stE g (o++madeSs (xs.take j)) l (.mk k nm v body els')=expE g (o++madeSs (xs.take j)) l v:=by rw [stE_mk,if_neg hv0]
   exact ret_int (by rw [stEs_eq hx1 h0 (by rw [e1]; exact hv0),e1])
 ·obtain rfl:j=xs.length:=by omega
  rw [List.take_length] at h0
  (repeat' first|refine vw ?_ ?_<;>intro hq|refine vz ?_|simp -implicitDefEqProofs only [go_sem])
  exact ret_int h0.symm
theorem allRC : ∀ {N : Nat} {xs : List St} {w : WD} {L G O F : AVal} {els fels : List AVal} {g o : List ByteArray} {l : List Fc}, nodesSs xs ≤ N → IsD 8 L els → IsSts xs els → nodesSs xs ≤ 400 → IsD 1 G (g.map sA) → IsD 1 O (o.map sA) → IsD 3 F fels → IsFcs l fels →
    g.length<=281474976710656->o.length+nodesSs xs<=1048576->fels.length<=281474976710656->GivesV (EE w) 110 [.agg [G,O,F],L] (.sc (.int .i64 (stEs g o l xs)))
  | 0, xs, w, L, G, O, F, els, fels, g, o, l, hN, hL, hx, hb, hG, hO, hF, hl, lg, lo, lf => allRStep hL hx hb hG hO hF hl lg lo lf fun x hx => by
      obtain ⟨j,hj⟩:=List.getElem?_of_mem hx
      have h1:=nodesS_at hj
      have:=nodesS_pos x
      omega
  | N + 1, xs, w, L, G, O, F, els, fels, g, o, l, hN, hL, hx, hb, hG, hO, hF, hl, lg, lo, lf => allRStep hL hx hb hG hO hF hl lg lo lf fun x hx ys hy w L O els o hL' hx' hO' lo' => by
      obtain ⟨j,hj⟩:=List.getElem?_of_mem hx
      have h1:=nodesS_at hj
      obtain ⟨k,nm,v,b,e⟩:=x
      have:=nodesE_pos v
      simp only [nodesS] at h1
      rcases hy _ _ _ _ _ rfl with rfl|rfl
      · exact allRC (N:=N) (by omega) hL' hx' (by omega) hG hO' hF hl lg lo' lf
      · exact allRC (N:=N) (by omega) hL' hx' (by omega) hG hO' hF hl lg lo' lf
theorem eff_sl25 {w:WD} {x:Operand} {a b c:Option Operand}:isEff (EE w) (.slice 25 x a b c)=false:=by kernel_rfl
theorem eff_sl26 {w:WD} {x:Operand} {a b c:Option Operand}:isEff (EE w) (.slice 29 x a b c)=false:=by kernel_rfl
attribute [go_sem] eff_sl25 eff_sl26
theorem fcOf_none_all {l:List Fc} {nm:ByteArray} (h:fcOf l nm=none) {f:Fc} (hf:f∈l):f.nm≠nm:=by
 unfold fcOf at h
 have:=List.find?_eq_none.1 h f hf
 simpa using this
theorem IsFcs.take {l:List Fc} {els:List AVal} (h:IsFcs l els) (i:Nat):IsFcs (l.take i) (els.take i) where
 len:=by rw [List.length_take,List.length_take,h.len]
 at':=fun j f hj=>by
  rw [List.getElem?_take] at hj ⊢
  split at hj
  ·rename_i hlt
   rw [if_pos hlt]; exact h.at' j f hj
  ·cases hj
theorem oneRC {w:WD} {L S:AVal} {els:List AVal} {fs:List Fc} {g:List ByteArray} {i:Nat} {f:Fc} (hL:IsD 3 L els) (hl:IsFcs fs els) (hlen:els.length<=281474976710656) (hS:IsD 1 S (g.map sA)) (hg:g.length<=281474976710656)
  (hf:fs[i]?=some f) (hb:nodesSs f.body<=400) (hp:f.ps.length<=4):GivesV (EE w) 85 [L,(.sc (.int .i64 (i))),S] (.sc (.int .i64 (fnE g (fs.take i) f))):=by
 have hll:=hl.len
 have hi:i < fs.length:=by
  rcases Nat.lt_or_ge i fs.length with h|h
  ·exact h
  ·rw [List.getElem?_eq_none h] at hf; cases hf
 obtain ⟨e,he,hfe⟩:=hl.at' i f hf
 have cc:=hfe.cellsOk
 obtain ⟨SP,SB,eb,rfl,hP,hB,hb',h1,h2,h3,h4⟩:=hfe
 have kP:=hP.fit
 have cP:=hP.cells
 have iP:=hP.isCell
 have kB:=hB.fit
 have cB:=hB.cells
 have iB:=hB.isCell
 have hPn:∀ σ:AStore,aLen (.slice 0) SP σ=some (.sc (.int .i64 (f.ps.length))):=fun σ=>by have:=hP.len (σ:=σ); rwa [List.length_map] at this
 obtain ⟨F,hF1,hF2⟩:=hL.take (k:=i) (by omega)
 have kS:=hS.fit
 have cS:=hS.cells
 have iS:=hS.isCell
 have kF:=hF2.fit
 have cF:=hF2.cells
 have iF:=hF2.isCell
 refine GivesV.of (fun _=>.sc _) (.cons _ _ (hL.wf hl.wf) (.cons _ _ (.sc _) (.cons _ _ (hS.wf (wf_sA _)) .nil))) 1 ?_
 refine of_85 rfl rfl rfl (by kernel_rfl) ?_
 simp -implicitDefEqProofs only [go_sem,hL.idx he,kP,cP,iP,kB,cB,iB]
 have g0:((empty.alloc (.cells 3 [.agg [.sc (.string ⟨#[]⟩),(.sc (.slice none 0 0)),(.sc (.slice none 0 0))]])).set 0 (.cells 3 [.agg [.sc (.string f.nm),SP,SB]])).get 0=some (.cells 3 [.agg [.sc (.string f.nm),SP,SB]]):=by rw [AStore.get_set,if_pos ⟨rfl,by decide⟩]
 generalize (empty.alloc (.cells 3 [.agg [.sc (.string ⟨#[]⟩),(.sc (.slice none 0 0)),(.sc (.slice none 0 0))]])).set 0 (.cells 3 [.agg [.sc (.string f.nm),SP,SB]])=τ at g0 ⊢
 (repeat' first|refine vw ?_ ?_<;>intro hq|refine vz ?_|simp -implicitDefEqProofs only [go_sem,g0])
 refine (inC hS (by omega) f.nm).use ?_
 by_cases hN:f.nm∈g
 ·have hv:fnE g (fs.take i) f=90:=by unfold fnE; rw [if_pos (.inl hN)]
  (repeat' first|refine vw ?_ ?_<;>intro hq|refine vz ?_|simp -implicitDefEqProofs only [go_sem,dct hN])
  exact ret_int hv.symm
 (repeat' first|refine vw ?_ ?_<;>intro hq|refine vz ?_|simp -implicitDefEqProofs only [go_sem,dcf hN])
 refine vlp (ι:=Nat) (fun j=>[(0,L),(1,(.sc (.int .i64 (i)))),(2,S),(7,.ptr 0 0 0),(8,(.sc (.int .i64 (j))))]) (fun j τ=>j<=i/\τ.get 0=some (.cells 3 [.agg [.sc (.string f.nm),SP,SB]])/\fcOf (fs.take j) f.nm=none) (fun j=>i - j) (fun _=>rfl) 0 ?_ ?_ ?_
 ·exact vsu
 ·exact ⟨Nat.zero_le _,g0,rfl⟩
 clear g0
 rintro j τ ⟨hj,g0,h0⟩
 simp -implicitDefEqProofs only [go_sem]
 (refine vif ?_ ?_<;>intro hlt)
 ·have hlt':j < i:=by omega
  obtain ⟨x,hx⟩:∃ x,fs[j]?=some x:=⟨fs[j]'(by omega),by simp⟩
  obtain ⟨y,hy,hxy⟩:=hl.at' j x hx
  obtain ⟨SP',SB',eb',rfl,_⟩:=hxy
  have hw:=wrapS (i:=j) (by omega)
  have hat:=fcOf_at (nm:=f.nm) hx h0
  (repeat' first|refine vw ?_ ?_<;>intro hq|refine vz ?_|simp -implicitDefEqProofs only [go_sem])
  ((try (refine Z_seq ?_; (try simp -implicitDefEqProofs only [go_sem]))); refine Z_draw (by kernel_rfl) [0,1,2,3,4,5,6,7] [(7,127),(6,32),(5,0),(4,15),(3,7),(2,3),(1,0),(0,0)] (by kernel_rfl) (by kernel_rfl) ?_)
  by_cases hxn:x.nm=f.nm
  ·simp -implicitDefEqProofs only [go_sem,g0,hL.idx hy,ba_list,dct hxn]
   refine vzt ?_
   (repeat' first|refine vw ?_ ?_<;>intro hq|refine vz ?_|simp -implicitDefEqProofs only [go_sem])
   rw [if_pos hxn] at hat
   have hsm:(fcOf (fs.take i) f.nm).isSome=true:=by
    cases hc:fcOf (fs.take i) f.nm with
    | some _=>rfl
    | none=>exact absurd hxn (fcOf_none_all hc (List.mem_of_getElem? (show (fs.take i)[j]?=some x by rw [List.getElem?_take,if_pos hlt']; exact hx)))
   exact ret_int (by unfold fnE; rw [if_pos (.inr hsm)])
  ·simp -implicitDefEqProofs only [go_sem,g0,hL.idx hy,ba_list,dcf hxn]
   refine vzf ?_
   rw [if_neg hxn] at hat
   (repeat' first|refine vw ?_ ?_<;>intro hq|refine vz ?_|simp -implicitDefEqProofs only [go_sem,hw])
   exact ⟨j+1,vom,⟨vom,g0,hat⟩,vsu⟩
 ·obtain rfl:j=i:=by omega
  have hg1:¬ (f.nm∈g\/(fcOf (fs.take j) f.nm).isSome):=by
   rintro (h|h)
   ·exact hN h
   ·rw [h0] at h; cases h
  (repeat' first|refine vw ?_ ?_<;>intro hq|refine vz ?_|simp -implicitDefEqProofs only [go_sem])
  refine vlp (ι:=Nat) (fun i=>[(0,L),(1,(.sc (.int .i64 (j)))),(2,S),(7,.ptr 0 0 0),(9,(.sc (.int .i64 (i))))]) (fun i τ=>i<=f.ps.length/\τ.get 0=some (.cells 3 [.agg [.sc (.string f.nm),SP,SB]])/\parsBad g [] f.ps=parsBad g (f.ps.take i) (f.ps.drop i)) (fun i=>f.ps.length - i) (fun _=>rfl) 0 ?_ ?_ ?_
  ·exact vsu
  ·exact ⟨Nat.zero_le _,g0,rfl⟩
  clear g0
  rintro i τ ⟨hi',g0,hpb⟩
  simp -implicitDefEqProofs only [go_sem,g0,hPn]
  (refine vif ?_ ?_<;>intro hilt)
  ·obtain ⟨p,hp'⟩:∃ p,f.ps[i]?=some p:=⟨f.ps[i]'(by omega),by simp⟩
   have hpe:(f.ps.map sA)[i]?=some (.sc (.string p)):=by rw [List.getElem?_map,hp']; rfl
   have hwi:=wrapS (i:=i) (by omega)
   have hpa:=parsBad_at hp' hpb
   obtain ⟨Q,hQ1,hQ2⟩:=hP.take (k:=i) (by simp; omega)
   rw [<-List.map_take] at hQ2
   (repeat' first|refine vw ?_ ?_<;>intro hq|refine vz ?_|simp -implicitDefEqProofs only [go_sem])
   ((try (refine Z_seq ?_; (try simp -implicitDefEqProofs only [go_sem]))); refine Z_draw (by kernel_rfl) [0,1,2,3,4,5,6,7,8,9,10,11,12,13,14,15,16,17,18] [(18,262143),(17,131071),(16,61695),(15,28927),(14,255),(13,4351),(12,255),(11,2047),(10,255),(9,511),(8,255),(7,127),(6,63),(5,30),(4,14),(3,0),(2,2),(1,0),(0,0)] (by kernel_rfl) (by kernel_rfl) ?_)
   simp -implicitDefEqProofs only [go_sem,g0,hP.idx hpe,kP,cP,iP,kB,cB,iB]
   refine (inC hS (by omega) p).useD ?_
   simp -implicitDefEqProofs only [go_sem]
   by_cases hpg:p∈g
   ·rw [dct (show p∈g\/p∈f.ps.take i from .inl hpg),Bool.true_or] at hpa
    simp -implicitDefEqProofs only [go_sem,dct hpg]
    (repeat' first|refine vw ?_ ?_<;>intro hq|refine vz ?_|simp -implicitDefEqProofs only [go_sem,dct hpg])
    exact ret_int (by unfold fnE; rw [if_neg hg1,if_pos hpa])
   ·simp -implicitDefEqProofs only [go_sem,dcf hpg,g0,hP.idx hpe,kP,cP,iP,kB,cB,iB,hQ1]
    refine (inC hQ2 (by rw [List.length_take]; omega) p).useD ?_
    simp -implicitDefEqProofs only [go_sem]
    by_cases hpo:p∈f.ps.take i
    ·rw [dct (show p∈g\/p∈f.ps.take i from .inr hpo),Bool.true_or] at hpa
     simp -implicitDefEqProofs only [go_sem,dct hpo]
     (repeat' first|refine vw ?_ ?_<;>intro hq|refine vz ?_|simp -implicitDefEqProofs only [go_sem,dct hpo])
     exact ret_int (by unfold fnE; rw [if_neg hg1,if_pos hpa])
    ·rw [dcf (show ¬ (p∈g\/p∈f.ps.take i) by rintro (h|h); exact hpg h; exact hpo h),Bool.false_or] at hpa
     simp -implicitDefEqProofs only [go_sem,dcf hpo]
     (repeat' first|refine vw ?_ ?_<;>intro hq|refine vz ?_|simp -implicitDefEqProofs only [go_sem,dcf hpo,hwi])
     exact ⟨i+1,vom,⟨vom,g0,hpa⟩,vsu⟩
  ·obtain rfl:i=f.ps.length:=by omega
   have hpf:parsBad g [] f.ps=false:=by rw [hpb,List.drop_length,parsBad]
   have hfe:=fnE_eq hg1 hpf
   rw [hfe]
   (repeat' first|refine vw ?_ ?_<;>intro hq|refine vz ?_|simp -implicitDefEqProofs only [go_sem])
   ((try (refine Z_seq ?_; (try simp -implicitDefEqProofs only [go_sem]))); refine Z_draw (by kernel_rfl) [0,1,2,3,4,5,6,7,8,9,10] [(10,1023),(9,511),(8,128),(7,0),(6,63),(5,24),(4,0),(3,0),(2,2),(1,0),(0,0)] (by kernel_rfl) (by kernel_rfl) ?_)
   simp -implicitDefEqProofs only [go_sem,g0,kP,cP,iP,kB,cB,iB,hF1,kS,cS,iS,kF,cF,iF]
   refine (allRC (Nat.le_refl _) hB hb' hb hS hP hF2 (hl.take _) hg (by omega) (by rw [List.length_take]; omega)).useD ?_
   simp -implicitDefEqProofs only [go_sem]
   by_cases hz:stEs g f.ps (fs.take j) f.body=0
   ·rw [if_pos hz]
    (repeat' first|refine vw ?_ ?_<;>intro hq|refine vz ?_|simp -implicitDefEqProofs only [go_sem,dct hz,g0])
    refine (retRC (Nat.le_refl _) hB hb' h4).use ?_
    cases hr:retSs f.body with
    | false=>
     (repeat' first|refine vw ?_ ?_<;>intro hq|refine vz ?_|simp -implicitDefEqProofs only [go_sem,hr])
     exact ret_int rfl
    | true=>
     (repeat' first|refine vw ?_ ?_<;>intro hq|refine vz ?_|simp -implicitDefEqProofs only [go_sem,hr])
     exact ret_int rfl
   ·rw [if_neg hz]
    (repeat' first|refine vw ?_ ?_<;>intro hq|refine vz ?_|simp -implicitDefEqProofs only [go_sem,dcf hz])
    exact ret_int rfl
theorem checkF_ps {l:List Fc} (h:checkF nameB l=0) {f:Fc} (hf:f∈l):f.ps.length<=4:=by
 unfold checkF at h
 split at h
 ·split at h
  ·rename_i hs
   simp only [smallF,Bool.and_eq_true,decide_eq_true_eq,List.all_eq_true] at hs
   exact (hs.1.1 f hf).2
  ·cases h
 ·cases h
theorem refFuncsC {w:WD} {L S:AVal} {els:List AVal} {fs:List Fc} {g:List ByteArray} (hL:IsD 3 L els) (hl:IsFcs fs els) (hlen:els.length<=281474976710656) (hb:nodesF fs<=1099511627776)
  (hS:IsD 1 S (g.map sA)) (hg:g.length<=281474976710656):
  GivesV (EE w) 59 [L,S] (.tuple [(.sc (.int .i64 ((funcsP nameB fs g).1))),(.sc (.int .i64 ((funcsP nameB fs g).2)))]):=by
 have hC:=fun w:WD=>checkFuncsRC (w:=w) hL hl hlen hb
 have hll:=hl.len
 have hLn:∀ σ:AStore,aLen (.slice 0) L σ=some (.sc (.int .i64 (fs.length))):=fun σ=>hL.lenN hll
 rw [funcsP_if]
 refine GivesV.of (fun _=>.sc _) (.cons _ _ (hL.wf hl.wf) (.cons _ _ (hS.wf (wf_sA _)) .nil)) 2 ?_
 refine of_59 rfl rfl rfl (by kernel_rfl) ?_
 simp -implicitDefEqProofs only [go_sem]
 refine (hC _).use ?_
 by_cases hz:checkF nameB fs=0
 ·rw [if_pos hz]
  have hsm:=checkF_small hz
  (repeat' first|refine vw ?_ ?_<;>intro hq|refine vz ?_|simp -implicitDefEqProofs only [go_sem,dct hz])
  refine vlp (ι:=Nat) (fun j=>[(0,L),(1,S),(7,(.sc (.int .i64 (j))))]) (fun j τ=>j<=fs.length/\goF g [] fs=goF g (fs.take j) (fs.drop j)) (fun j=>fs.length - j) (fun _=>rfl) 0 ?_ ?_ ?_
  ·exact vsu
  ·exact ⟨Nat.zero_le _,by simp⟩
  rintro j τ ⟨hj,hgo⟩
  simp -implicitDefEqProofs only [go_sem,hLn]
  (refine vif ?_ ?_<;>intro hlt)
  ·obtain ⟨f,hf⟩:∃ f,fs[j]?=some f:=⟨fs[j]'(by omega),by simp⟩
   have hat:=goF_at hf hgo
   have hw:=wrapS (i:=j) (by omega)
   have hbf:nodesSs f.body<=400:=by
    have h1:=nodesF_take1 fs hf
    have h2:=nodesF_le (l:=fs) (i:=j+1)
    omega
   have hjl:(fs.take j).length=j:=by rw [List.length_take]; omega
   rw [hjl] at hat
   (repeat' first|refine vw ?_ ?_<;>intro hq|refine vz ?_|simp -implicitDefEqProofs only [go_sem])
   refine (oneRC hL hl hlen hS hg hf hbf (checkF_ps hz (List.mem_of_getElem? hf))).use ?_
   by_cases hy:fnE g (fs.take j) f=0
   ·rw [if_pos hy] at hat
    (repeat' first|refine vw ?_ ?_<;>intro hq|refine vz ?_|simp -implicitDefEqProofs only [go_sem,dct hy,hw])
    exact ⟨j+1,vom,⟨vom,hat⟩,vsu⟩
   ·rw [if_neg hy] at hat
    rw [hat]
    (repeat' first|refine vw ?_ ?_<;>intro hq|refine vz ?_|simp -implicitDefEqProofs only [go_sem,dcf hy])
    exact ⟨_,rfl,rfl⟩
  ·obtain rfl:j=fs.length:=by omega
   rw [List.drop_length,goF] at hgo
   rw [hgo]
   (repeat' first|refine vw ?_ ?_<;>intro hq|refine vz ?_|simp -implicitDefEqProofs only [go_sem])
   exact ⟨_,rfl,rfl⟩
 ·rw [if_neg hz]
  (repeat' first|refine vw ?_ ?_<;>intro hq|refine vz ?_|simp -implicitDefEqProofs only [go_sem,dcf hz])
  exact ⟨_,rfl,rfl⟩
theorem refExpC {w:WD} {X L S:AVal} {x:Ex} {els:List AVal} {fs:List Fc} {g:List ByteArray} (hX:IsEx x X) (hxb:nodesE x<=1099511627776) (hL:IsD 3 L els) (hl:IsFcs fs els) (hlen:els.length<=281474976710656) (hb:nodesF fs<=1099511627776)
  (hS:IsD 1 S (g.map sA)) (hg:g.length<=281474976710656):
  GivesV (EE w) 30 [X,S,L] (.sc (.int .i64 (expP nameB x g fs))):=by
 obtain ⟨c1,c2,c3⟩:=hX.isA.facts
 have cc:=hX.cellsOk
 have hfit:X.fit=true:=by obtain ⟨cs,rfl,_⟩:=hX.isA; rfl
 have hE:=fun w:WD=>checkExpRC (w:=w) hX hxb
 have kS:=hS.fit
 have cS:=hS.cells
 have iS:=hS.isCell
 have kL:=hL.fit
 have cL:=hL.cells
 have iL:=hL.isCell
 rw [expP_if]
 refine GivesV.of (fun _=>.sc _) (.cons _ _ hX.wf (.cons _ _ (hS.wf (wf_sA _)) (.cons _ _ (hL.wf hl.wf) .nil))) 2 ?_
 refine of_30 rfl rfl rfl (by kernel_rfl) ?_
 simp -implicitDefEqProofs only [go_sem,c1,c2,c3,cc,hfit]
 have g0:(empty.alloc (.cells 4 [X])).get 0=some (.cells 4 [X]):=by rw [AStore.get_alloc]; rfl
 generalize empty.alloc (.cells 4 [X])=τ at g0 ⊢
 (repeat' first|refine vw ?_ ?_<;>intro hq|refine vz ?_|simp -implicitDefEqProofs only [go_sem,g0,c1,c2,c3,cc,hfit])
 refine (hE _).use ?_
 by_cases hz:checkE nameB x=0
 ·rw [if_pos hz]
  (repeat' first|refine vw ?_ ?_<;>intro hq|refine vz ?_|simp -implicitDefEqProofs only [go_sem,dct hz])
  refine (refFuncsC hL hl hlen hb hS hg).use ?_
  by_cases hy:(funcsP nameB fs g).2=0
  ·rw [if_pos hy]
   (repeat' first|refine vw ?_ ?_<;>intro hq|refine vz ?_|simp -implicitDefEqProofs only [go_sem,dct hy,g0,c1,c2,c3,cc,hfit,kS,cS,iS,kL,cL,iL])
   refine (expRC (o:=[]) hX ⟨S,(.sc (.slice none 0 0)),L,els,rfl,hS,.inl ⟨rfl,_,_,rfl⟩,hL,hl,hg,by simp,hlen⟩).use ?_
   (repeat' first|refine vw ?_ ?_<;>intro hq|refine vz ?_|simp -implicitDefEqProofs only [go_sem])
   exact ⟨_,rfl,rfl⟩
  ·rw [if_neg hy]
   (repeat' first|refine vw ?_ ?_<;>intro hq|refine vz ?_|simp -implicitDefEqProofs only [go_sem,dcf hy])
   exact ⟨_,rfl,rfl⟩
 ·rw [if_neg hz]
  (repeat' first|refine vw ?_ ?_<;>intro hq|refine vz ?_|simp -implicitDefEqProofs only [go_sem,dcf hz])
  exact ⟨_,rfl,rfl⟩
end Abs
end
