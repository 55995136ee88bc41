/-
  Functions of the program walked: each is shown to compute a plain function (T18).
-/
import Derived.Test.YtdbkkindfakbfaaGreatT8
set_option linter.unusedSimpArgs false
set_option linter.unusedVariables false
set_option maxRecDepth 100000
set_option maxHeartbeats 16000000
noncomputable section
namespace Abs
open Go Go.Proofs
def St.k:St->Int|.mk k _ _ _ _=>k
def St.nm:St->ByteArray|.mk _ n _ _ _=>n
def mk1 (x:St):List ByteArray:=if x.k=1 then [x.nm] else []
def madeSs:List St->List ByteArray
 | []=>[]
 | x::xs=>mk1 x++madeSs xs
theorem madeSs_take:∀ {xs:List St} {i:Nat} {x:St},xs[i]?=some x->madeSs (xs.take (i+1))=madeSs (xs.take i)++mk1 x
  | [],i,x,h=>by simp at h
  | y::xs,0,x,h=>by simp at h; subst h; simp [madeSs]
  | y :: xs, i + 1, x, h => by
      have:=madeSs_take (xs:=xs) (i:=i) (x:=x) (by simpa using h)
      simp only [List.take_succ_cons,madeSs] at this ⊢
      rw [this,List.append_assoc]
theorem mk1_length (x:St):(mk1 x).length<=1:=by unfold mk1; split<;>simp
theorem madeSs_length:∀ (xs:List St),(madeSs xs).length<=xs.length
  | []=>Nat.le_refl _
  | x :: xs => by
      have:=madeSs_length xs
      have:=mk1_length x
      simp only [madeSs,List.length_append,List.length_cons]; omega
theorem scope_mk1 {o:List ByteArray} (x:St):(match x with|.mk k nm _ _ _=>if k=1 then o++[nm] else o)=o++mk1 x:=by
 cases x
 simp only [mk1,St.k,St.nm]
 split<;>rename_i h<;>simp [h]
theorem stEs_cons {g o:List ByteArray} {l:List Fc} {x:St} {xs:List St}:stEs g o l (x::xs)=if stE g o l x=0 then stEs g (o++mk1 x) l xs else stE g o l x:=by
 conv=>lhs; unfold stEs
 by_cases h:stE g o l x=0
 ·rw [if_pos h,h]
  exact congrArg (fun z=>stEs g z l xs) (scope_mk1 x)
 ·rw [if_neg h]
  split
  ·rename_i hh; exact absurd hh h
  ·rfl
theorem stEs_eq {g:List ByteArray} {l:List Fc}:∀ {xs:List St} {o:List ByteArray} {i:Nat} {x:St},xs[i]?=some x->stEs g o l (xs.take i)=0->stE g (o++madeSs (xs.take i)) l x≠0->stEs g o l xs=stE g (o++madeSs (xs.take i)) l x
  | [],o,i,x,h,_,_=>by simp at h
  | y :: xs, o, 0, x, h, _, hne => by
      simp at h; subst h
      simp only [List.take_zero,madeSs,List.append_nil] at hne ⊢
      rw [stEs_cons,if_neg hne]
  | y :: xs, o, i + 1, x, h, h0, hne => by
      simp only [List.take_succ_cons,madeSs,<-List.append_assoc] at h0 hne ⊢
      rw [stEs_cons] at h0
      split at h0
      · rename_i hh
        rw [stEs_cons,if_pos hh]
        exact stEs_eq (by simpa using h) h0 hne
      · rename_i hh; exact absurd h0 hh
theorem stEs_take {g:List ByteArray} {l:List Fc}:∀ {xs:List St} {o:List ByteArray} {i:Nat} {x:St},xs[i]?=some x->stEs g o l (xs.take i)=0->stE g (o++madeSs (xs.take i)) l x=0->stEs g o l (xs.take (i+1))=0
  | [],o,i,x,h,_,_=>by simp at h
  | y :: xs, o, 0, x, h, _, h0 => by
      simp at h; subst h
      simp only [List.take_zero,madeSs,List.append_nil] at h0
      simp only [Nat.zero_add,List.take_succ_cons,List.take_zero]
      rw [stEs_cons,if_pos h0]; rfl
  | y :: xs, o, i + 1, x, h, h1, h0 => by
      simp only [List.take_succ_cons,madeSs,<-List.append_assoc] at h0 h1 ⊢
      rw [stEs_cons] at h1 ⊢
      split at h1
      · rename_i hh
        rw [if_pos hh]
        exact stEs_take (by simpa using h) h1 h0
      · rename_i hh; exact absurd h1 hh
theorem stE_mk {g o:List ByteArray} {l:List Fc} {k:Int} {nm:ByteArray} {v:Ex} {b e:List St}:stE g o l (.mk k nm v b e)=if expE g o l v=0 then
  (if (k=1/\(nm∈g\/nm∈o))\/(k=2/\nm ∉ o) then 90
   else if stEs g (o++mk1 (.mk k nm v b e)) l b=0 then stEs g (o++mk1 (.mk k nm v b e)) l e else stEs g (o++mk1 (.mk k nm v b e)) l b) else expE g o l v:=by
 have hm:(if k=1 then o++[nm] else o)=o++mk1 (.mk k nm v b e):=by
  simp only [mk1,St.k,St.nm]; split<;>rename_i h<;>simp [h]
 conv=>lhs; unfold stE
 rw [hm]
 by_cases h:expE g o l v=0
 ·rw [if_pos h,h]
  show (if _ then _ else _)=_
  split
  ·rfl
  ·by_cases h2:stEs g (o++mk1 (.mk k nm v b e)) l b=0
   ·rw [if_pos h2,h2]; rfl
   ·rw [if_neg h2]
    split
    ·rename_i hh; exact absurd hh h2
    ·rfl
 ·rw [if_neg h]
  split
  ·rename_i hh; exact absurd hh h
  ·rfl
theorem nodesS_pos:∀ x:St,1<=nodesS x
 | .mk _ _ _ _ _=>by simp only [nodesS]; omega
theorem len_nodesSs:∀ xs:List St,xs.length<=nodesSs xs
  | []=>Nat.le_refl _
  | x :: xs => by
      have:=len_nodesSs xs
      have:=nodesS_pos x
      simp only [nodesSs,List.length_cons]; omega
theorem ms_new {σ:AStore} {b c:Nat} {m:List (ByteArray×AVal)} {k:ByteArray} {v:AVal} (h:getM m k=none):msAt σ b .string (.string k) v (some (.map (strM m) c))=some (σ.set b (.map (strM (m++[(k,v)])) (c+1))):=by
 simp only [msAt,aFind_str,h,Option.map_none,Option.map_some]
 rw [strM_append]; rfl
structure AI (σ:AStore) (ps mn mc:Nat) (m q:List (ByteArray×AVal)) (g o:List ByteArray) (made:List ByteArray) (τ:AStore):Prop where
 k:KeepM mn σ τ
 n:σ.next+2<=τ.next
 nm:∃ c,τ.get mn=some (.map (strM (mkM m made)) c)
 v:∃ v,τ.get (σ.next+1)=some (.cells 1 [v])/\Own τ 1 v (made.map sA)/\∀ b l,v=.slice b 0 l->σ.next+2<=b
 r:τ.get σ.next=some (.cells 1 [.ptr ps 0 0])
 fr:∀ k∈made,getM m k=none
 nmm:Nm (mkM m made) g (o++made)
theorem AI.keep {σ τ τ':AStore} {ps mn mc:Nat} {m q:List (ByteArray×AVal)} {g o made:List ByteArray} (h:AI σ ps mn mc m q g o made τ) (hm:mn < σ.next) (hk:KeepM mn τ τ') (hn:∃ c,τ'.get mn=some (.map (strM (mkM m made)) c)):AI σ ps mn mc m q g o made τ':=by
 obtain ⟨h1,h2,h3,⟨v,h4,h5,h6⟩,h7,h8,h9⟩:=h
 refine ⟨h1.trans hk,Nat.le_trans h2 hk.1,hn,⟨v,hk.2 _ _ (by omega) h4,h5.mono ?_,h6⟩,hk.2 _ _ (by omega) h7,h8,h9⟩
 intro b x hb hg
 have:=h6 b _ hb
 exact hk.2 _ _ (by omega) hg
theorem AI.keepS {σ τ τ':AStore} {ps mn mc:Nat} {m q:List (ByteArray×AVal)} {g o made:List ByteArray} (h:AI σ ps mn mc m q g o made τ) (hm:mn < σ.next) (hk:KeepS τ τ'):AI σ ps mn mc m q g o made τ':=by
 obtain ⟨c,hc⟩:=h.nm
 exact h.keep hm hk.m ⟨c,hk.2 _ _ hc⟩
theorem AI.sc {σ τ:AStore} {ps mn mc:Nat} {m q:List (ByteArray×AVal)} {g o made:List ByteArray} (h:AI σ ps mn mc m q g o made τ) (hs:Sc σ ps mn mc m q):Sc τ ps mn mc (mkM m made) q:=by
 obtain ⟨p1,⟨n1,p2⟩,⟨n2,p3⟩,pne⟩:=hs
 have pnp:ps≠mn:=by rintro rfl; rw [p1] at p2; cases p2
 exact ⟨h.k.2 _ _ pnp p1,h.nm,⟨n2,h.k.2 _ _ (Ne.symm pne) p3⟩,pne⟩
theorem AI.leave {w:WD} {σ τ:AStore} {ps mn mc:Nat} {m q:List (ByteArray×AVal)} {g o made:List ByteArray} (h:AI σ ps mn mc m q g o made τ) (hs:Sc σ ps mn mc m q) (hl:made.length<=400) {R:AEnd->AStore->Prop}
  (hR:∀ r σ',KeepM mn σ σ'->(∃ c,σ'.get mn=some (.map (strM m) c))->R (.ret r) σ'):ACallsD (EE w) 125 [.ptr (σ.next+1) 0 0,.ptr σ.next 0 0] τ R:=by
 have hsc:=h.sc hs
 obtain ⟨p1,⟨n1,p2⟩,⟨n2,p3⟩,pne⟩:=hs
 have b2:=AStore.lt_of_get p2
 obtain ⟨v,h4,h5,h6⟩:=h.v
 refine (allDC h4 h.r h5 hsc h.fr hl (fun l hv=>by have:=h6 _ _ hv; omega) (by omega) (by omega)).mono ?_
 rintro _ σ' ⟨⟨r,rfl⟩,k1,k2⟩
 exact hR r σ' (h.k.trans k1) k2
theorem Z_seqmid {E:Env} {n:Nat} {x y:Code} {Q:SPred} {e:Ev} {σ:AStore} (P:Ev->AStore->Prop) (h1:Z E n x (mid P Q) e σ) (h2:∀ e σ,P e σ->V E n y Q e σ):Z E n (.seq x y) Q e σ:=by
 intro hc he
 simp only [okC,Bool.and_eq_true] at hc
 refine AWp.seq ((Z_mid P h1 h2 hc.1 he).mono ?_)
 rintro ex a σ ⟨e,h3,h4,h5⟩
 cases ex with
 | normal=>exact (V_sound y h5 hc.2 h3).weaken h4
 | _=>exact ⟨e,h3,h4,h5⟩
theorem Z_ofV {E:Env} {n:Nat} {c:Code} {Q:SPred} {e:Ev} {σ:AStore} (h:V E n c Q e σ):Z E n c Q e σ:=fun hc he=>V_sound c h hc he
theorem allStep {xs:List St} {w:WD} {L:AVal} {els:List AVal} {g o:List ByteArray} {l:List Fc} (hL:IsD 8 L els) (hx:IsSts xs els) (hb:nodesSs xs<=400)
  (rec:∀ x∈xs,∀ (ys:List St),(∀ k nm v b e,x=.mk k nm v b e->ys=b\/ys=e)->∀ (w:WD) (L:AVal) (els:List AVal) (g o:List ByteArray) (σ:AStore) (ps mn mc:Nat) (m q:List (ByteArray×AVal)),IsD 8 L els->IsSts ys els->nodesSs ys<=400->Sc σ ps mn mc m q->Nm m g o->Cm q l->
   ACalls (EE w) 105 [.ptr ps 0 0,L] σ fun e σ'=>e=.ret (.sc (.int .i64 (stEs g o l ys)))/\KeepM mn σ σ'/\∃ c,σ'.get mn=some (.map (strM m) c))
  {σ:AStore} {ps mn mc:Nat} {m q:List (ByteArray×AVal)} (hs:Sc σ ps mn mc m q) (hm:Nm m g o) (hq:Cm q l):
  ACalls (EE w) 105 [.ptr ps 0 0,L] σ fun e σ'=>e=.ret (.sc (.int .i64 (stEs g o l xs)))/\KeepM mn σ σ'/\∃ c,σ'.get mn=some (.map (strM m) c):=by
 obtain ⟨p1,⟨n1,p2⟩,⟨n2,p3⟩,pne⟩:=hs
 have pnp:ps≠mn:=by rintro rfl; rw [p1] at p2; cases p2
 have b2:=AStore.lt_of_get p2
 have hLn:=fun σ:AStore=>hL.lenN (hx.len) (σ:=σ)
 refine ot_105 rfl rfl rfl (by decide) ?_
 refine Top_seq0 (E:=EE ⟨w.w,[]⟩) (fn:=Tryz.f105) rfl rfl (Z_ofV ?_)
 simp -implicitDefEqProofs only [go_sem]
 refine Top_seq0 (E:=EE ⟨w.w,[]⟩) (fn:=Tryz.f105) rfl rfl (Z_ofV ?_)
 simp -implicitDefEqProofs only [go_sem]
 refine Top_dfr1 (E:=EE ⟨w.w,[]⟩) (Ed:=fun ds=>EE ⟨w.w,ds⟩) (fun _=>rfl) rfl rfl ?_
 simp -implicitDefEqProofs only [go_sem]
 refine ⟨⟨.func 125,[.ptr (σ.next+1) 0 0,.ptr σ.next 0 0],[]⟩,rfl,?_⟩
 refine Top_unds (E:=EE ⟨w.w,[]⟩) (Ed:=fun ds=>EE ⟨w.w,ds⟩) (fun _=>rfl) rfl (g:=125) (cap:=[.ptr (σ.next+1) 0 0,.ptr σ.next 0 0]) (as':=[]) rfl rfl rfl (Z_ofV ?_)
 have e5:((σ.alloc (.cells 1 [.ptr ps 0 0])).alloc (.cells 1 [.sc (.slice none 0 0)])).get (σ.next+1)=some (.cells 1 [.sc (.slice none 0 0)]):=by rw [AStore.get_alloc,if_pos (show σ.next+1=(σ.alloc _).next from rfl)]
 have e2:((σ.alloc (.cells 1 [.ptr ps 0 0])).alloc (.cells 1 [.sc (.slice none 0 0)])).get σ.next=some (.cells 1 [.ptr ps 0 0]):=get_alloc_old (by rw [AStore.get_alloc,if_pos rfl])
 have ek:KeepS σ ((σ.alloc (.cells 1 [.ptr ps 0 0])).alloc (.cells 1 [.sc (.slice none 0 0)])):=(KeepS.alloc σ _).trans (KeepS.alloc _ _)
 have en:((σ.alloc (.cells 1 [.ptr ps 0 0])).alloc (.cells 1 [.sc (.slice none 0 0)])).next=σ.next+2:=rfl
 generalize (σ.alloc (.cells 1 [.ptr ps 0 0])).alloc (.cells 1 [.sc (.slice none 0 0)])=τ0 at e5 e2 ek en ⊢
 have hln:=hx.len
 simp -implicitDefEqProofs only [go_sem,hLn]
 refine vlp (ι:=Nat) (fun j=>[(0,.ptr ps 0 0),(2,.ptr σ.next 0 0),(5,.ptr (σ.next+1) 0 0),(15,L),(16,(.sc (.int .i64 (xs.length)))),(17,(.sc (.int .i64 (j))))]) (fun j τ=>j<=xs.length/\AI σ ps mn mc m q g o (madeSs (xs.take j)) τ/\stEs g o l (xs.take j)=0) (fun j=>xs.length - j) (fun _=>rfl) 0 ?_ ?_ ?_
 ·exact vsu
 ·refine ⟨Nat.zero_le _,⟨ek.m,by omega,⟨n1,?_⟩,⟨_,e5,Own.nil,fun _ _ h=>by cases h⟩,e2,by simp [madeSs],?_⟩,rfl⟩
  ·simpa [madeSs,mkM] using ek.2 _ _ p2
  ·simpa [madeSs,mkM] using hm
 rintro j τ ⟨hj,hA,h0⟩
 have hml:(madeSs (xs.take j)).length<=400:=by
  have:=madeSs_length (xs.take j)
  have:=len_nodesSs xs
  simp only [List.length_take] at*
  omega
 simp -implicitDefEqProofs only [go_sem]
 (refine vif ?_ ?_<;>intro hlt)
 ·obtain ⟨x,hx1⟩:∃ x,xs[j]?=some x:=⟨xs[j]'(by omega),by simp⟩
  obtain ⟨e,he,hxe⟩:=hx.at hx1
  obtain ⟨k,nm,v,body,els'⟩:=x
  have cc:=hxe.cellsOk
  have hxe0:=hxe
  simp only [IsSt] at hxe
  obtain ⟨SA,SB,SE,ea,eb,ee,rfl,hA',ha,hB,hb',hE,hee,h1,h2,h3,h4,h5,h6,h7,h8⟩:=hxe
  have hvx:=ex_of hA' ha h2 h3 h5 h6
  have kA:=hA'.fit
  have cA:=hA'.cells
  have iA:=hA'.isCell
  have kB:=hB.fit
  have cB:=hB.cells
  have iB:=hB.isCell
  have kE:=hE.fit
  have cE:=hE.cells
  have iE:=hE.isCell
  obtain ⟨r1,r2,r3,r4,r5,r6,r7⟩:=hA
  have hk3:∀ a b,KeepS τ ((τ.alloc a).set τ.next b):=fun a b=>(KeepS.alloc τ a).set (Nat.le_refl _) b
  have r5':∀ a b,((τ.alloc a).set τ.next b).get σ.next=some (.cells 1 [.ptr ps 0 0]):=fun a b=>(hk3 a b).2 _ _ r5
  (repeat' first|refine vw ?_ ?_<;>intro hq|refine vz ?_|simp -implicitDefEqProofs only [go_sem,hL.idx he,cc,kA,cA,iA,kB,cB,iB,kE,cE,iE,r5'])
  have hs:Sc σ ps mn mc m q:=⟨p1,⟨n1,p2⟩,⟨n2,p3⟩,pne⟩
  have hA1:∀ a b,AI σ ps mn mc m q g o (madeSs (xs.take j)) ((τ.alloc a).set τ.next b):=fun a b=>AI.keepS ⟨r1,r2,r3,r4,r5,r6,r7⟩ b2 (hk3 _ _)
  have hg1:∀ a b,((τ.alloc a).set τ.next b).get τ.next=some b:=fun a b=>by rw [AStore.get_set,if_pos ⟨rfl,by simp only [alloc_next]; omega⟩]
  refine (tExpC hvx ((hA1 _ _).sc hs) r7 hq).mono ?_
  rintro _ τ1 ⟨rfl,hk4⟩
  have hA2:AI σ ps mn mc m q g o (madeSs (xs.take j)) τ1:=(hA1 _ _).keepS b2 hk4
  have hg2:=hk4.2 _ _ (hg1 _ _)
  have hnb:σ.next+2<=τ.next:=r2
  have hnb1:τ.next < τ1.next:=AStore.lt_of_get hg2
  have hkA:KeepS τ τ1:=(hk3 _ _).trans hk4
  obtain ⟨v0,f1',f2',f3⟩:=r4
  have fv:∀ b l,v0=.slice b 0 l->b < τ.next:=by
   intro b l hb
   rcases f2' with ⟨_,hh⟩|⟨_,b',hh,hg⟩
   ·rw [hh] at hb; cases hb
   ·rw [hh] at hb; cases hb; exact AStore.lt_of_get hg
  have f1:=hkA.2 _ _ f1'
  have f2:Own τ1 1 v0 ((madeSs (xs.take j)).map sA):=f2'.mono fun b x _ hg=>hkA.2 _ _ hg
  clear hk4 hA1 hg1 hk3 r5' r1 r2 r3 r5 r6 f1' f2' hkA
  by_cases hv0:expE g (o++madeSs (xs.take j)) l v=0
  ·(repeat' first|refine vw ?_ ?_<;>intro hq|refine vz ?_|simp -implicitDefEqProofs only [go_sem,dct hv0,hg2])
   obtain ⟨sp1,⟨c1,sp2⟩,⟨c2,sp3⟩,_⟩:=hA2.sc hs
   have sr:=hA2.r
   ((try (refine Z_seq ?_; (try simp -implicitDefEqProofs only [go_sem]))); refine Z_draw (by kernel_rfl) [0,1,2,3,4,5,6,7,8,9,10,11] [(11,2047),(10,511),(9,255),(8,255),(7,127),(6,63),(5,16),(4,0),(3,7),(2,3),(1,1),(0,0)] (by kernel_rfl) (by kernel_rfl) ?_)
   simp -implicitDefEqProofs only [go_sem,hg2,sr,sp1,sp2,lk_strS,lk_nm r7]
   refine Z_seqmid (fun e σ'=>look? e 0=some (.ptr ps 0 0)/\look? e 2=some (.ptr σ.next 0 0)/\look? e 5=some (.ptr (σ.next+1) 0 0)/\look? e 7=some (.ptr τ.next 0 0)/\look? e 15=some L/\look? e 16=some (.sc (.int .i64 (xs.length)))/\look? e 17=some (.sc (.int .i64 (j)))/\
    AI σ ps mn mc m q g o (madeSs (xs.take j)++mk1 (.mk k nm v body els')) σ'/\(σ'.get τ.next=some (.cells 8 [.agg [(.sc (.int .i64 (k))),.sc (.string nm),(.sc (.int .i64 (v.k))),.sc (.string v.nm),(.sc (.int .i64 (v.i))),SA,SB,SE]]))/\
    ¬ ((k=1/\(nm∈g\/nm∈o++madeSs (xs.take j)))\/(k=2/\nm ∉ o++madeSs (xs.take j)))) ?_ ?_
   ·by_cases k1:k=1
    ·by_cases hT:nm∈g\/nm∈o++madeSs (xs.take j)
     ·(try simp -implicitDefEqProofs only [go_sem,dct k1,dct hT])
      (repeat' first|refine vw ?_ ?_<;>intro hq|refine vz ?_|simp -implicitDefEqProofs only [go_sem,hg2,dct k1,dct hT])
      refine hA2.leave hs hml fun r σ' q1 q2=>?_
      simp -implicitDefEqProofs only [go_sem]
      refine ⟨?_,q1,q2⟩
      have e1:stE g (o++madeSs (xs.take j)) l (.mk k nm v body els')=90:=by rw [stE_mk,if_pos hv0,if_pos (.inl ⟨k1,hT⟩)]
      rw [stEs_eq hx1 h0 (by rw [e1]; decide),e1]; rfl
     ·(try simp -implicitDefEqProofs only [go_sem,dct k1,dcf hT])
      (repeat' first|refine vw ?_ ?_<;>intro hq|refine vz ?_|simp -implicitDefEqProofs only [go_sem,hg2,dct k1,dcf hT])
      have hnone:=r7.none hT
      have mlt:mn < τ1.next:=by omega
      have hne1:(σ.next+1=mn)=False:=eq_false (by omega)
      have hne2:(τ.next=mn)=False:=eq_false (by omega)
      have f4:=f2.fit
      have f5:=f2.cells
      have f6:=f2.isCell
      ((try (refine Z_seq ?_; (try simp -implicitDefEqProofs only [go_sem]))); refine Z_draw (by kernel_rfl) [0,1,2,3,4,5,6] [(6,63),(5,16),(4,0),(3,7),(2,3),(1,1),(0,0)] (by kernel_rfl) (by kernel_rfl) ?_)
      simp -implicitDefEqProofs only [go_sem,hg2,sr,sp1,sp2,ms_str,ms_new hnone,hne1,hne2,false_and,if_false,f1,f4,f5,f6]
      have hmk1:mk1 (.mk k nm v body els')=[nm]:=by simp [mk1,St.k,St.nm,k1]
      obtain ⟨τ2,hτ2⟩:∃ τ2,τ2=τ1.set mn (.map (strM (mkM m (madeSs (xs.take j))++[(nm,(.sc (.bool (true))))])) (c1+1)):=⟨_,rfl⟩
      rw [<-hτ2]
      have g1:τ2.get (σ.next+1)=some (.cells 1 [v0]):=by rw [hτ2,AStore.get_set,if_neg (by omega)]; exact f1
      have g2:τ2.get τ.next=some (.cells 8 [.agg [(.sc (.int .i64 (k))),.sc (.string nm),(.sc (.int .i64 (v.k))),.sc (.string v.nm),(.sc (.int .i64 (v.i))),SA,SB,SE]]):=by rw [hτ2,AStore.get_set,if_neg (by omega)]; exact hg2
      have g3:τ2.get mn=some (.map (strM (mkM m (madeSs (xs.take j)++[nm]))) (c1+1)):=by rw [hτ2,AStore.get_set,if_pos ⟨rfl,mlt⟩,mkM_snoc]
      have g4:KeepM mn τ1 τ2:=by rw [hτ2]; exact (KeepM.refl mn τ1).set _
      have g5:Own τ2 1 v0 ((madeSs (xs.take j)).map sA):=f2.mono fun b x hb hg=>g4.2 _ _ (by have:=f3 _ _ hb; omega) hg
      have g6:τ2.next=τ1.next:=by rw [hτ2,set_next]
      clear hτ2
      obtain ⟨v',τ4,q1,q2,q3,q4,q5⟩:=(g5.alloc (.cells 1 [.sc (.string nm)])).append' (xs:=[.sc (.string nm)]) (bytes:=16) (by simp only [List.length_map,List.length_cons,List.length_nil]; omega) (by decide) (by decide) rfl
      have q6:τ4.get (σ.next+1)=some (.cells 1 [v0]):=q4 _ _ (get_alloc_old g1) fun l hc=>by have:=f3 _ _ hc; omega
      have q7:τ4.get τ.next=some (.cells 8 [.agg [(.sc (.int .i64 (k))),.sc (.string nm),(.sc (.int .i64 (v.k))),.sc (.string v.nm),(.sc (.int .i64 (v.i))),SA,SB,SE]]):=q4 _ _ (get_alloc_old g2) fun l hc=>by have:=fv _ _ hc; omega
      have q8:=q2.fit
      have q9:=q2.cells
      have q10:=q2.isCell
      have hst:storeEl v0 0 [v']=v':=by rcases f2 with ⟨_,rfl⟩|⟨_,b,rfl,_⟩<;>rfl
      (repeat' first|refine vw ?_ ?_<;>intro hq|refine vz ?_|simp -implicitDefEqProofs only [go_sem,q1,q6,q8,q9,q10,f5,hst])
      have hb5:σ.next+1 < τ4.next:=AStore.lt_of_get q6
      have ks:∀ b y,b < σ.next+2->τ2.get b=some y->τ4.get b=some y:=fun b y hb hg=>q4 _ _ (get_alloc_old hg) fun l hc=>by have:=f3 _ _ hc; omega
      have fv':∀ b l,v'=.slice b 0 l->σ.next+2<=b:=by
       intro b l hb
       rcases Nat.lt_or_ge b (σ.next+2) with hh|hh
       ·exact absurd hb (q5 b (by simp only [alloc_next]; omega) (fun l hc=>by have:=f3 _ _ hc; omega) l)
       ·exact hh
      have q3':τ1.next+1<=τ4.next:=by simp only [alloc_next] at q3; omega
      have k0:=hA2.k
      refine ⟨?_,by rw [if_neg (by omega)]; exact q7,by rintro (⟨_,h⟩|⟨h,_⟩); exact hT h; omega⟩
      rw [hmk1]
      refine ⟨⟨by rw [set_next]; have:=k0.1; omega,fun b y hb hg=>?_⟩,by rw [set_next]; omega,⟨c1+1,?_⟩,⟨v',?_,?_,fv'⟩,?_,?_,?_⟩
      ·have hlt:=AStore.lt_of_get hg
       rw [AStore.get_set,if_neg (by omega)]
       exact ks b y (by omega) (g4.2 _ _ hb (k0.2 _ _ hb hg))
      ·rw [AStore.get_set,if_neg (by omega)]
       exact ks mn _ (by omega) g3
      ·rw [AStore.get_set,if_pos ⟨rfl,hb5⟩]
      ·rw [List.map_append]
       refine Own.mono q2 fun b x hb hg=>?_
       have:=fv' _ _ hb
       rw [AStore.get_set,if_neg (by omega)]
       exact hg
      ·rw [AStore.get_set,if_neg (by omega)]
       exact ks σ.next _ (by omega) (g4.2 _ _ (by omega) sr)
      ·intro k' hk'
       rcases List.mem_append.1 hk' with hk'|hk'
       ·exact hA2.fr k' hk'
       ·obtain rfl:=List.mem_singleton.1 hk'
        exact hm.none fun hc=>hT (hc.imp id fun hc=>List.mem_append.2 (.inl hc))
      ·have:=r7.snoc hT
       rw [mkM_snoc,<-List.append_assoc]
       exact this
    ·by_cases k2:k=2
     ·by_cases hO:nm∈o++madeSs (xs.take j)
      ·(try simp -implicitDefEqProofs only [go_sem,dcf k1,dct k2,dct hO])
       (repeat' first|refine vw ?_ ?_<;>intro hq|refine vz ?_|simp -implicitDefEqProofs only [go_sem,hg2,dcf k1,dct k2,dct hO])
       rw [show mk1 (.mk k nm v body els')=[] from by simp [mk1,St.k,k1],List.append_nil]
       exact ⟨hA2,by rintro (⟨h,_⟩|⟨_,h⟩); exact k1 h; exact h hO⟩
      ·(try simp -implicitDefEqProofs only [go_sem,dcf k1,dct k2,dcf hO])
       (repeat' first|refine vw ?_ ?_<;>intro hq|refine vz ?_|simp -implicitDefEqProofs only [go_sem,hg2,dcf k1,dct k2,dcf hO])
       refine hA2.leave hs hml fun r σ' q1 q2=>?_
       simp -implicitDefEqProofs only [go_sem]
       refine ⟨?_,q1,q2⟩
       have e1:stE g (o++madeSs (xs.take j)) l (.mk k nm v body els')=90:=by rw [stE_mk,if_pos hv0,if_pos (.inr ⟨k2,hO⟩)]
       rw [stEs_eq hx1 h0 (by rw [e1]; decide),e1]; rfl
     ·(try simp -implicitDefEqProofs only [go_sem,dcf k1,dcf k2])
      (repeat' first|refine vw ?_ ?_<;>intro hq|refine vz ?_|simp -implicitDefEqProofs only [go_sem,hg2,dcf k1,dcf k2])
      rw [show mk1 (.mk k nm v body els')=[] from by simp [mk1,St.k,k1],List.append_nil]
      exact ⟨hA2,by rintro (⟨h,_⟩|⟨h,_⟩); exact k1 h; exact k2 h⟩
   ·clear sp1 sp2 sp3 sr f1 f2 f3 fv hA2 hg2
    rintro ev τ2 ⟨l0,l2,l5,l7,l15,l16,l17,hA3,hg3,hnbad⟩
    have hs3:=hA3.sc hs
    simp -implicitDefEqProofs only [go_sem,l0,l2,l5,l7,l15,l16,l17,hg3,kB,cB,iB,kE,cE,iE]
    have hmk:madeSs (xs.take (j+1))=madeSs (xs.take j)++mk1 (.mk k nm v body els'):=madeSs_take hx1
    have hml':(madeSs (xs.take j)++mk1 (.mk k nm v body els')).length<=400:=by
     rw [<-hmk]
     have:=madeSs_length (xs.take (j+1))
     have:=len_nodesSs xs
     simp only [List.length_take] at*
     omega
    have hnx:=nodesS_at hx1
    have hnx':1+nodesE v+nodesSs body+nodesSs els'<=nodesSs xs:=by simpa [nodesS] using hnx
    have hmem:=List.mem_of_getElem? hx1
    have e0:stE g (o++madeSs (xs.take j)) l (.mk k nm v body els')=if stEs g (o++madeSs (xs.take j)++mk1 (.mk k nm v body els')) l body=0 then stEs g (o++madeSs (xs.take j)++mk1 (.mk k nm v body els')) l els' else stEs g (o++madeSs (xs.take j)++mk1 (.mk k nm v body els')) l body:=by
     rw [stE_mk,if_pos hv0,if_neg hnbad]
    generalize hMD:madeSs (xs.take j)++mk1 (.mk k nm v body els')=md at hA3 hml' hmk
    rw [List.append_assoc,hMD] at e0
    have hw:=wrapS (i:=j) (by have:=len_nodesSs xs; omega)
    refine vlp (ι:=Nat) (fun i=>[(0,.ptr ps 0 0),(2,.ptr σ.next 0 0),(5,.ptr (σ.next+1) 0 0),(15,L),(16,(.sc (.int .i64 (xs.length)))),(17,(.sc (.int .i64 (j)))),(71,.slice τ2.next 0 2),(72,(.sc (.int .i64 ((2:Nat))))),(73,(.sc (.int .i64 (i))))]) (fun i τ=>i<=2/\AI σ ps mn mc m q g o md τ/\τ.get τ2.next=some (.cells 1 [SB,SE])/\(1<=i->stEs g (o++md) l body=0)/\(2<=i->stEs g (o++md) l els'=0)) (fun i=>2 - i) (fun _=>rfl) 0 ?_ ?_ ?_
    ·simp [subE,look?,l0,l2,l5,l15,l16,l17]
    ·exact ⟨by omega,hA3.keepS b2 (KeepS.alloc _ _),by rw [AStore.get_alloc,if_pos rfl],fun h=>by omega,fun h=>by omega⟩
    have hn3:=hA3.n
    clear hA3 hg3 hs3
    rintro i τ ⟨hi,hA4,hgS,hi1,hi2⟩
    simp -implicitDefEqProofs only [go_sem]
    (refine vif ?_ ?_<;>intro hilt)
    ·have hi2':i < 2:=by omega
     obtain ⟨L2,ys,e2,hL1,hL2,hys,hyn,hyb⟩:∃ L2 ys e2,([SB,SE]:List AVal)[i]?=some L2/\IsD 8 L2 e2/\IsSts ys e2/\nodesSs ys<=400/\((i=0/\ys=body)\/(i=1/\ys=els')):=by
      obtain rfl|rfl:i=0\/i=1:=by omega
      ·exact ⟨SB,body,eb,rfl,hB,hb',vom,.inl ⟨rfl,rfl⟩⟩
      ·exact ⟨SE,els',ee,rfl,hE,hee,vom,.inr ⟨rfl,rfl⟩⟩
     have hi0:(0:Int)<=(i:Int):=by omega
     have hwi:=wrapS (i:=i) (by omega)
     have cL2:=hL2.cells
     have r4:=hA4.r
     (repeat' first|refine vw ?_ ?_<;>intro hq|refine vz ?_|simp -implicitDefEqProofs only [go_sem,r4,hgS,hi0,hilt,Int.toNat_natCast,Nat.zero_add,hL1,cL2])
     refine (rec _ hmem ys (fun _ _ _ _ _ h=>by cases h; exact hyb.imp (·.2) (·.2)) _ L2 e2 g (o++md) τ ps mn mc (mkM m md) q hL2 hys hyn (hA4.sc hs) hA4.nmm hq).mono ?_
     rintro _ τ' ⟨rfl,k1,k2⟩
     have hA5:=hA4.keep b2 k1 k2
     have hgS':=k1.2 _ _ (by omega) hgS
     by_cases hz:stEs g (o++md) l ys=0
     ·(repeat' first|refine vw ?_ ?_<;>intro hq|refine vz ?_|simp -implicitDefEqProofs only [go_sem,dct hz,hwi])
      refine ⟨i+1,vom,⟨vom,hA5,hgS',?_,?_⟩,vsu⟩
      ·intro _
       rcases hyb with ⟨rfl,rfl⟩|⟨rfl,rfl⟩
       ·exact hz
       ·exact hi1 (by omega)
      ·intro _
       rcases hyb with ⟨rfl,rfl⟩|⟨rfl,rfl⟩
       ·omega
       ·exact hz
     ·(repeat' first|refine vw ?_ ?_<;>intro hq|refine vz ?_|simp -implicitDefEqProofs only [go_sem,dcf hz])
      refine hA5.leave hs hml' fun r σ' q1 q2=>?_
      simp -implicitDefEqProofs only [go_sem]
      refine ⟨?_,q1,q2⟩
      have e1:stE g (o++madeSs (xs.take j)) l (.mk k nm v body els')=stEs g (o++md) l ys:=by
       rw [e0]
       rcases hyb with ⟨rfl,rfl⟩|⟨rfl,rfl⟩
       ·rw [if_neg hz]
       ·rw [if_pos (hi1 (by omega))]
      rw [stEs_eq hx1 h0 (by rw [e1]; exact hz),e1]; rfl
    ·obtain rfl:i=2:=by omega
     (repeat' first|refine vw ?_ ?_<;>intro hq|refine vz ?_|simp -implicitDefEqProofs only [go_sem,hw])
     refine ⟨j+1,vom,⟨by omega,by rw [hmk]; exact hA4,stEs_take hx1 h0 ?_⟩,vsu⟩
     rw [e0,if_pos (hi1 (by omega))]
     exact hi2 (by omega)
  ·(repeat' first|refine vw ?_ ?_<;>intro hq|refine vz ?_|simp -implicitDefEqProofs only [go_sem,dcf hv0])
   refine hA2.leave hs hml fun r σ' k1 k2=>?_
   simp -implicitDefEqProofs only [go_sem]
   refine ⟨?_,k1,k2⟩
   have e1:stE g (o++madeSs (xs.take j)) l (.mk k nm v body els')=expE g (o++madeSs (xs.take j)) l v:=by rw [stE_mk,if_neg hv0]
   rw [stEs_eq hx1 h0 (by rw [e1]; exact hv0),e1]; rfl
 ·obtain rfl:j=xs.length:=by omega
  rw [List.take_length] at h0
  (repeat' first|refine vw ?_ ?_<;>intro hq|refine vz ?_|simp -implicitDefEqProofs only [go_sem])
  refine hA.leave ⟨p1,⟨n1,p2⟩,⟨n2,p3⟩,pne⟩ hml fun r σ' k1 k2=>?_
  simp -implicitDefEqProofs only [go_sem]
  exact ⟨by rw [h0]; rfl,k1,k2⟩
theorem allC : ∀ {N : Nat} {xs : List St} {w : WD} {L : AVal} {els : List AVal} {g o : List ByteArray} {l : List Fc} {σ : AStore} {ps mn mc : Nat} {m q : List (ByteArray × AVal)}, nodesSs xs ≤ N → IsD 8 L els → IsSts xs els → nodesSs xs ≤ 400 → Sc σ ps mn mc m q → Nm m g o → Cm q l →
    ACalls (EE w) 105 [.ptr ps 0 0,L] σ fun e σ'=>e=.ret (.sc (.int .i64 (stEs g o l xs)))/\KeepM mn σ σ'/\∃ c,σ'.get mn=some (.map (strM m) c)
  | 0, xs, _, _, _, _, _, _, _, _, _, _, _, _, hN, hL, hx, hb, hs, hm, hq => allStep hL hx hb (fun x hmem => by
      obtain ⟨j,hj,rfl⟩:=List.mem_iff_getElem.1 hmem
      have h1:=nodesS_at (List.getElem?_eq_getElem hj)
      have h2:=nodesS_pos xs[j]
      omega) hs hm hq
  | N + 1, xs, _, _, _, _, _, _, _, _, _, _, _, _, hN, hL, hx, hb, hs, hm, hq => allStep hL hx hb (fun x hmem ys hys w L els g o σ ps mn mc m q h1 h2 h3 h4 h5 h6 => allC (N := N) (by
      obtain ⟨j,hj,rfl⟩:=List.mem_iff_getElem.1 hmem
      have h1:=nodesS_at (List.getElem?_eq_getElem hj)
      revert h1 hys
      generalize xs[j]=x
      intro hys h1
      obtain ⟨k,nm,v,b,e⟩:=x
      have:=nodesE_pos v
      simp only [nodesS] at h1
      rcases hys _ _ _ _ _ rfl with rfl|rfl<;>omega) h1 h2 h3 h4 h5 h6) hs hm hq
theorem retSs_any:∀ xs:List St,retSs xs=xs.any retS
 | []=>rfl
 | x::xs=>by simp [retSs,retSs_any xs]
theorem retSs_take {xs:List St} {j:Nat} {x:St} (h:xs[j]?=some x) (h0:retSs (xs.take j)=false) (h1:retS x=false):retSs (xs.take (j+1))=false:=by
 rw [retSs_any] at h0 ⊢
 rw [List.take_succ_eq_append_getElem (List.getElem?_eq_some_iff.1 h).1,List.any_append,h0]
 have:=(List.getElem?_eq_some_iff.1 h).2
 rw [this]; simp [h1]
theorem retSs_at {xs:List St} {j:Nat} {x:St} (h:xs[j]?=some x) (h1:retS x=true):retSs xs=true:=by
 rw [retSs_any,List.any_eq_true]
 exact ⟨x,List.mem_of_getElem? h,h1⟩
theorem retStep {xs:List St} {w:WD} {L:AVal} {els:List AVal} (hL:IsD 8 L els) (hx:IsSts xs els) (hlen:els.length<=281474976710656)
  (rec:∀ x∈xs,∀ (ys:List St),(∀ k nm v b e,x=.mk k nm v b e->ys=b\/ys=e)->∀ (w:WD) (L:AVal) (els:List AVal),IsD 8 L els->IsSts ys els->els.length<=281474976710656->
   GivesV (EE w) 106 [L] (.sc (.bool (retSs ys)))):GivesV (EE w) 106 [L] (.sc (.bool (retSs xs))):=by
 have hwf:=hL.wf hx.wf
 have hln:=hx.len
 have hLn:=fun σ:AStore=>hL.lenN hln (σ:=σ)
 have kL:=hL.fit
 have cL:=hL.cells
 have iL:=hL.isCell
 refine GivesV.of (fun _=>.sc _) (.cons _ _ hwf .nil) 2 ?_
 refine of_106 rfl rfl rfl (by kernel_rfl) ?_
 simp -implicitDefEqProofs only [go_sem,kL,cL,iL,hLn]
 refine vlp (ι:=Nat) (fun j=>[(5,L),(6,(.sc (.int .i64 (xs.length)))),(7,(.sc (.int .i64 (j))))]) (fun j τ=>j<=xs.length/\retSs (xs.take j)=false) (fun j=>xs.length - j) (fun _=>rfl) 0 ?_ ?_ ?_
 ·exact vsu
 ·exact ⟨Nat.zero_le _,rfl⟩
 rintro j τ ⟨hj,h0⟩
 simp -implicitDefEqProofs only [go_sem]
 (refine vif ?_ ?_<;>intro hlt)
 ·obtain ⟨x,hx1⟩:∃ x,xs[j]?=some x:=⟨xs[j]'(by omega),by simp⟩
  obtain ⟨e,he,hxe⟩:=hx.at hx1
  obtain ⟨k,nm,v,body,els'⟩:=x
  have cc:=hxe.cellsOk
  simp only [IsSt] at hxe
  obtain ⟨SA,SB,SE,ea,eb,ee,rfl,hA',ha,hB,hb',hE,hee,h1,h2,h3,h4,h5,h6,h7,h8⟩:=hxe
  have kA:=hA'.fit
  have cA:=hA'.cells
  have iA:=hA'.isCell
  have kB:=hB.fit
  have cB:=hB.cells
  have iB:=hB.isCell
  have kE:=hE.fit
  have cE:=hE.cells
  have iE:=hE.isCell
  have hmem:=List.mem_of_getElem? hx1
  have rB:=fun w:WD=>rec _ hmem body (fun _ _ _ _ _ h=>by cases h; exact .inl rfl) w SB eb hB hb' h7
  have rE:=fun w:WD=>rec _ hmem els' (fun _ _ _ _ _ h=>by cases h; exact .inr rfl) w SE ee hE hee h8
  have hw:=wrapS (i:=j) (by omega)
  have hr:retS (.mk k nm v body els')=(decide (k=5) || (decide (k=3) && retSs body && retSs els')):=by simp [retS]
  have hno:retS (.mk k nm v body els')=false->retSs (xs.take (j+1))=false:=retSs_take hx1 h0
  have hyes:retS (.mk k nm v body els')=true->retSs xs=true:=retSs_at hx1
  rw [hr] at hno hyes
  by_cases k5:k=5
  ·(repeat' first|refine vw ?_ ?_<;>intro hq|refine vz ?_|simp -implicitDefEqProofs only [go_sem,hL.idx he,cc,kA,cA,iA,kB,cB,iB,kE,cE,iE,dct k5])
   exact ret_bool (hyes (by simp [k5])).symm
  ·by_cases k3:k=3
   ·(repeat' first|refine vw ?_ ?_<;>intro hq|refine vz ?_|simp -implicitDefEqProofs only [go_sem,hL.idx he,cc,kA,cA,iA,kB,cB,iB,kE,cE,iE,dcf k5,dct k3])
    refine (rB _).use ?_
    cases hb0:retSs body with
    | false=>
     (repeat' first|refine vw ?_ ?_<;>intro hq|refine vz ?_|simp -implicitDefEqProofs only [go_sem,hb0,hw])
     exact ⟨j+1,vom,⟨by omega,hno (by simp [k5,hb0])⟩,vsu⟩
    | true=>
     (repeat' first|refine vw ?_ ?_<;>intro hq|refine vz ?_|simp -implicitDefEqProofs only [go_sem,hb0,hw,cc,kA,cA,iA,kB,cB,iB,kE,cE,iE])
     refine (rE _).use ?_
     cases hb1:retSs els' with
     | false=>
      (repeat' first|refine vw ?_ ?_<;>intro hq|refine vz ?_|simp -implicitDefEqProofs only [go_sem,hb1,hw])
      exact ⟨j+1,vom,⟨by omega,hno (by simp [k5,hb0,hb1])⟩,vsu⟩
     | true=>
      (repeat' first|refine vw ?_ ?_<;>intro hq|refine vz ?_|simp -implicitDefEqProofs only [go_sem,hb1,hw])
      exact ret_bool (hyes (by simp [k3,hb0,hb1])).symm
   ·(repeat' first|refine vw ?_ ?_<;>intro hq|refine vz ?_|simp -implicitDefEqProofs only [go_sem,hL.idx he,cc,kA,cA,iA,kB,cB,iB,kE,cE,iE,dcf k5,dcf k3,hw])
    exact ⟨j+1,vom,⟨by omega,hno (by simp [k5,k3])⟩,vsu⟩
 ·obtain rfl:j=xs.length:=by omega
  rw [List.take_length] at h0
  (repeat' first|refine vw ?_ ?_<;>intro hq|refine vz ?_|simp -implicitDefEqProofs only [go_sem])
  exact ret_bool h0.symm
theorem retC:∀ {N:Nat} {xs:List St} {w:WD} {L:AVal} {els:List AVal},nodesSs xs<=N->IsD 8 L els->IsSts xs els->els.length<=281474976710656->GivesV (EE w) 106 [L] (.sc (.bool (retSs xs)))
  | 0, xs, _, _, _, hN, hL, hx, hlen => retStep hL hx hlen fun x hmem => by
      obtain ⟨j,hj,rfl⟩:=List.mem_iff_getElem.1 hmem
      have h1:=nodesS_at (List.getElem?_eq_getElem hj)
      have h2:=nodesS_pos xs[j]
      omega
  | N + 1, xs, _, _, _, hN, hL, hx, hlen => retStep hL hx hlen fun x hmem ys hys w L els h1 h2 h3 => retC (N := N) (by
      obtain ⟨j,hj,rfl⟩:=List.mem_iff_getElem.1 hmem
      have h1:=nodesS_at (List.getElem?_eq_getElem hj)
      revert h1 hys
      generalize xs[j]=x
      intro hys h1
      obtain ⟨k,nm,v,b,e⟩:=x
      have:=nodesE_pos v
      simp only [nodesS] at h1
      rcases hys _ _ _ _ _ rfl with rfl|rfl<;>omega) h1 h2 h3
theorem mkM_mid {m:List (ByteArray×AVal)} {r1 r2:List ByteArray} {k:ByteArray}:mkM m (r1++k::r2)=mkM m r1++(k,(.sc (.bool (true))))::r2.map fun k=>(k,(.sc (.bool (true)))):=by simp [mkM]
theorem mkM_app {m:List (ByteArray×AVal)} {r1 r2:List ByteArray}:mkM m (r1++r2)=mkM m r1++r2.map fun k=>(k,(.sc (.bool (true)))):=by simp [mkM]
theorem mkM_keys {m:List (ByteArray×AVal)} {r:List ByteArray}:(mkM m r).map (·.1)=m.map (·.1)++r:=by simp [mkM,Function.comp_def]
theorem mkM_sub {m:List (ByteArray×AVal)} {r1 r2:List ByteArray} {k:ByteArray}:(mkM m (r1++r2)).Sublist (mkM m (r1++k::r2)):=by
 rw [mkM_mid,mkM_app]
 exact List.Sublist.append_left (List.sublist_cons_self _ _) _
theorem fnDC {w:WD} {σ:AStore} {b0 ps mn mc:Nat} {made:List ByteArray} {m q:List (ByteArray×AVal)} (h0:σ.get b0=some (.cells 1 [.ptr ps 0 0])) (hs:Sc σ ps mn mc (mkM m made) q)
  (hf:∀ p∈m,p.2=(.sc (.bool (false)))) (hnd:((mkM m made).map (·.1)).Nodup) (hb0:b0≠mn):
  ACallsD (EE w) 104 [.ptr b0 0 0] σ fun e σ'=>(∃ r,e=.ret r)/\KeepM mn σ σ'/\∃ c,σ'.get mn=some (.map (strM m) c):=by
 obtain ⟨p1,⟨c,p2⟩,⟨n2,p3⟩,pne⟩:=hs
 have pnp:ps≠mn:=by rintro rfl; rw [p1] at p2; cases p2
 have lmn:=AStore.lt_of_get p2
 refine od_104 rfl rfl rfl (by decide) ?_
 simp -implicitDefEqProofs only [go_sem,h0,p1,p2]
 refine vlp (ι:=List ByteArray×List ByteArray) (fun _=>[(0,.ptr b0 0 0),(7,.ptr σ.next 0 0)]) (fun i τ=>KeepM mn σ τ/\((mkM m i.2).map (·.1)).Nodup/\(∀ k∈i.2,k ∉ i.1)/\σ.next < τ.next/\τ.get σ.next=some (.miter mn c (i.1.map Value.string))/\τ.get mn=some (.map (strM (mkM m i.2)) c)) (fun i=>(unSeen i.1 (mkM m i.2)).length) (fun _=>rfl) ([],made) ?_ ?_ ?_
 ·exact vsu
 ·exact ⟨(KeepS.alloc σ _).m,hnd,(fun _ _ h=>by cases h),by rw [alloc_next]; omega,by rw [AStore.get_alloc,if_pos rfl]; rfl,get_alloc_old p2⟩
 rintro ⟨seen,rest⟩ τ ⟨hk,hnd',hse,hnx,g1,g2⟩
 simp only [] at hk hnd' hse hnx g1 g2 ⊢
 have q0:=hk.2 _ _ hb0 h0
 have q1:=hk.2 _ _ pnp p1
 have lb0:=AStore.lt_of_get h0
 have lps:=AStore.lt_of_get p1
 simp -implicitDefEqProofs only [go_sem,g1,g2,nx_str,vGo_vals]
 by_cases hu:unSeen seen (mkM m rest)=[]
 ·rw [nxS_nil hu]
  rintro p hp
  obtain rfl:=List.mem_singleton.1 hp
  (repeat' first|refine vw ?_ ?_<;>intro hq|refine vz ?_|simp -implicitDefEqProofs only [go_sem])
  have hr:rest=[]:=by
   cases rest with
   | nil=>rfl
   | cons k r=>
    have:=unSeen_none (k:=k) (v:=(.sc (.bool (true)))) hu (by simp [mkM])
    exact absurd this (hse k (List.mem_cons_self ..))
  subst hr
  exact ⟨⟨_,rfl⟩,hk,c,by rw [g2]; simp [mkM]⟩
 ·rintro qq hq
  obtain ⟨ky,v,m1,m2,rfl⟩:=nxS_mem hu hq
  obtain ⟨j,hj⟩:=getM_mem hnd' m1
  have ge1:(τ.set σ.next (.miter mn c ((seen++[ky]).map Value.string))).get σ.next=some (.miter mn c ((seen++[ky]).map Value.string)):=by rw [AStore.get_set,if_pos ⟨rfl,hnx⟩]
  have ge2:(τ.set σ.next (.miter mn c ((seen++[ky]).map Value.string))).get mn=some (.map (strM (mkM m rest)) c):=by rw [AStore.get_set,if_neg (by omega)]; exact g2
  have ge3:(τ.set σ.next (.miter mn c ((seen++[ky]).map Value.string))).get b0=some (.cells 1 [.ptr ps 0 0]):=by rw [AStore.get_set,if_neg (by omega)]; exact q0
  have ge4:(τ.set σ.next (.miter mn c ((seen++[ky]).map Value.string))).get ps=some (.cells 2 [.agg [.map mn,.map mc]]):=by rw [AStore.get_set,if_neg (by omega)]; exact q1
  have hk':KeepM mn σ (τ.set σ.next (.miter mn c ((seen++[ky]).map Value.string))):=⟨by rw [set_next]; omega,fun b y hb hg=>by
   have:=AStore.lt_of_get hg
   rw [AStore.get_set,if_neg (by omega)]; exact hk.2 _ _ hb hg⟩
  have hnx':σ.next < (τ.set σ.next (.miter mn c ((seen++[ky]).map Value.string))).next:=by rw [set_next]; exact hnx
  have e1:=entry_str hj ge1 ge2
  have hless:=unSeen_next m1 m2
  generalize τ.set σ.next (.miter mn c ((seen++[ky]).map Value.string))=τ1 at*
  rcases List.mem_append.1 m1 with hm|hm
  ·obtain rfl:v=(.sc (.bool (false))):=hf _ hm
   (repeat' first|refine vw ?_ ?_<;>intro hq|refine vz ?_|simp -implicitDefEqProofs only [go_sem,op_entry,opEn_some,e1])
   refine ⟨(seen++[ky],rest),hless,⟨hk',hnd',?_,hnx',ge1,ge2⟩,vsu⟩
   intro k hkr hks
   rcases List.mem_append.1 hks with h|h
   ·exact hse k hkr h
   ·obtain rfl:=List.mem_singleton.1 h
    rw [mkM_keys,List.nodup_append] at hnd'
    exact hnd'.2.2 _ (List.mem_map.2 ⟨_,hm,rfl⟩) _ hkr rfl
  ·obtain ⟨k',hk2,he⟩:=List.mem_map.1 hm
   cases he
   obtain ⟨r1,r2,rfl⟩:=List.append_of_mem hk2
   have hnd2:=hnd'
   rw [mkM_keys,List.nodup_append] at hnd2
   obtain ⟨nd1,nd2,nd3⟩:=hnd2
   rw [List.nodup_append] at nd2
   obtain ⟨nd4,nd5,nd6⟩:=nd2
   rw [List.nodup_cons] at nd5
   have hne:∀ k∈r1++r2,k≠ky:=by
    intro k hk hc
    subst hc
    rcases List.mem_append.1 hk with h|h
    ·exact nd6 _ h _ (List.mem_cons_self ..) rfl
    ·exact nd5.1 h
   have hgn:getM (mkM m r1) ky=none:=by
    rw [getM_none]
    intro v hv
    rcases List.mem_append.1 hv with h|h
    ·exact nd3 _ (List.mem_map.2 ⟨_,h,rfl⟩) ky hk2 rfl
    ·obtain ⟨k2,h2,he⟩:=List.mem_map.1 h
     cases he
     exact nd6 _ h2 _ (List.mem_cons_self ..) rfl
   rw [mkM_mid] at ge2
   have hmd:∀ c,mdAt τ1 mn .string (.string ky) (some (.map (strM (mkM m r1++(ky,(.sc (.bool (true))))::r2.map fun k=>(k,(.sc (.bool (true)))))) c))=some (τ1.set mn (.map (strM (mkM m (r1++r2))) c)):=fun c=>by rw [md_made hgn,mkM_app]
   (repeat' first|refine vw ?_ ?_<;>intro hq|refine vz ?_|simp -implicitDefEqProofs only [go_sem,op_entry,opEn_some,e1,ge2,ge3,ge4,md_str,hmd])
   refine ⟨(seen++[ky],r1++r2),?_,⟨hk'.set _,?_,?_,by rw [set_next]; exact hnx',?_,?_⟩,vsu⟩
   ·refine Nat.lt_of_le_of_lt ?_ hless
    exact (mkM_sub.filter _).length_le
   ·exact hnd'.sublist (mkM_sub.map _)
   ·intro k hkr hks
    rcases List.mem_append.1 hks with h|h
    ·refine hse k ?_ h
     rcases List.mem_append.1 hkr with h|h
     ·exact List.mem_append.2 (.inl h)
     ·exact List.mem_append.2 (.inr (List.mem_cons_of_mem _ h))
    ·exact hne k hkr (List.mem_singleton.1 h)
   ·rw [AStore.get_set,if_neg (by omega)]; exact ge1
   ·rw [AStore.get_set,if_pos ⟨rfl,by omega⟩]
structure FI (σ:AStore) (ps mn mc:Nat) (m q:List (ByteArray×AVal)) (g made:List ByteArray) (fv:AVal) (τ:AStore):Prop where
 k:KeepM mn σ τ
 n:σ.next+2<=τ.next
 nm:∃ c,τ.get mn=some (.map (strM (mkM m made)) c)
 r:τ.get σ.next=some (.cells 1 [.ptr ps 0 0])
 f:τ.get (σ.next+1)=some (.cells 3 [fv])
 nd:((mkM m made).map (·.1)).Nodup
 nmm:Nm (mkM m made) g made
section
variable {w:WD} {σ τ τ':AStore} {ps mn mc:Nat} {m q:List (ByteArray×AVal)} {g made:List ByteArray} {fv:AVal}
theorem FI.keep (h:FI σ ps mn mc m q g made fv τ) (hm:mn < σ.next) (hk:KeepM mn τ τ') (hn:∃ c,τ'.get mn=some (.map (strM (mkM m made)) c)):FI σ ps mn mc m q g made fv τ':=
 ⟨h.k.trans hk,Nat.le_trans h.n hk.1,hn,hk.2 _ _ (by omega) h.r,hk.2 _ _ (by omega) h.f,h.nd,h.nmm⟩
theorem FI.sc (h:FI σ ps mn mc m q g made fv τ) (hs:Sc σ ps mn mc m q):Sc τ ps mn mc (mkM m made) q:=by
 obtain ⟨p1,⟨n1,p2⟩,⟨n2,p3⟩,pne⟩:=hs
 have pnp:ps≠mn:=by rintro rfl; rw [p1] at p2; cases p2
 exact ⟨h.k.2 _ _ pnp p1,h.nm,⟨n2,h.k.2 _ _ (Ne.symm pne) p3⟩,pne⟩
theorem FI.leave (h:FI σ ps mn mc m q g made fv τ) (hs:Sc σ ps mn mc m q) (hf:∀ p∈m,p.2=(.sc (.bool (false)))) {R:AEnd->AStore->Prop}
  (hR:∀ r σ',KeepM mn σ σ'->(∃ c,σ'.get mn=some (.map (strM m) c))->R (.ret r) σ'):ACallsD (EE w) 104 [.ptr σ.next 0 0] τ R:=by
 have hsc:=h.sc hs
 obtain ⟨p1,⟨n1,p2⟩,⟨n2,p3⟩,pne⟩:=hs
 have b2:=AStore.lt_of_get p2
 refine (fnDC h.r hsc hf h.nd (by omega)).mono ?_
 rintro _ σ' ⟨⟨r,rfl⟩,k1,k2⟩
 exact hR r σ' (h.k.trans k1) k2
end
theorem Nm.nodup {m:List (ByteArray×AVal)} {g made:List ByteArray} (hd:((mkM m made).map (·.1)).Nodup) (h:Nm (mkM m made) g made) {k:ByteArray} (hk:¬ (k∈g\/k∈made)):((mkM m (made++[k])).map (·.1)).Nodup:=by
 rw [mkM_snoc,List.map_append,List.nodup_append]
 refine ⟨hd,by simp,?_⟩
 intro a ha b hb
 simp only [List.map_cons,List.map_nil,List.mem_singleton] at hb
 subst hb
 rintro rfl
 have:=getM_none.1 (h.none hk)
 obtain ⟨p,hp,rfl⟩:=List.mem_map.1 ha
 exact this p.2 hp
theorem parsBad_at {g ps:List ByteArray} {j:Nat} {p:ByteArray} (h:ps[j]?=some p) (h0:parsBad g [] ps=parsBad g (ps.take j) (ps.drop j)):parsBad g [] ps=(decide (p∈g\/p∈ps.take j) || parsBad g (ps.take (j+1)) (ps.drop (j+1))):=by
 obtain ⟨hj,he⟩:=List.getElem?_eq_some_iff.1 h
 rw [h0,List.drop_eq_getElem_cons hj,he,parsBad,List.take_succ_eq_append_getElem hj,he]
theorem fnE_eq {g:List ByteArray} {l:List Fc} {f:Fc} (h1:¬ (f.nm∈g\/(fcOf l f.nm).isSome)) (h2:parsBad g [] f.ps=false):fnE g l f=if stEs g f.ps l f.body=0 then (if retSs f.body then 0 else 92) else stEs g f.ps l f.body:=by
 unfold fnE
 rw [if_neg h1,h2]
 simp only [Bool.false_eq_true,if_false]
 by_cases h:stEs g f.ps l f.body=0
 ·rw [if_pos h,h]; rfl
 ·rw [if_neg h]
  split
  ·rename_i hh; exact absurd hh h
  ·rfl
theorem fnC {w:WD} {σ:AStore} {ps mn mc:Nat} {m q:List (ByteArray×AVal)} {g:List ByteArray} {l:List Fc} {f:Fc} {fv:AVal} (hF:IsFc f fv) (hb:nodesSs f.body<=400) (hs:Sc σ ps mn mc m q) (hm:Nm m g []) (hq:Cm q l)
  (hf:∀ p∈m,p.2=(.sc (.bool (false)))) (hnd:(m.map (·.1)).Nodup):
  ACalls (EE w) 81 [.ptr ps 0 0,fv] σ fun e σ'=>e=.ret (.sc (.int .i64 (fnE g l f)))/\KeepM mn σ σ'/\∃ c,σ'.get mn=some (.map (strM m) c):=by
 have cc:=hF.cellsOk
 obtain ⟨SP,SB,eb,rfl,hP,hB,hb',h1,h2,h3,h4⟩:=hF
 have kP:=hP.fit
 have cP:=hP.cells
 have iP:=hP.isCell
 have kB:=hB.fit
 have cB:=hB.cells
 have iB:=hB.isCell
 obtain ⟨p1,⟨n1,p2⟩,⟨n2,p3⟩,pne⟩:=hs
 have hs:Sc σ ps mn mc m q:=⟨p1,⟨n1,p2⟩,⟨n2,p3⟩,pne⟩
 have pnp:ps≠mn:=by rintro rfl; rw [p1] at p2; cases p2
 have b2:=AStore.lt_of_get p2
 refine ot_81 rfl rfl rfl (by decide) ?_
 refine Top_seq0 (E:=EE ⟨w.w,[]⟩) (fn:=Tryz.f81) rfl rfl (Z_ofV ?_)
 simp -implicitDefEqProofs only [go_sem,kP,cP,iP,kB,cB,iB]
 have e5:((σ.alloc (.cells 1 [.ptr ps 0 0])).alloc (.cells 3 [.agg [.sc (.string f.nm),SP,SB]])).get (σ.next+1)=some (.cells 3 [.agg [.sc (.string f.nm),SP,SB]]):=by rw [AStore.get_alloc,if_pos (show σ.next+1=(σ.alloc _).next from rfl)]
 have e2:((σ.alloc (.cells 1 [.ptr ps 0 0])).alloc (.cells 3 [.agg [.sc (.string f.nm),SP,SB]])).get σ.next=some (.cells 1 [.ptr ps 0 0]):=get_alloc_old (by rw [AStore.get_alloc,if_pos rfl])
 have ek:KeepS σ ((σ.alloc (.cells 1 [.ptr ps 0 0])).alloc (.cells 3 [.agg [.sc (.string f.nm),SP,SB]])):=(KeepS.alloc σ _).trans (KeepS.alloc _ _)
 have en:((σ.alloc (.cells 1 [.ptr ps 0 0])).alloc (.cells 3 [.agg [.sc (.string f.nm),SP,SB]])).next=σ.next+2:=rfl
 generalize (σ.alloc (.cells 1 [.ptr ps 0 0])).alloc (.cells 3 [.agg [.sc (.string f.nm),SP,SB]])=τ0 at e5 e2 ek en ⊢
 have t1:=ek.2 _ _ p1
 have t2:=ek.2 _ _ p2
 have t3:=ek.2 _ _ p3
 have hend:∃ c,τ0.get mn=some (.map (strM m) c):=⟨n1,t2⟩
 refine Top_seq0 (E:=EE ⟨w.w,[]⟩) (fn:=Tryz.f81) rfl rfl ?_
 ((try (refine Z_seq ?_; (try simp -implicitDefEqProofs only [go_sem]))); refine Z_draw (by kernel_rfl) [0,1,2,3,4,5,6,7,8,9,10,11] [(11,2047),(10,511),(9,255),(8,255),(7,127),(6,63),(5,16),(4,0),(3,7),(2,3),(1,1),(0,0)] (by kernel_rfl) (by kernel_rfl) ?_)
 simp -implicitDefEqProofs only [go_sem,e5,e2,t1,t2,lk_strS,lk_nm hm]
 by_cases hg1:f.nm∈g\/f.nm∈([]:List ByteArray)
 ·(try simp -implicitDefEqProofs only [go_sem,dct hg1])
  (repeat' first|refine vw ?_ ?_<;>intro hq|refine vz ?_|simp -implicitDefEqProofs only [go_sem,dct hg1])
  refine ⟨?_,ek.m,hend⟩
  unfold fnE
  rw [if_pos (.inl (by simpa using hg1))]; rfl
 (try simp -implicitDefEqProofs only [go_sem,dcf hg1])
 (repeat' first|refine vw ?_ ?_<;>intro hq|refine vz ?_|simp -implicitDefEqProofs only [go_sem,dcf hg1])
 refine Top_seq0 (E:=EE ⟨w.w,[]⟩) (fn:=Tryz.f81) rfl rfl ?_
 ((try (refine Z_seq ?_; (try simp -implicitDefEqProofs only [go_sem]))); refine Z_draw (by kernel_rfl) [0,1,2,3,4,5,6,7,8,9,10,11] [(11,2047),(10,511),(9,255),(8,255),(7,127),(6,63),(5,16),(4,0),(3,7),(2,3),(1,1),(0,0)] (by kernel_rfl) (by kernel_rfl) ?_)
 simp -implicitDefEqProofs only [go_sem,e5,e2,t1,t3,lk_strS,lk_cm hq]
 cases hg2:(fcOf l f.nm).isSome with
 | true=>
  (try simp -implicitDefEqProofs only [go_sem,hg2])
  (repeat' first|refine vw ?_ ?_<;>intro hq|refine vz ?_|simp -implicitDefEqProofs only [go_sem,hg2])
  refine ⟨?_,ek.m,hend⟩
  unfold fnE
  rw [if_pos (.inr hg2)]; rfl
 | false=>
 (try simp -implicitDefEqProofs only [go_sem,hg2])
 (repeat' first|refine vw ?_ ?_<;>intro hq|refine vz ?_|simp -implicitDefEqProofs only [go_sem,hg2])
 refine Top_dfr1 (E:=EE ⟨w.w,[]⟩) (Ed:=fun ds=>EE ⟨w.w,ds⟩) (fun _=>rfl) rfl rfl ?_
 simp -implicitDefEqProofs only [go_sem]
 refine ⟨⟨.func 104,[.ptr σ.next 0 0],[]⟩,rfl,?_⟩
 refine Top_unds (E:=EE ⟨w.w,[]⟩) (Ed:=fun ds=>EE ⟨w.w,ds⟩) (fun _=>rfl) rfl (g:=104) (cap:=[.ptr σ.next 0 0]) (as':=[]) rfl rfl rfl (Z_ofV ?_)
 have hPn:∀ σ:AStore,aLen (.slice 0) SP σ=some (.sc (.int .i64 (f.ps.length))):=fun σ=>by have:=hP.len (σ:=σ); rwa [List.length_map] at this
 have hg1':¬ (f.nm∈g\/(fcOf l f.nm).isSome):=by
  rintro (h|h)
  ·exact hg1 (.inl h)
  ·rw [hg2] at h; cases h
 have hF0:FI σ ps mn mc m q g [] (.agg [.sc (.string f.nm),SP,SB]) τ0:=⟨ek.m,by omega,⟨n1,by simpa [mkM] using t2⟩,e2,e5,by simpa [mkM] using hnd,by simpa [mkM] using hm⟩
 simp -implicitDefEqProofs only [go_sem,e5,hPn,kP,cP,iP,kB,cB,iB]
 refine vlp (ι:=Nat) (fun j=>[(2,.ptr σ.next 0 0),(3,.ptr (σ.next+1) 0 0),(38,SP),(39,(.sc (.int .i64 (f.ps.length)))),(40,(.sc (.int .i64 (j))))]) (fun j τ=>j<=f.ps.length/\FI σ ps mn mc m q g (f.ps.take j) (.agg [.sc (.string f.nm),SP,SB]) τ/\parsBad g [] f.ps=parsBad g (f.ps.take j) (f.ps.drop j)) (fun j=>f.ps.length - j) (fun _=>rfl) 0 ?_ ?_ ?_
 ·exact vsu
 ·exact ⟨Nat.zero_le _,by simpa using hF0,by simp⟩
 clear hF0 e5 e2 ek en t1 t2 t3 hend
 rintro j τ ⟨hj,hA,hpb⟩
 have hsc:=hA.sc hs
 obtain ⟨s1,⟨c1,s2⟩,⟨c2,s3⟩,_⟩:=hsc
 have sr:=hA.r
 have sf:=hA.f
 simp -implicitDefEqProofs only [go_sem]
 (refine vif ?_ ?_<;>intro hlt)
 ·obtain ⟨p,hp⟩:∃ p,f.ps[j]?=some p:=⟨f.ps[j]'(by omega),by simp⟩
  have he:(f.ps.map sA)[j]?=some (.sc (.string p)):=by rw [List.getElem?_map,hp]; rfl
  have hw:=wrapS (i:=j) (by omega)
  have hpa:=parsBad_at hp hpb
  have htk:f.ps.take (j+1)=f.ps.take j++[p]:=by
   obtain ⟨hj,he⟩:=List.getElem?_eq_some_iff.1 hp
   rw [List.take_succ_eq_append_getElem hj,he]
  by_cases hbad:p∈g\/p∈f.ps.take j
  ·(repeat' first|refine vw ?_ ?_<;>intro hq|refine vz ?_|simp -implicitDefEqProofs only [go_sem,hP.idx he,sr,s1,s2,lk_strS,lk_nm hA.nmm,dct hbad])
   refine hA.leave hs hf fun r σ' k1 k2=>?_
   simp -implicitDefEqProofs only [go_sem]
   refine ⟨?_,k1,k2⟩
   unfold fnE
   rw [if_neg hg1',if_pos (by rw [hpa,dct hbad]; rfl)]; rfl
  ·have hnw:=hA.nmm.none hbad
   have hnd':=Nm.nodup hA.nd hA.nmm hbad
   have hnm':=hA.nmm.snoc hbad
   rw [dcf hbad,Bool.false_or] at hpa
   rw [<-mkM_snoc,<-htk] at hnm'
   rw [<-htk] at hnd'
   have hn:=hA.n
   (repeat' first|refine vw ?_ ?_<;>intro hq|refine vz ?_|simp -implicitDefEqProofs only [go_sem,hP.idx he,sr,s1,s2,lk_strS,lk_nm hA.nmm,dcf hbad,ms_str,ms_new hnw,hw])
   refine ⟨j+1,vom,⟨by omega,⟨hA.k.set _,by rw [set_next]; exact hn,⟨c1+1,?_⟩,?_,?_,hnd',hnm'⟩,hpa⟩,vsu⟩
   ·rw [AStore.get_set,if_pos ⟨rfl,by omega⟩,htk,mkM_snoc]
   ·rw [AStore.get_set,if_neg (by omega)]; exact sr
   ·rw [AStore.get_set,if_neg (by omega)]; exact sf
 ·obtain rfl:j=f.ps.length:=by omega
  rw [List.take_length] at hA
  rw [List.drop_length,List.take_length] at hpb
  have hfe:=fnE_eq hg1' hpb
  (repeat' first|refine vw ?_ ?_<;>intro hq|refine vz ?_|simp -implicitDefEqProofs only [go_sem,sr,sf,kP,cP,iP,kB,cB,iB])
  refine (allC (Nat.le_refl _) hB hb' hb (hA.sc hs) hA.nmm hq).mono ?_
  rintro _ τ' ⟨rfl,k1,k2⟩
  have hA':=hA.keep b2 k1 k2
  have sf':=hA'.f
  by_cases hz:stEs g f.ps l f.body=0
  ·rw [if_pos hz] at hfe
   (repeat' first|refine vw ?_ ?_<;>intro hq|refine vz ?_|simp -implicitDefEqProofs only [go_sem,dct hz,sf',kP,cP,iP,kB,cB,iB])
   refine (retC (Nat.le_refl _) hB hb' h4).use ?_
   cases hr:retSs f.body with
   | false=>
    rw [hr] at hfe
    (repeat' first|refine vw ?_ ?_<;>intro hq|refine vz ?_|simp -implicitDefEqProofs only [go_sem,hr])
    refine hA'.leave hs hf fun r σ' k1 k2=>?_
    simp -implicitDefEqProofs only [go_sem]
    exact ⟨by rw [hfe]; rfl,k1,k2⟩
   | true=>
    rw [hr] at hfe
    (repeat' first|refine vw ?_ ?_<;>intro hq|refine vz ?_|simp -implicitDefEqProofs only [go_sem,hr])
    refine hA'.leave hs hf fun r σ' k1 k2=>?_
    simp -implicitDefEqProofs only [go_sem]
    exact ⟨by rw [hfe]; rfl,k1,k2⟩
  ·rw [if_neg hz] at hfe
   (repeat' first|refine vw ?_ ?_<;>intro hq|refine vz ?_|simp -implicitDefEqProofs only [go_sem,dcf hz])
   refine hA'.leave hs hf fun r σ' k1 k2=>?_
   simp -implicitDefEqProofs only [go_sem]
   exact ⟨by rw [hfe]; rfl,k1,k2⟩
theorem ms_same {σ:AStore} {b c i:Nat} {m:List (ByteArray×AVal)} {k:ByteArray} {v:AVal} (h:getM m k=some (i,v)):msAt σ b .string (.string k) v (some (.map (strM m) c))=some (σ.set b (.map (strM m) c)):=by
 have hm:=getM_some h
 simp only [msAt,aFind_str,h,Option.map_some,Nat.zero_add]
 have:(strM m).set i (.sc (.string k),v)=strM m:=by
  apply List.ext_getElem?
  intro j
  rw [List.getElem?_set]
  split
  ·rename_i he
   subst he
   have h2:(strM m)[i]?=some (.sc (.string k),v):=by simp [strM,hm]
   rw [h2]
   have h3:=(List.getElem?_eq_some_iff.1 h2).1
   rw [if_pos h3]
  ·rfl
 rw [this]
/-- The names that are given, in a map. -/
structure GM (m:List (ByteArray×AVal)) (g:List ByteArray):Prop where
 nm:Nm m g []
 f:∀ p∈m,p.2=(.sc (.bool (false)))
 nd:(m.map (·.1)).Nodup
theorem GM.nil:GM [] []:=⟨fun k=>by simp [getM],(fun _ h=>by cases h),by simp⟩
theorem GM.old {m:List (ByteArray×AVal)} {g:List ByteArray} (h:GM m g) {k:ByteArray} (hk:k∈g):GM m (g++[k])/\∃ i,getM m k=some (i,(.sc (.bool (false)))):=by
 constructor
 ·refine ⟨fun j=>?_,h.f,h.nd⟩
  rw [h.nm j]
  have:j∈g++[k] ↔ j∈g:=by
   simp only [List.mem_append,List.mem_singleton]
   exact ⟨fun h=>h.elim id (fun h=>h ▸ hk),.inl⟩
  simp only [this]
 ·have:=h.nm k
  rw [if_neg (by simp),if_pos hk] at this
  cases hg:getM m k with
  | none=>rw [hg] at this; cases this
  | some q=>rw [hg] at this; simp only [Option.map_some,Option.some.injEq] at this; exact ⟨q.1,by rw [<-this]⟩
theorem GM.new {m:List (ByteArray×AVal)} {g:List ByteArray} (h:GM m g) {k:ByteArray} (hk:k ∉ g):GM (m++[(k,(.sc (.bool (false))))]) (g++[k])/\getM m k=none:=by
 have hn:getM m k=none:=h.nm.none (by simpa using hk)
 refine ⟨⟨fun j=>?_,?_,?_⟩,hn⟩
 ·rw [getM_append]
  have hj:=h.nm j
  rw [if_neg (by simp)] at hj ⊢
  by_cases e:k=j
  ·subst e
   rw [hn]
   simp [getM]
  ·have h1:getM [(k,(.sc (.bool (false))))] j=none:=by simp [getM,e]
   have h2:j∈g++[k] ↔ j∈g:=by simp [Ne.symm e]
   rw [h1]
   cases hg:getM m j with
   | none=>rw [hg] at hj; simpa [h2] using hj
   | some q=>rw [hg] at hj; simpa [h2] using hj
 ·intro p hp
  rcases List.mem_append.1 hp with hp|hp
  ·exact h.f p hp
  ·rw [List.mem_singleton.1 hp]
 ·rw [List.map_append,List.nodup_append]
  refine ⟨h.nd,by simp,?_⟩
  intro a ha b hb
  simp only [List.map_cons,List.map_nil,List.mem_singleton] at hb
  subst hb
  rintro rfl
  obtain ⟨p,hp,rfl⟩:=List.mem_map.1 ha
  exact getM_none.1 hn p.2 hp
theorem givenC {w:WD} {S:AVal} {g:List ByteArray} {σ:AStore} (hS:IsD 1 S (g.map sA)) (hl:g.length<=281474976710656):
  ACalls (EE w) 80 [S] σ fun e σ'=>∃ ps mn mc m,e=.ret (.ptr ps 0 0)/\KeepS σ σ'/\σ.next<=ps/\σ.next<=mn/\σ.next<=mc/\Sc σ' ps mn mc m []/\GM m g:=by
 have hSn:∀ σ:AStore,aLen (.slice 0) S σ=some (.sc (.int .i64 (g.length))):=fun σ=>by have:=hS.len (σ:=σ); rwa [List.length_map] at this
 have kS:=hS.fit
 have cS:=hS.cells
 have iS:=hS.isCell
 refine of_80 rfl rfl rfl (by kernel_rfl) ?_
 simp -implicitDefEqProofs only [go_sem,kS,cS,iS,hSn]
 refine vlp (ι:=Nat) (fun j=>[(3,.ptr (σ.next+1+1) 0 0),(10,S),(11,(.sc (.int .i64 (g.length)))),(12,(.sc (.int .i64 (j))))]) (fun j τ=>j<=g.length/\σ.next+3<=τ.next/\KeepS σ τ/\τ.get (σ.next+1+1)=some (.cells 2 [.agg [.map σ.next,.map (σ.next+1)]])/\(∃ c,τ.get (σ.next+1)=some (.map (strM []) c))/\∃ m,GM m (g.take j)/\∃ c,τ.get σ.next=some (.map (strM m) c)) (fun j=>g.length - j) (fun _=>rfl) 0 ?_ ?_ ?_
 ·exact vsu
 ·refine ⟨Nat.zero_le _,by simp only [alloc_next]; omega,((KeepS.alloc σ _).trans (KeepS.alloc _ _)).trans (KeepS.alloc _ _),?_,⟨0,?_⟩,[],by simpa using GM.nil,0,?_⟩
  ·rw [AStore.get_alloc,if_pos (show σ.next+1+1=((σ.alloc _).alloc _).next from rfl)]
  ·exact get_alloc_old (by rw [AStore.get_alloc,if_pos (show σ.next+1=(σ.alloc _).next from rfl)]; rfl)
  ·exact get_alloc_old (get_alloc_old (by rw [AStore.get_alloc,if_pos rfl]; rfl))
 rintro j τ ⟨hj,hn,hk,s1,⟨c2,s2⟩,m,hG,c1,s3⟩
 simp -implicitDefEqProofs only [go_sem]
 (refine vif ?_ ?_<;>intro hlt)
 ·obtain ⟨p,hp⟩:∃ p,g[j]?=some p:=⟨g[j]'(by omega),by simp⟩
  have he:(g.map sA)[j]?=some (.sc (.string p)):=by rw [List.getElem?_map,hp]; rfl
  have hw:=wrapS (i:=j) (by omega)
  have htk:g.take (j+1)=g.take j++[p]:=by
   obtain ⟨hj,he⟩:=List.getElem?_eq_some_iff.1 hp
   rw [List.take_succ_eq_append_getElem hj,he]
  by_cases hpg:p∈g.take j
  ·obtain ⟨hG',i,hgi⟩:=hG.old hpg
   (repeat' first|refine vw ?_ ?_<;>intro hq|refine vz ?_|simp -implicitDefEqProofs only [go_sem,hS.idx he,s1,s3,ms_str,ms_same hgi,hw])
   refine ⟨j+1,vom,⟨by omega,by rw [set_next]; exact hn,hk.set (Nat.le_refl _) _,?_,⟨c2,?_⟩,m,by rw [htk]; exact hG',c1,?_⟩,vsu⟩
   ·rw [AStore.get_set,if_neg (by omega)]; exact s1
   ·rw [AStore.get_set,if_neg (by omega)]; exact s2
   ·rw [AStore.get_set,if_pos ⟨rfl,by omega⟩]
  ·obtain ⟨hG',hgn⟩:=hG.new hpg
   (repeat' first|refine vw ?_ ?_<;>intro hq|refine vz ?_|simp -implicitDefEqProofs only [go_sem,hS.idx he,s1,s3,ms_str,ms_new hgn,hw])
   refine ⟨j+1,vom,⟨by omega,by rw [set_next]; exact hn,hk.set (Nat.le_refl _) _,?_,⟨c2,?_⟩,_,by rw [htk]; exact hG',c1+1,?_⟩,vsu⟩
   ·rw [AStore.get_set,if_neg (by omega)]; exact s1
   ·rw [AStore.get_set,if_neg (by omega)]; exact s2
   ·rw [AStore.get_set,if_pos ⟨rfl,by omega⟩]
 ·obtain rfl:j=g.length:=by omega
  rw [List.take_length] at hG
  (repeat' first|refine vw ?_ ?_<;>intro hq|refine vz ?_|simp -implicitDefEqProofs only [go_sem])
  exact ⟨_,_,_,m,rfl,hk,vom,Nat.le_refl _,vom,⟨s1,⟨c1,s3⟩,⟨c2,s2⟩,vom⟩,hG⟩
theorem fcOf_snoc {l:List Fc} {f:Fc} {k:ByteArray}:fcOf (l++[f]) k=match fcOf l k with|some x=>some x|none=>if f.nm=k then some f else none:=by
 unfold fcOf
 rw [List.find?_append]
 cases h:l.find? (fun f=>decide (f.nm=k)) with
 | some x=>rfl
 | none=>
  by_cases e:f.nm=k
  ·simp [e]
  ·simp [e]
theorem Cm.nil:Cm [] []:=fun k=>rfl
theorem Cm.absent {q:List (ByteArray×AVal)} {l:List Fc} (h:Cm q l) {k:ByteArray} (hk:fcOf l k=none):getM q k=none:=by
 have:=h k
 rw [hk] at this
 simpa using this
theorem Cm.snoc {q:List (ByteArray×AVal)} {l:List Fc} (h:Cm q l) {f:Fc} (hk:fcOf l f.nm=none):Cm (q++[(f.nm,(.sc (.int .i64 (f.ps.length))))]) (l++[f]):=by
 intro k
 rw [getM_append,fcOf_snoc]
 have hk':=h k
 by_cases e:f.nm=k
 ·subst e
  rw [hk,h.absent hk]
  simp [getM]
 ·have h1:getM [(f.nm,(.sc (.int .i64 (f.ps.length))))] k=none:=by simp [getM,e]
  rw [h1]
  cases hg:getM q k with
  | none=>
   rw [hg] at hk'
   cases hc:fcOf l k with
   | none=>simp [e]
   | some x=>rw [hc] at hk'; simp at hk'
  | some p=>
   rw [hg] at hk'
   cases hc:fcOf l k with
   | none=>rw [hc] at hk'; simp at hk'
   | some x=>rw [hc] at hk'; simpa using hk'
theorem goF_at {g:List ByteArray} {fs:List Fc} {j:Nat} {f:Fc} (h:fs[j]?=some f) (h0:goF g [] fs=goF g (fs.take j) (fs.drop j)):
  goF g [] fs=if fnE g (fs.take j) f=0 then goF g (fs.take (j+1)) (fs.drop (j+1)) else (((fs.take j).length:Int),fnE g (fs.take j) f):=by
 obtain ⟨hj,he⟩:=List.getElem?_eq_some_iff.1 h
 rw [h0,List.drop_eq_getElem_cons hj,he,List.take_succ_eq_append_getElem hj,he]
 by_cases hz:fnE g (fs.take j) f=0
 ·rw [if_pos hz,goF,hz]; rfl
 ·rw [if_neg hz,goF]
  split
  ·rename_i hh; exact absurd hh hz
  ·rfl
theorem fnE_fresh {g:List ByteArray} {l:List Fc} {f:Fc} (h:fnE g l f=0):fcOf l f.nm=none:=by
 cases hc:fcOf l f.nm with
 | none=>rfl
 | some x=>
  unfold fnE at h
  rw [if_pos (.inr (by rw [hc]; rfl))] at h
  cases h
theorem checkF_small {l:List Fc} (h:checkF nameB l=0):nodesF l<=400:=by
 unfold checkF at h
 split at h
 ·split at h
  ·rename_i hs
   simp only [smallF,Bool.and_eq_true,decide_eq_true_eq] at hs
   exact hs.1.2
  ·cases h
 ·cases h
theorem funcsP_if {l:List Fc} {g:List ByteArray}:funcsP nameB l g=if checkF nameB l=0 then goF g [] l else (0,checkF nameB l):=by
 unfold funcsP
 by_cases h:checkF nameB l=0
 ·rw [if_pos h,h]; rfl
 ·rw [if_neg h]
  split
  ·rename_i hh; exact absurd hh h
  ·rfl
theorem checkedC {w:WD} {L S:AVal} {els:List AVal} {fs:List Fc} {g:List ByteArray} {σ:AStore} (hL:IsD 3 L els) (hl:IsFcs fs els) (hlen:els.length<=281474976710656) (hb:nodesF fs<=1099511627776)
  (hS:IsD 1 S (g.map sA)) (hg:g.length<=281474976710656):
  ACalls (EE w) 54 [L,S] σ fun e σ'=>∃ p,e=.ret (.tuple [p,(.sc (.int .i64 ((funcsP nameB fs g).1))),(.sc (.int .i64 ((funcsP nameB fs g).2)))])/\KeepS σ σ'/\
   ((funcsP nameB fs g).2=0->∃ ps mn mc m q,p=.ptr ps 0 0/\Sc σ' ps mn mc m q/\Nm m g []/\Cm q fs):=by
 have hC:=fun w:WD=>checkFuncsC (w:=w) hL hl hlen hb
 have hll:=hl.len
 have hLn:∀ σ:AStore,aLen (.slice 0) L σ=some (.sc (.int .i64 (fs.length))):=fun σ=>hL.lenN hll
 have kS:=hS.fit
 have cS:=hS.cells
 have iS:=hS.isCell
 have kL:=hL.fit
 have cL:=hL.cells
 have iL:=hL.isCell
 rw [funcsP_if]
 refine of_54 rfl rfl rfl (by kernel_rfl) ?_
 simp -implicitDefEqProofs only [go_sem,kS,cS,iS,kL,cL,iL]
 refine (hC _).use ?_
 by_cases hz:checkF nameB fs=0
 ·rw [if_pos hz]
  have hsm:=checkF_small hz
  (repeat' first|refine vw ?_ ?_<;>intro hq|refine vz ?_|simp -implicitDefEqProofs only [go_sem,dct hz])
  refine (givenC hS hg).mono ?_
  rintro _ τ0 ⟨ps,mn,mc,m,rfl,k0,n1,n2,n3,s0,hG⟩
  (repeat' first|refine vw ?_ ?_<;>intro hq|refine vz ?_|simp -implicitDefEqProofs only [go_sem,hLn])
  have hcap:=fun (b:Nat) (y:ABlk) (h:σ.get b=some y)=>AStore.lt_of_get h
  refine vlp (ι:=Nat) (fun j=>[(8,.ptr ps 0 0),(19,L),(20,(.sc (.int .i64 (fs.length)))),(21,(.sc (.int .i64 (j))))]) (fun j τ=>j<=fs.length/\KeepS σ τ/\(∃ q,Sc τ ps mn mc m q/\Cm q (fs.take j))/\goF g [] fs=goF g (fs.take j) (fs.drop j)) (fun j=>fs.length - j) (fun _=>rfl) 0 ?_ ?_ ?_
  ·exact vsu
  ·exact ⟨Nat.zero_le _,k0,⟨[],s0,by simpa using Cm.nil⟩,by simp⟩
  clear s0 k0
  rintro j τ ⟨hj,hk,⟨q,hs,hq⟩,hgo⟩
  simp -implicitDefEqProofs only [go_sem]
  (refine vif ?_ ?_<;>intro hlt)
  ·obtain ⟨f,hf⟩:∃ f,fs[j]?=some f:=⟨fs[j]'(by omega),by simp⟩
   obtain ⟨e,he,hfe⟩:=hl.at' j f hf
   obtain ⟨c1,c2,c3⟩:=hfe.isA.facts
   have cc:=hfe.cellsOk
   have hsp:=fun a b c=>hfe.isA.splice3 (a:=a) (b:=b) (c:=c)
   have hat:=goF_at hf hgo
   have hw:=wrapS (i:=j) (by omega)
   have hbf:nodesSs f.body<=400:=by
    have h1:=nodesF_take1 fs hf
    have h2:=nodesF_le (l:=fs) (i:=j+1)
    omega
   have htk:fs.take (j+1)=fs.take j++[f]:=by
    obtain ⟨hj,he⟩:=List.getElem?_eq_some_iff.1 hf
    rw [List.take_succ_eq_append_getElem hj,he]
   have hjl:(fs.take j).length=j:=by rw [List.length_take]; omega
   have hk3:∀ a b,KeepS τ ((τ.alloc a).set τ.next b):=fun a b=>(KeepS.alloc τ a).set (Nat.le_refl _) b
   (repeat' first|refine vw ?_ ?_<;>intro hq|refine vz ?_|simp -implicitDefEqProofs only [go_sem,hL.idx he,c1,c2,c3,cc,hsp])
   have hg1:∀ a b,((τ.alloc a).set τ.next b).get τ.next=some b:=fun a b=>by rw [AStore.get_set,if_pos ⟨rfl,by simp only [alloc_next]; omega⟩]
   obtain ⟨nq,hmq⟩:=hs.n
   have hlm:=AStore.lt_of_get hmq
   refine (fnC hfe hbf (hs.keep (hk3 _ _)) hG.nm hq hG.f hG.nd).mono ?_
   rintro _ τ1 ⟨rfl,k1,nq1,k2⟩
   have g1:=k1.2 _ _ (by omega) (hg1 _ _)
   have k3:KeepM mn τ τ1:=(hk3 _ _).m.trans k1
   obtain ⟨s1,_,⟨nc,s3⟩,pne⟩:=hs
   have pnp:ps≠mn:=by rintro rfl; rw [s1] at hmq; cases hmq
   have pnc:ps≠mc:=by rintro rfl; rw [s1] at s3; cases s3
   clear k1 hg1 hmq
   have u1:=k3.2 _ _ pnp s1
   have u3:=k3.2 _ _ (Ne.symm pne) s3
   have hk4:KeepS σ τ1:=⟨Nat.le_trans hk.1 k3.1,fun b y hy=>k3.2 _ _ (by have:=hcap _ _ hy; omega) (hk.2 _ _ hy)⟩
   by_cases hz2:fnE g (fs.take j) f=0
   ·rw [if_pos hz2] at hat
    have hfr:=fnE_fresh hz2
    have hqn:=hq.absent hfr
    have hq':=hq.snoc hfr
    rw [<-htk] at hq'
    (repeat' first|refine vw ?_ ?_<;>intro hq|refine vz ?_|simp -implicitDefEqProofs only [go_sem,dct hz2])
    obtain ⟨SP,SB,eb,rfl,hP,hB,hb',x1,x2,x3,x4⟩:=hfe
    have kP:=hP.fit
    have cP:=hP.cells
    have iP:=hP.isCell
    have kB:=hB.fit
    have cB:=hB.cells
    have iB:=hB.isCell
    have hPn:∀ σ:AStore,aLen (.slice 0) SP σ=some (.sc (.int .i64 (f.ps.length))):=fun σ=>by have:=hP.len (σ:=σ); rwa [List.length_map] at this
    ((try (refine Z_seq ?_; (try simp -implicitDefEqProofs only [go_sem]))); refine Z_draw (by kernel_rfl) [0,1,2,3,4,5,6,7,8,9] [(9,511),(8,192),(7,64),(6,0),(5,16),(4,0),(3,7),(2,3),(1,1),(0,0)] (by kernel_rfl) (by kernel_rfl) ?_)
    (repeat' first|refine vw ?_ ?_<;>intro hq|refine vz ?_|simp -implicitDefEqProofs only [go_sem,g1,u1,u3,kP,cP,iP,kB,cB,iB,hPn,ms_str,ms_new hqn,hw])
    have hlc:=AStore.lt_of_get u3
    refine ⟨j+1,vom,⟨vom,hk4.set (by omega) _,⟨_,⟨?_,⟨nq1,?_⟩,⟨nc+1,?_⟩,pne⟩,hq'⟩,hat⟩,vsu⟩
    ·rw [AStore.get_set,if_neg (by omega)]; exact u1
    ·rw [AStore.get_set,if_neg (by omega)]; exact k2
    ·rw [AStore.get_set,if_pos ⟨rfl,hlc⟩]
   ·rw [if_neg hz2,hjl] at hat
    (repeat' first|refine vw ?_ ?_<;>intro hq|refine vz ?_|simp -implicitDefEqProofs only [go_sem,dcf hz2])
    refine ⟨.sc (.pointer none),?_,hk4,fun h=>?_⟩
    ·rw [hat]
    ·rw [hat] at h; exact absurd h hz2
  ·obtain rfl:j=fs.length:=by omega
   rw [List.take_length] at hq hgo
   rw [List.drop_length] at hgo
   (repeat' first|refine vw ?_ ?_<;>intro hq|refine vz ?_|simp -implicitDefEqProofs only [go_sem])
   refine ⟨.ptr ps 0 0,?_,hk,fun _=>⟨ps,mn,mc,m,q,rfl,hs,hG.nm,hq⟩⟩
   rw [hgo]; rfl
 ·rw [if_neg hz]
  (repeat' first|refine vw ?_ ?_<;>intro hq|refine vz ?_|simp -implicitDefEqProofs only [go_sem,dcf hz])
  exact ⟨_,rfl,KeepS.refl _,fun h=>absurd h hz⟩
theorem expP_if {x:Ex} {g:List ByteArray} {l:List Fc}:expP nameB x g l=if checkE nameB x=0 then (if (funcsP nameB l g).2=0 then expE g [] l x else (funcsP nameB l g).2) else checkE nameB x:=by
 unfold expP
 by_cases h:checkE nameB x=0
 ·rw [if_pos h,h]
  by_cases h2:(funcsP nameB l g).2=0
  ·rw [if_pos h2]
   show (match (funcsP nameB l g).2 with|0=>_|e=>e)=_
   rw [h2]; rfl
  ·rw [if_neg h2]
   show (match (funcsP nameB l g).2 with|0=>_|e=>e)=_
   split
   ·rename_i hh; exact absurd hh h2
   ·rfl
 ·rw [if_neg h]
  split
  ·rename_i hh; exact absurd hh h
  ·rfl
theorem tExpTC {w:WD} {X L S:AVal} {x:Ex} {els:List AVal} {fs:List Fc} {g:List ByteArray} (hX:IsEx x X) (hxb:nodesE x<=1099511627776) (hL:IsD 3 L els) (hl:IsFcs fs els) (hlen:els.length<=281474976710656) (hb:nodesF fs<=1099511627776)
  (hS:IsD 1 S (g.map sA)) (hg:g.length<=281474976710656):
  GivesV (EE w) 27 [X,S,L] (.sc (.int .i64 (expP nameB x g fs))):=by
 obtain ⟨c1,c2,c3⟩:=hX.isA.facts
 have cc:=hX.cellsOk
 have hfit:X.fit=true:=by obtain ⟨cs,rfl,_⟩:=hX.isA; rfl
 have hE:=fun w:WD=>checkExpC (w:=w) hX hxb
 rw [expP_if]
 refine GivesV.of (fun _=>.sc _) (.cons _ _ hX.wf (.cons _ _ (hS.wf (wf_sA _)) (.cons _ _ (hL.wf hl.wf) .nil))) 2 ?_
 refine of_27 rfl rfl rfl (by kernel_rfl) ?_
 simp -implicitDefEqProofs only [go_sem,c1,c2,c3,cc,hfit]
 have g0:(empty.alloc (.cells 4 [X])).get 0=some (.cells 4 [X]):=by rw [AStore.get_alloc]; rfl
 generalize empty.alloc (.cells 4 [X])=τ at g0 ⊢
 refine (hE _).use ?_
 by_cases hz:checkE nameB x=0
 ·rw [if_pos hz]
  (repeat' first|refine vw ?_ ?_<;>intro hq|refine vz ?_|simp -implicitDefEqProofs only [go_sem,dct hz])
  refine (checkedC hL hl hlen hb hS hg).mono ?_
  rintro _ σ' ⟨p,rfl,k1,k2⟩
  have g1:=k1.2 _ _ g0
  by_cases hy:(funcsP nameB fs g).2=0
  ·obtain ⟨ps,mn,mc,m,q,rfl,hs,hm,hq⟩:=k2 hy
   rw [if_pos hy]
   (repeat' first|refine vw ?_ ?_<;>intro hq|refine vz ?_|simp -implicitDefEqProofs only [go_sem,dct hy,g1,c1,c2,c3,cc,hfit])
   refine (tExpC hX hs hm hq).mono ?_
   rintro _ τ' ⟨rfl,k3⟩
   (repeat' first|refine vw ?_ ?_<;>intro hq|refine vz ?_|simp -implicitDefEqProofs only [go_sem])
   exact ⟨_,rfl,rfl⟩
  ·rw [if_neg hy]
   (repeat' first|refine vw ?_ ?_<;>intro hq|refine vz ?_|simp -implicitDefEqProofs only [go_sem,dcf hy])
   exact ⟨_,rfl,rfl⟩
 ·rw [if_neg hz]
  (repeat' first|refine vw ?_ ?_<;>intro hq|refine vz ?_|simp -implicitDefEqProofs only [go_sem,dcf hz])
  exact ⟨_,rfl,rfl⟩
end Abs
end
