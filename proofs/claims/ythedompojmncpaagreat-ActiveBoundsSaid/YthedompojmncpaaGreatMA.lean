/-
  Functions of the program walked: each is shown to compute a plain function (MA).
-/
import Derived.Test.YthedompojmncpaaGreatNO
import Derived.Test.YthedompojmncpaaGreatM6
import Derived.Test.YthedompojmncpaaGreatNB
noncomputable section
namespace Abs
set_option linter.unusedSimpArgs false
set_option linter.unusedVariables false
set_option maxRecDepth 100000
set_option maxHeartbeats 16000000
open Go Go.Proofs
theorem int_max (S:Int->Prop) (B:Int) (hb:∀ x,S x->x<=B):∀ (n:Nat) (x:Int),S x->(B - x).toNat<=n->∃ m,S m/\∀ y,S y->y<=m
 | 0,x,hx,hn=>⟨x,hx,fun y hy=>by have:=hb y hy; have:=hb x hx; omega⟩
 | n+1,x,hx,hn=>by
  by_cases h:∃ y,S y/\x < y
  ·obtain ⟨y,hy,hxy⟩:=h
   have:=hb y hy
   exact int_max S B hb n y hy (by omega)
  ·exact ⟨x,hx,fun y hy=>Decidable.byContradiction fun hc=>h ⟨y,hy,by omega⟩⟩
/-- From i to l along edges that do not reset clock k. -/
inductive Rch (p:Pr) (k i:Nat):Nat->Prop
 | refl:Rch p k i i
 | step {a b:Nat} (e:Eg) (h:Rch p k i a) (he:e∈p.egs) (hf:e.fr=(a:Int)) (ht:e.to=(b:Int)) (hr:rstB e.rs ((k:Int)+1)=false):Rch p k i b
theorem Rch.head {p:Pr} {k i j l:Nat} {e:Eg} (he:e∈p.egs) (hf:e.fr=(i:Int)) (ht:e.to=(j:Int)) (hr:rstB e.rs ((k:Int)+1)=false) (h:Rch p k j l):Rch p k i l:=by
 induction h with
 | refl=>exact .step e .refl he hf ht hr
 | step e' _ he' hf' ht' hr' ih=>exact .step e' ih he' hf' ht' hr'
theorem Rch.lt {p:Pr} {C k i l:Nat} (hp:PrOk C p) (hi:i < p.locs.length) (h:Rch p k i l):l < p.locs.length:=by
 induction h with
 | refl=>exact hi
 | step e _ he _ ht _ _=>have:=(hp.eg e he).2.1; omega
theorem Rch.le {p:Pr} {C k i l:Nat} {up:Bool} {T:Nat->Nat->Int} (hp:PrOk C p) (hT:Cld p C up T) (hi:i < p.locs.length) (hk:k < C) (h:Rch p k i l):T l k<=T i k:=by
 induction h with
 | refl=>exact Int.le_refl _
 | step e h' he hf ht hr ih=>
  have ha:=h'.lt hp hi
  have hb:=(hp.eg e he).2.1
  exact Int.le_trans (hT.cl e he _ _ hf ht ha (by omega) k hk hr) ih
theorem base_le {p:Pr} {C:Nat} (hp:PrOk C p) {up:Bool} {i k:Nat} {c:Int} (h:BaseOf p up i k c):c<=1048576:=by
 rcases h with ⟨_,y,hy,x,hx,_,rfl⟩|⟨e,he,_,x,hx,_,_,rfl⟩
 ·exact ((hp.iv y (List.mem_of_getElem? hy)).2 x hx).2
 ·exact ((hp.eg e he).2.2.2.2 x hx).2
theorem lst_exists {p:Pr} {C:Nat} (hp:PrOk C p) (up:Bool):∃ f,Lst p C up f:=by
 have key:∀ i k:Nat,∃ m:Int,(m=-1\/∃ l,Rch p k i l/\BaseOf p up l k m)/\-1<=m/\∀ l c,Rch p k i l->BaseOf p up l k c->c<=m:=by
  intro i k
  obtain ⟨m,hm,hmax⟩:=int_max (fun x=>x=-1\/∃ l,Rch p k i l/\BaseOf p up l k x) 1048576 (fun x hx=>by
   rcases hx with rfl|⟨l,_,hb⟩
   ·decide
   ·exact base_le hp hb) _ (-1) (.inl rfl) (Nat.le_refl _)
  exact ⟨m,hm,hmax _ (.inl rfl),fun l c hl hc=>hmax _ (.inr ⟨l,hl,hc⟩)⟩
 refine ⟨fun i k=>(key i k).choose,⟨fun i _ k _=>(key i k).choose_spec.2.1,fun i _ k _=>?_,fun T hT i hi k hk=>?_⟩,fun i _ k _=>(key i k).choose_spec.2.1,fun i _ k _ c hc=>(key i k).choose_spec.2.2 i c .refl hc,fun e he i j h1 h2 hi hj k hk hr=>?_⟩
 ·rcases (key i k).choose_spec.1 with h|⟨l,_,hb⟩
  ·rw [h]; decide
  ·exact base_le hp hb
 ·rcases (key i k).choose_spec.1 with h|⟨l,hl,hb⟩
  ·rw [h]; exact hT.lo i hi k hk
  ·exact Int.le_trans (hT.ba l (hl.lt hp hi) k hk _ hb) (hl.le hp hT hi hk)
 ·rcases (key j k).choose_spec.1 with h|⟨l,hl,hb⟩
  ·rw [h]; exact (key i k).choose_spec.2.1
  ·exact (key i k).choose_spec.2.2 l _ (hl.head he h1 h2 hr) hb
theorem lst_lst {p:Pr} {C:Nat} (hp:PrOk C p) (up:Bool):Lst p C up (lst p C up):=by
 have hx:=lst_exists hp up
 unfold lst
 rw [dif_pos hx]
 exact hx.choose_spec
/-- What is found when all that is reached has been looked at. -/
theorem lst_found {p:Pr} {C:Nat} (hp:PrOk C p) {up:Bool} {i k:Nat} (hi:i < p.locs.length) (hk:k < C) {R:List Nat} (h0:i∈R) (hR:∀ l∈R,Rch p k i l)
  (hcl:∀ a∈R,∀ e∈p.egs,e.fr=(a:Int)->rstB e.rs ((k:Int)+1)=false->∀ b:Nat,e.to=(b:Int)->b∈R) {m:Int} (h1:m=-1\/∃ l∈R,BaseOf p up l k m) (h2:-1<=m) (h3:∀ l∈R,∀ c,BaseOf p up l k c->c<=m):lst p C up i k=m:=by
 have hL:=lst_lst hp up
 have all:∀ l,Rch p k i l->l∈R:=fun l hl=>by
  induction hl with
  | refl=>exact h0
  | step e _ he hf ht hr ih=>exact hcl _ ih e he hf hr _ ht
 refine Int.le_antisymm ?_ ?_
 ·have hm:m<=1048576:=by
   rcases h1 with rfl|⟨l,_,hb⟩
   ·decide
   ·exact base_le hp hb
  have:=hL.low.le (fun a b=>if b=k then (if a∈R then m else 1048576) else lst p C up a b) ⟨fun a ha b hb=>?_,fun a ha b hb c hc=>?_,fun e he a b ha hb hal hbl q hq hr=>?_⟩ i hi k hk
  ·rwa [if_pos rfl,if_pos h0] at this
  ·skip
   split
   ·split
    ·exact h2
    ·decide
   ·exact hL.low.lo a ha b hb
  ·skip
   split
   ·rename_i hbk
    subst hbk
    split
    ·rename_i hm
     exact h3 a hm c hc
    ·exact base_le hp hc
   ·exact hL.cld.ba a ha b hb c hc
  ·skip
   by_cases hqk:q=k
   ·subst hqk
    rw [if_pos rfl,if_pos rfl]
    by_cases haR:a∈R
    ·rw [if_pos (hcl a haR e he ha hr b hb),if_pos haR]
     exact Int.le_refl _
    ·rw [if_neg haR]
     split
     ·exact hm
     ·exact Int.le_refl _
   ·rw [if_neg hqk,if_neg hqk]
    exact hL.cld.cl e he a b ha hb hal hbl q hq hr
 ·rcases h1 with rfl|⟨l,hl,hb⟩
  ·exact hL.low.lo i hi k hk
  ·exact Int.le_trans (hL.cld.ba l ((hR l hl).lt hp hi) k hk _ hb) ((hR l hl).le hp hL.cld hi hk)
def grS (k:Int) (lo:Bool) (m:Int) (x:Cn):Int:=if x.k=k/\x.lo=lo then max m x.c else m
def grP (l:List Cn) (k:Int) (lo:Bool):Int:=l.foldl (grS k lo) (-1)
theorem gr_take {l:List Cn} {q:Nat} {x:Cn} (k:Int) (lo:Bool) (h:l[q]?=some x):grP (l.take (q+1)) k lo=grS k lo (grP (l.take q) k lo) x:=by
 unfold grP
 rw [List.take_add_one,h,List.foldl_append]; rfl
theorem grS_ge (k:Int) (lo:Bool) (m:Int) (x:Cn):m<=grS k lo m x:=by
 unfold grS
 split<;>omega
theorem foldl_grS_ge (k:Int) (lo:Bool):∀ (l:List Cn) (m:Int),m<=l.foldl (grS k lo) m
 | [],m=>Int.le_refl _
 | x::l,m=>Int.le_trans (grS_ge k lo m x) (foldl_grS_ge k lo l _)
theorem foldl_grS_mem (k:Int) (lo:Bool):∀ (l:List Cn) (m:Int) (x:Cn),x∈l->x.k=k->x.lo=lo->x.c<=l.foldl (grS k lo) m
 | y::l,m,x,hx,hk,hlo=>by
  rcases List.mem_cons.1 hx with rfl|hx
  ·refine Int.le_trans ?_ (foldl_grS_ge k lo l _)
   unfold grS
   rw [if_pos ⟨hk,hlo⟩]
   omega
  ·exact foldl_grS_mem k lo l _ x hx hk hlo
theorem grP_mem {l:List Cn} {k:Int} {lo:Bool} {x:Cn} (hx:x∈l) (hk:x.k=k) (hlo:x.lo=lo):x.c<=grP l k lo:=foldl_grS_mem k lo l (-1) x hx hk hlo
theorem foldl_grS_or (k:Int) (lo:Bool):∀ (l:List Cn) (m:Int),l.foldl (grS k lo) m=m\/∃ x∈l,x.k=k/\x.lo=lo/\x.c=l.foldl (grS k lo) m
 | [],m=>.inl rfl
 | y::l,m=>by
  rw [List.foldl_cons]
  rcases foldl_grS_or k lo l (grS k lo m y) with h|⟨x,hx,h1,h2,h3⟩
  ·rw [h]
   unfold grS
   split
   ·rename_i hy
    by_cases hm:m<=y.c
    ·exact .inr ⟨y,by simp,hy.1,hy.2,by omega⟩
    ·exact .inl (by omega)
   ·exact .inl rfl
  ·exact .inr ⟨x,by simp [hx],h1,h2,h3⟩
theorem grP_or (l:List Cn) (k:Int) (lo:Bool):grP l k lo=-1\/∃ x∈l,x.k=k/\x.lo=lo/\x.c=grP l k lo:=foldl_grS_or k lo l (-1)
theorem mx_int {a b:Int}:(if b > a then b else a)=max a b:=by
 split<;>omega
theorem greatestRC {w:WD} {S:AVal} {l:List Cn} (hl:IsCns l S) (k:Int) (lo:Bool):GivesV (EE w) 27 [S,(.sc (.int .i64 (k))),(.sc (.bool (lo)))] (.sc (.int .i64 (grP l k lo))):=by
 obtain ⟨hS,hll,hok⟩:=hl
 have hSn:∀ σ:AStore,aLen (.slice 0) S σ=some (.sc (.int .i64 (l.length))):=fun σ=>by have:=hS.len (σ:=σ); rwa [List.length_map] at this
 refine GivesV.of (fun _=>.sc _) (.cons _ _ (hS.wf (WFs.map wf_cn)) (.cons _ _ (.sc _) (.cons _ _ (.sc _) .nil))) 1 ?_
 refine of_27 rfl rfl rfl (by kernel_rfl) ?_
 simp -implicitDefEqProofs only [go_sem]
 (try (repeat' first|(refine vy ?_ ?_<;>rintro ⟨hd,hq⟩<;>first|(exfalso; omega)|simp -implicitDefEqProofs only [go_sem,hd]|skip)|refine vz ?_|simp -implicitDefEqProofs only [go_sem]))
 refine vlp (ι:=Nat) (fun j=>[(0,S),(1,(.sc (.int .i64 (k)))),(2,(.sc (.bool (lo)))),(7,(.sc (.int .i64 (grP (l.take j) k lo)))),(8,(.sc (.int .i64 (j))))]) (fun j τ=>j<=l.length) (fun j=>l.length - j) (fun _=>rfl) 0 ?_ ?_ ?_
 ·(repeat' (first|exact trivial|refine ⟨rfl,?_⟩))
 ·exact Nat.zero_le _
 rintro j τ hj
 by_cases hlt:j < l.length
 ·have d0:decide ((j:Int) < (l.length:Int))=true:=dct (by omega)
  obtain ⟨x,hx⟩:∃ x,l[j]?=some x:=⟨l[j]'(by omega),by simp⟩
  have hx':(l.map cnA)[j]?=some (cnA x):=by rw [List.getElem?_map,hx]; rfl
  have hix:=fun (σ:AStore)=>hS.idx (σ:=σ) (k:=.i64) hx'
  have hw:=wrapS (i:=j) (by omega)
  have hgt:=gr_take k lo hx
  obtain ⟨xk,xl,xs,xc⟩:=x
  by_cases hk:xk=k/\xl=lo
  ·obtain ⟨rfl,rfl⟩:=hk
   have d1:decide (xk=xk)=true:=dct rfl
   have hgs:grS xk xl (grP (l.take j) xk xl) ⟨xk,xl,xs,xc⟩=max (grP (l.take j) xk xl) xc:=if_pos ⟨rfl,rfl⟩
   rw [hgs] at hgt
   have d2:(xl==xl)=true:=by cases xl<;>rfl
   simp -implicitDefEqProofs only [go_sem,hSn,d0]
   (repeat' first|(refine vy ?_ ?_<;>rintro ⟨hd,hq⟩<;>first|(exfalso; omega)|simp -implicitDefEqProofs only [go_sem,hd]|skip)|refine vz ?_|simp -implicitDefEqProofs only [go_sem,hSn,d0,hix,cnA,d1,d2,mx_int,hw])
   refine ⟨j+1,by dsimp only; omega,by dsimp only; omega,?_⟩
   simp only [hgt]
   (repeat' (first|exact trivial|refine ⟨rfl,?_⟩))
  ·have hgs:grS k lo (grP (l.take j) k lo) ⟨xk,xl,xs,xc⟩=grP (l.take j) k lo:=if_neg hk
   rw [hgs] at hgt
   by_cases h1:xk=k
   ·have d1:=dct h1
    have d2:(xl==lo)=false:=by
     cases hq:xl==lo with
     | false=>rfl
     | true=>exact absurd ⟨h1,eq_of_beq hq⟩ hk
    simp -implicitDefEqProofs only [go_sem,hSn,d0]
    (repeat' first|(refine vy ?_ ?_<;>rintro ⟨hd,hq⟩<;>first|(exfalso; omega)|simp -implicitDefEqProofs only [go_sem,hd]|skip)|refine vz ?_|simp -implicitDefEqProofs only [go_sem,hSn,d0,hix,cnA,d1,d2,hw])
    refine ⟨j+1,by dsimp only; omega,by dsimp only; omega,?_⟩
    simp only [hgt]
    (repeat' (first|exact trivial|refine ⟨rfl,?_⟩))
   ·have d1:=dcf h1
    simp -implicitDefEqProofs only [go_sem,hSn,d0]
    (repeat' first|(refine vy ?_ ?_<;>rintro ⟨hd,hq⟩<;>first|(exfalso; omega)|simp -implicitDefEqProofs only [go_sem,hd]|skip)|refine vz ?_|simp -implicitDefEqProofs only [go_sem,hSn,d0,hix,cnA,d1,hw])
    refine ⟨j+1,by dsimp only; omega,by dsimp only; omega,?_⟩
    simp only [hgt]
    (repeat' (first|exact trivial|refine ⟨rfl,?_⟩))
 ·obtain rfl:j=l.length:=by omega
  have d0:decide ((l.length:Int) < (l.length:Int))=false:=dcf (by omega)
  simp -implicitDefEqProofs only [go_sem,hSn,d0]
  (repeat' first|(refine vy ?_ ?_<;>rintro ⟨hd,hq⟩<;>first|(exfalso; omega)|simp -implicitDefEqProofs only [go_sem,hd]|skip)|refine vz ?_|simp -implicitDefEqProofs only [go_sem,hSn,d0])
  refine ⟨_,rfl,?_⟩
  rw [List.take_length]
  rfl
theorem resets16RC {w:WD} {y:Eg} {v:AVal} (h:IsEg y v) (hl:y.rs.length<=1000000) (k:Int):GivesV (EE w) 28 [v,(.sc (.int .i64 (k)))] (.sc (.bool (rstB y.rs k))):=by
 have hwf:=h.wf
 obtain ⟨fr,to,gd,cd,ch,snd,ss,rs,cost,kind⟩:=y
 obtain ⟨G,a,a2,a3,a4,SS,SR,rfl,hG,hEx,hSs,hR,i1,i2,i3,i4,i5⟩:=h
 have kG:=hG.1.fit
 have cG:=hG.1.cells
 have iG:=hG.1.isCell
 obtain ⟨sels,hS1,hSl,hSat⟩:=hSs.at'
 have kSS:=hS1.fit
 have cSS:=hS1.cells
 have iSS:=hS1.isCell
 have kR:=hR.1.fit
 have cR:=hR.1.cells
 have iR:=hR.1.isCell
 have hRn:∀ σ:AStore,aLen (.slice 0) SR σ=some (.sc (.int .i64 (rs.length))):=fun σ=>by have:=hR.1.len (σ:=σ); rwa [List.length_map] at this
 obtain ⟨kk,nn,ii,rfl,rfl,rfl,kX,cX,iX⟩:∃ (kk:Int) (nn:ByteArray) (ii:Int),a=(.sc (.int .i64 (kk)))/\a2=.sc (.string nn)/\a3=(.sc (.int .i64 (ii)))/\a4.fit=true/\a4.cells=[a4]/\a4.isCell=true:=by
  obtain ⟨k,nm,i,l⟩:=cd
  simp only [IsEx] at hEx
  obtain ⟨S,els,he,hS,_⟩:=hEx
  simp only [AVal.agg.injEq,List.cons.injEq,and_true] at he
  obtain ⟨rfl,rfl,rfl,rfl⟩:=he
  exact ⟨_,_,_,rfl,rfl,rfl,hS.fit,hS.cells,hS.isCell⟩
 refine GivesV.of (fun _=>.sc _) (.cons _ _ hwf (.cons _ _ (.sc _) .nil)) 1 ?_
 refine of_28 rfl rfl rfl (by kernel_rfl) ?_
 simp -implicitDefEqProofs only [go_sem,kX,cX,iX,kG,cG,iG,kSS,cSS,iSS,kR,cR,iR]
 (try (repeat' first|(refine vy ?_ ?_<;>rintro ⟨hd,hq⟩<;>first|(exfalso; omega)|simp -implicitDefEqProofs only [go_sem,hd]|skip)|refine vz ?_|simp -implicitDefEqProofs only [go_sem]))
 simp only at hl hR
 have g0:(empty.alloc (.cells 13 [.agg [(.sc (.int .i64 (fr))),(.sc (.int .i64 (to))),G,(.sc (.int .i64 (kk))),.sc (.string nn),(.sc (.int .i64 (ii))),a4,(.sc (.int .i64 (ch))),(.sc (.bool (snd))),SS,SR,(.sc (.int .i64 (cost))),(.sc (.int .i64 (kind)))]])).get 0=some (.cells 13 [.agg [(.sc (.int .i64 (fr))),(.sc (.int .i64 (to))),G,(.sc (.int .i64 (kk))),.sc (.string nn),(.sc (.int .i64 (ii))),a4,(.sc (.int .i64 (ch))),(.sc (.bool (snd))),SS,SR,(.sc (.int .i64 (cost))),(.sc (.int .i64 (kind)))]]):=by rw [AStore.get_alloc]; rfl
 generalize empty.alloc (.cells 13 [.agg [(.sc (.int .i64 (fr))),(.sc (.int .i64 (to))),G,(.sc (.int .i64 (kk))),.sc (.string nn),(.sc (.int .i64 (ii))),a4,(.sc (.int .i64 (ch))),(.sc (.bool (snd))),SS,SR,(.sc (.int .i64 (cost))),(.sc (.int .i64 (kind)))]])=τ at g0 ⊢
 refine vlp (ι:=Nat) (fun j=>[(1,(.sc (.int .i64 (k)))),(2,.ptr 0 0 0),(5,(.sc (.int .i64 (j))))]) (fun j σ=>j<=rs.length/\σ=τ/\∀ i,i < j->∀ z,rs[i]?=some z->z.k≠k) (fun j=>rs.length - j) (fun _=>rfl) 0 ?_ ?_ ?_
 ·(repeat' (first|exact trivial|refine ⟨rfl,?_⟩))
 ·exact ⟨Nat.zero_le _,rfl,fun i hi=>absurd hi (Nat.not_lt_zero _)⟩
 rintro j σ ⟨hj,rfl,hall⟩
 by_cases hlt:j < rs.length
 ·have d0:decide ((j:Int) < (rs.length:Int))=true:=dct (by omega)
  obtain ⟨z,hz⟩:∃ z,rs[j]?=some z:=⟨rs[j]'(by omega),by simp⟩
  have hz':(rs.map rtA)[j]?=some (rtA z):=by rw [List.getElem?_map,hz]; rfl
  have hiz:=fun (σ:AStore)=>hR.1.idx (σ:=σ) (k:=.i64) hz'
  have hw:=wrapS (i:=j) (by omega)
  obtain ⟨zk,zt⟩:=z
  by_cases hk:zk=k
  ·have e1:=dct hk
   simp -implicitDefEqProofs only [go_sem,g0,kX,cX,iX,kG,cG,iG,kSS,cSS,iSS,kR,cR,iR,hRn,d0]
   (repeat' first|(refine vy ?_ ?_<;>rintro ⟨hd,hq⟩<;>first|(exfalso; omega)|simp -implicitDefEqProofs only [go_sem,hd]|skip)|refine vz ?_|simp -implicitDefEqProofs only [go_sem,g0,kX,cX,iX,kG,cG,iG,kSS,cSS,iSS,kR,cR,iR,hRn,d0,hiz,rtA,e1])
   refine ret_bool ?_
   symm
   simp only [rstB,List.any_eq_true]
   exact ⟨_,List.mem_of_getElem? hz,e1⟩
  ·have e1:=dcf hk
   simp -implicitDefEqProofs only [go_sem,g0,kX,cX,iX,kG,cG,iG,kSS,cSS,iSS,kR,cR,iR,hRn,d0]
   (repeat' first|(refine vy ?_ ?_<;>rintro ⟨hd,hq⟩<;>first|(exfalso; omega)|simp -implicitDefEqProofs only [go_sem,hd]|skip)|refine vz ?_|simp -implicitDefEqProofs only [go_sem,g0,kX,cX,iX,kG,cG,iG,kSS,cSS,iSS,kR,cR,iR,hRn,d0,hiz,rtA,e1,hw])
   refine ⟨j+1,by dsimp only; omega,⟨by omega,rfl,fun i hi z hzi=>?_⟩,by (repeat' (first|exact trivial|refine ⟨rfl,?_⟩))⟩
   by_cases hij:i=j
   ·subst hij
    rw [hz] at hzi
    cases hzi
    exact hk
   ·exact hall i (by omega) z hzi
 ·obtain rfl:j=rs.length:=by omega
  have d0:decide ((rs.length:Int) < (rs.length:Int))=false:=dcf (by omega)
  simp -implicitDefEqProofs only [go_sem,g0,kX,cX,iX,kG,cG,iG,kSS,cSS,iSS,kR,cR,iR,hRn,d0]
  (repeat' first|(refine vy ?_ ?_<;>rintro ⟨hd,hq⟩<;>first|(exfalso; omega)|simp -implicitDefEqProofs only [go_sem,hd]|skip)|refine vz ?_|simp -implicitDefEqProofs only [go_sem,g0,kX,cX,iX,kG,cG,iG,kSS,cSS,iSS,kR,cR,iR,hRn,d0])
  refine ret_bool ?_
  symm
  simp only [rstB,List.any_eq_false]
  intro z hz
  obtain ⟨i,hi,rfl⟩:=List.mem_iff_getElem.1 hz
  have:=hall i (by omega) _ (List.getElem?_eq_getElem hi)
  simpa using this
theorem check16RC {w:WD} {n:Nt} {v:AVal} {s:Stt} {u S:AVal} {l:List Cn} (h:IsNt n v) (hs:NtS n) (hu:IsStt s u) (hl:IsCns l S):GivesV (EE w) 18 [v,u,S] (.sc (.int .i64 (actI n s l))):=by
 have hwf:=h.wf
 have hwu:=hu.wf
 have hwS:=hl.wf
 have hVa:=fun w:WD=>validRC (w:=w) h hs
 have hIv:=fun w:WD=>inv13RC (w:=w) h hs hu
 obtain ⟨SV,SC,SF,SP,rfl,fV,fC,fF,fP⟩:=h.fit0
 obtain ⟨L,U,rfl,⟨hL,lL,iL0⟩,⟨hU,lU,iU0⟩⟩:=hu
 obtain ⟨hS,ll,hok⟩:=hl
 have hSn:∀ σ:AStore,aLen (.slice 0) S σ=some (.sc (.int .i64 (l.length))):=fun σ=>by have:=hS.len (σ:=σ); rwa [List.length_map] at this
 have kL:=hL.fit
 have cL:=hL.cells
 have iL:=hL.isCell
 have kU:=hU.fit
 have cU:=hU.cells
 have iU:=hU.isCell
 refine GivesV.of (fun _=>.sc _) (.cons _ _ hwf (.cons _ _ hwu (.cons _ _ hwS .nil))) 2 ?_
 refine of_18 rfl rfl rfl (by kernel_rfl) ?_
 simp -implicitDefEqProofs only [go_sem,fV,fC,fF,fP,kL,cL,iL,kU,cU,iU]
 have g0:((empty.alloc (.cells 5 [.agg [(.sc (.int .i64 (n.clocks))),SV,SC,SF,SP]])).alloc (.cells 2 [.agg [L,U]])).get 0=some (.cells 5 [.agg [(.sc (.int .i64 (n.clocks))),SV,SC,SF,SP]]):=by rw [AStore.get_alloc]; rfl
 have g1:((empty.alloc (.cells 5 [.agg [(.sc (.int .i64 (n.clocks))),SV,SC,SF,SP]])).alloc (.cells 2 [.agg [L,U]])).get 1=some (.cells 2 [.agg [L,U]]):=by rw [AStore.get_alloc]; rfl
 generalize (empty.alloc (.cells 5 [.agg [(.sc (.int .i64 (n.clocks))),SV,SC,SF,SP]])).alloc (.cells 2 [.agg [L,U]])=τ at g0 g1 ⊢
 refine (hVa _).use ?_
 cases hv:validB n with
 | false=>
  have hc:checkB n s=false:=by simp [checkB,hv]
  simp only [Bool.false_eq_true,if_false,if_true]
  (repeat' first|(refine vy ?_ ?_<;>rintro ⟨hd,hq⟩<;>first|(exfalso; omega)|simp -implicitDefEqProofs only [go_sem,hd]|skip)|refine vz ?_|simp -implicitDefEqProofs only [go_sem,g0,g1])
  exact ⟨_,rfl,by simp only [actI,hc,if_true]; rfl⟩
 | true=>
 simp only [Bool.false_eq_true,if_false,if_true]
 (repeat' first|(refine vy ?_ ?_<;>rintro ⟨hd,hq⟩<;>first|(exfalso; omega)|simp -implicitDefEqProofs only [go_sem,hd]|skip)|refine vz ?_|simp -implicitDefEqProofs only [go_sem,g0,g1,fV,fC,fF,fP,kL,cL,iL,kU,cU,iU])
 refine (hIv _).use fun r hr=>?_
 rcases hr with ⟨hc,rfl⟩|⟨hc,R,rfl,hR⟩
 ·(repeat' first|(refine vy ?_ ?_<;>rintro ⟨hd,hq⟩<;>first|(exfalso; omega)|simp -implicitDefEqProofs only [go_sem,hd]|skip)|refine vz ?_|simp -implicitDefEqProofs only [go_sem])
  exact ⟨_,rfl,by simp only [actI,hc,if_true]; rfl⟩
 ·have e1:decide ((100:Int) < l.length)=decide (100 < l.length):=decide_eq_decide.2 (by omega)
  cases hb:decide (100 < l.length) with
  | true=>
   rw [hb] at e1
   have hb':=of_decide_eq_true hb
   (repeat' first|(refine vy ?_ ?_<;>rintro ⟨hd,hq⟩<;>first|(exfalso; omega)|simp -implicitDefEqProofs only [go_sem,hd]|skip)|refine vz ?_|simp -implicitDefEqProofs only [go_sem,hSn,e1])
   exact ⟨_,rfl,by simp only [actI,hc,Bool.true_eq_false,if_false,if_pos hb']; rfl⟩
  | false=>
   rw [hb] at e1
   have hb':=of_decide_eq_false hb
   have hval:actI n s l=if l.all (exB n) then 0 else 2:=by simp only [actI,hc,Bool.true_eq_false,if_false,if_neg hb']
   (repeat' first|(refine vy ?_ ?_<;>rintro ⟨hd,hq⟩<;>first|(exfalso; omega)|simp -implicitDefEqProofs only [go_sem,hd]|skip)|refine vz ?_|simp -implicitDefEqProofs only [go_sem,hSn,e1])
   refine vlp (ι:=Nat) (fun j=>[(2,S),(3,.ptr 0 0 0),(9,(.sc (.int .i64 (j))))]) (fun j σ=>j<=l.length/\σ=τ/\(l.take j).all (exB n)=true) (fun j=>l.length - j) (fun _=>rfl) 0 ?_ ?_ ?_
   ·(repeat' (first|exact trivial|refine ⟨rfl,?_⟩))
   ·exact ⟨Nat.zero_le _,rfl,rfl⟩
   rintro j σ ⟨hj,rfl,hall⟩
   by_cases hlt:j < l.length
   ·have d0:decide ((j:Int) < (l.length:Int))=true:=dct (by omega)
    obtain ⟨x,hx⟩:∃ x,l[j]?=some x:=⟨l[j]'(by omega),by simp⟩
    have hx':(l.map cnA)[j]?=some (cnA x):=by rw [List.getElem?_map,hx]; rfl
    have hix:=fun (σ:AStore)=>hS.idx (σ:=σ) (k:=.i64) hx'
    have hw:=wrapS (i:=j) (by omega)
    have hat:=all_take1 (P:=exB n) hx
    have hbad:exB n x=false->actI n s l=2:=fun h=>by
     rw [hval,if_neg]
     intro ha
     rw [List.all_eq_true.1 ha x (List.mem_of_getElem? hx)] at h
     cases h
    obtain ⟨k,lo,st,c⟩:=x
    simp -implicitDefEqProofs only [go_sem,hSn,d0]
    (repeat' first|(refine vy ?_ ?_<;>rintro ⟨hd,hq⟩<;>first|(exfalso; omega)|simp -implicitDefEqProofs only [go_sem,hd]|skip)|refine vz ?_|simp -implicitDefEqProofs only [go_sem,hSn,d0])
    by_cases h1:k < 1
    ·have q1:=dct h1
     ((try (refine Z_seq ?_; (try simp -implicitDefEqProofs only [go_sem]))); refine Z_draw (by kernel_rfl) (0::1::2::3::4::5::6::7::8::9::10::11::12::13::14::15::16::17::18::19::20::21::22::23::24::25::26::27::28::29::30::31::[]) ((31,2147483647)::(30,1073741823)::(29,536870911)::(28,268435455)::(27,134217727)::(26,33554431)::(25,33554431)::(24,16777215)::(23,8388607)::(22,4194303)::(21,2097151)::(20,1048575)::(19,524287)::(18,131071)::(17,131071)::(16,65535)::(15,32767)::(14,16383)::(13,4223)::(12,127)::(11,2047)::(10,1023)::(9,511)::(8,127)::(7,127)::(6,63)::(5,31)::(4,15)::(3,7)::(2,3)::(1,0)::(0,0)::[]) (by kernel_rfl) (by kernel_rfl) ?_)
     simp -implicitDefEqProofs only [go_sem,hix,cnA,g0,q1]
     (try (repeat' first|(refine vy ?_ ?_<;>rintro ⟨hd,hq⟩<;>first|(exfalso; omega)|simp -implicitDefEqProofs only [go_sem,hd]|skip)|refine vz ?_|simp -implicitDefEqProofs only [go_sem,q1]))
     exact ⟨_,rfl,by rw [hbad (by simp [exB]; omega)]; rfl⟩
    have q1:=dcf h1
    by_cases h2:n.clocks < k
    ·have q2:=dct h2
     ((try (refine Z_seq ?_; (try simp -implicitDefEqProofs only [go_sem]))); refine Z_draw (by kernel_rfl) (0::1::2::3::4::5::6::7::8::9::10::11::12::13::14::15::16::17::18::19::20::21::22::23::24::25::26::27::28::29::30::31::[]) ((31,2147483647)::(30,1073741823)::(29,536870911)::(28,268435455)::(27,134217727)::(26,33554431)::(25,33554431)::(24,16777215)::(23,8388607)::(22,4194303)::(21,2097151)::(20,1048575)::(19,524287)::(18,131071)::(17,131071)::(16,65535)::(15,32767)::(14,16383)::(13,4223)::(12,127)::(11,2047)::(10,1023)::(9,511)::(8,127)::(7,127)::(6,63)::(5,31)::(4,15)::(3,7)::(2,3)::(1,0)::(0,0)::[]) (by kernel_rfl) (by kernel_rfl) ?_)
     simp -implicitDefEqProofs only [go_sem,hix,cnA,g0,q1,q2,fV,fC,fF,fP]
     (try (repeat' first|(refine vy ?_ ?_<;>rintro ⟨hd,hq⟩<;>first|(exfalso; omega)|simp -implicitDefEqProofs only [go_sem,hd]|skip)|refine vz ?_|simp -implicitDefEqProofs only [go_sem,q1,q2]))
     exact ⟨_,rfl,by rw [hbad (by simp [exB]; omega)]; rfl⟩
    have q2:=dcf h2
    by_cases h3:c < 0
    ·have q3:=dct h3
     ((try (refine Z_seq ?_; (try simp -implicitDefEqProofs only [go_sem]))); refine Z_draw (by kernel_rfl) (0::1::2::3::4::5::6::7::8::9::10::11::12::13::14::15::16::17::18::19::20::21::22::23::24::25::26::27::28::29::30::31::[]) ((31,2147483647)::(30,1073741823)::(29,536870911)::(28,268435455)::(27,134217727)::(26,33554431)::(25,33554431)::(24,16777215)::(23,8388607)::(22,4194303)::(21,2097151)::(20,1048575)::(19,524287)::(18,131071)::(17,131071)::(16,65535)::(15,32767)::(14,16383)::(13,4223)::(12,127)::(11,2047)::(10,1023)::(9,511)::(8,127)::(7,127)::(6,63)::(5,31)::(4,15)::(3,7)::(2,3)::(1,0)::(0,0)::[]) (by kernel_rfl) (by kernel_rfl) ?_)
     simp -implicitDefEqProofs only [go_sem,hix,cnA,g0,q1,q2,q3,fV,fC,fF,fP]
     (try (repeat' first|(refine vy ?_ ?_<;>rintro ⟨hd,hq⟩<;>first|(exfalso; omega)|simp -implicitDefEqProofs only [go_sem,hd]|skip)|refine vz ?_|simp -implicitDefEqProofs only [go_sem,q1,q2,q3]))
     exact ⟨_,rfl,by rw [hbad (by simp [exB]; omega)]; rfl⟩
    have q3:=dcf h3
    by_cases h4:1048576 < c
    ·have q4:=dct h4
     ((try (refine Z_seq ?_; (try simp -implicitDefEqProofs only [go_sem]))); refine Z_draw (by kernel_rfl) (0::1::2::3::4::5::6::7::8::9::10::11::12::13::14::15::16::17::18::19::20::21::22::23::24::25::26::27::28::29::30::31::[]) ((31,2147483647)::(30,1073741823)::(29,536870911)::(28,268435455)::(27,134217727)::(26,33554431)::(25,33554431)::(24,16777215)::(23,8388607)::(22,4194303)::(21,2097151)::(20,1048575)::(19,524287)::(18,131071)::(17,131071)::(16,65535)::(15,32767)::(14,16383)::(13,4223)::(12,127)::(11,2047)::(10,1023)::(9,511)::(8,127)::(7,127)::(6,63)::(5,31)::(4,15)::(3,7)::(2,3)::(1,0)::(0,0)::[]) (by kernel_rfl) (by kernel_rfl) ?_)
     simp -implicitDefEqProofs only [go_sem,hix,cnA,g0,q1,q2,q3,q4,fV,fC,fF,fP]
     (try (repeat' first|(refine vy ?_ ?_<;>rintro ⟨hd,hq⟩<;>first|(exfalso; omega)|simp -implicitDefEqProofs only [go_sem,hd]|skip)|refine vz ?_|simp -implicitDefEqProofs only [go_sem,q1,q2,q3,q4]))
     exact ⟨_,rfl,by rw [hbad (by simp [exB]; omega)]; rfl⟩
    have q4:=dcf h4
    ((try (refine Z_seq ?_; (try simp -implicitDefEqProofs only [go_sem]))); refine Z_draw (by kernel_rfl) (0::1::2::3::4::5::6::7::8::9::10::11::12::13::14::15::16::17::18::19::20::21::22::23::24::25::26::27::28::29::30::31::[]) ((31,2147483647)::(30,1073741823)::(29,536870911)::(28,268435455)::(27,134217727)::(26,33554431)::(25,33554431)::(24,16777215)::(23,8388607)::(22,4194303)::(21,2097151)::(20,1048575)::(19,524287)::(18,131071)::(17,131071)::(16,65535)::(15,32767)::(14,16383)::(13,4223)::(12,127)::(11,2047)::(10,1023)::(9,511)::(8,127)::(7,127)::(6,63)::(5,31)::(4,15)::(3,7)::(2,3)::(1,0)::(0,0)::[]) (by kernel_rfl) (by kernel_rfl) ?_)
    simp -implicitDefEqProofs only [go_sem,hix,cnA,g0,q1,q2,q3,q4,fV,fC,fF,fP]
    (try (repeat' first|(refine vy ?_ ?_<;>rintro ⟨hd,hq⟩<;>first|(exfalso; omega)|simp -implicitDefEqProofs only [go_sem,hd]|skip)|refine vz ?_|simp -implicitDefEqProofs only [go_sem,q1,q2,q3,q4,hw]))
    refine ⟨j+1,by dsimp only; omega,⟨by omega,rfl,?_⟩,by (repeat' (first|exact trivial|refine ⟨rfl,?_⟩))⟩
    rw [hat,hall]
    simp [exB]
    omega
   ·obtain rfl:j=l.length:=by omega
    rw [List.take_length] at hall
    have d0:decide ((l.length:Int) < (l.length:Int))=false:=dcf (by omega)
    simp -implicitDefEqProofs only [go_sem,hSn,d0]
    (repeat' first|(refine vy ?_ ?_<;>rintro ⟨hd,hq⟩<;>first|(exfalso; omega)|simp -implicitDefEqProofs only [go_sem,hd]|skip)|refine vz ?_|simp -implicitDefEqProofs only [go_sem,hSn,d0])
    exact ⟨_,rfl,by rw [hval,if_pos hall]; rfl⟩
structure Bf (p:Pr) (k i:Nat) (up:Bool) (at':Nat) (iv:Bool) (j:Nat) (R:List Nat) (m:Int):Prop where
 nd:R.Nodup
 h0:i∈R
 rc:∀ l∈R,Rch p k i l
 dn:∀ q,q < at'->∀ a,R[q]?=some a->(∀ e∈p.egs,e.fr=(a:Int)->rstB e.rs ((k:Int)+1)=false->∀ b:Nat,e.to=(b:Int)->b∈R)/\∀ c,BaseOf p up a k c->c<=m
 pe:∀ a,R[at']?=some a->∀ q,q < j->∀ e,p.egs[q]?=some e->e.fr=(a:Int)->(rstB e.rs ((k:Int)+1)=false->∀ b:Nat,e.to=(b:Int)->b∈R)/\∀ x∈e.gd,x.lo=!up->x.k=(k:Int)+1->x.c<=m
 pi:∀ a,R[at']?=some a->iv=true->up=true->∀ y,p.locs[a]?=some y->∀ x∈y.inv,x.k=(k:Int)+1->x.c<=m
 m1:m=-1\/∃ l∈R,BaseOf p up l k m
 m2:-1<=m
section
variable {p:Pr} {k i at' j:Nat} {up iv:Bool} {R:List Nat} {m:Int}
theorem Bf.start (p:Pr) (k i:Nat) (up:Bool):Bf p k i up 0 false 0 [i] (-1) where
 nd:=by simp
 h0:=by simp
 rc:=fun l hl=>by simp at hl; subst hl; exact .refl
 dn:=fun q hq=>absurd hq (Nat.not_lt_zero _)
 pe:=fun a _ q hq=>absurd hq (Nat.not_lt_zero _)
 pi:=fun a _ h=>by cases h
 m1:=.inl rfl
 m2:=Int.le_refl _
theorem Bf.inv {a:Nat} {y:Lc} (h:Bf p k i up at' false 0 R m) (ha:R[at']?=some a) (hy:p.locs[a]?=some y) (hup:∀ x∈y.inv,x.lo=false):Bf p k i up at' true 0 R (if up then max m (grP y.inv ((k:Int)+1) false) else m):=by
 have hge:m<=(if up then max m (grP y.inv ((k:Int)+1) false) else m):=by split<;>omega
 refine ⟨h.nd,h.h0,h.rc,fun q hq b hb=>⟨(h.dn q hq b hb).1,fun c hc=>Int.le_trans ((h.dn q hq b hb).2 c hc) hge⟩,fun b hb q hq=>absurd hq (Nat.not_lt_zero _),fun b hb _ hu z hz x hx hk=>?_,?_,by have:=h.m2; omega⟩
 ·rw [ha] at hb
  cases hb
  rw [hy] at hz
  cases hz
  rw [if_pos hu]
  have:=grP_mem (k:=(k:Int)+1) (lo:=false) hx hk (hup x hx)
  omega
 ·cases up with
  | false=>simpa using h.m1
  | true=>
   simp only [if_true]
   rcases grP_or y.inv ((k:Int)+1) false with hg|⟨x,hx,hk,_,hc⟩
   ·have:=h.m2
    rw [hg,show max m (-1)=m by omega]
    exact h.m1
   ·by_cases hm:m<=grP y.inv ((k:Int)+1) false
    ·rw [show max m (grP y.inv ((k:Int)+1) false)=grP y.inv ((k:Int)+1) false by omega]
     exact .inr ⟨a,List.mem_of_getElem? ha,.inl ⟨rfl,y,hy,x,hx,hk,hc⟩⟩
    ·rw [show max m (grP y.inv ((k:Int)+1) false)=m by omega]
     exact h.m1
theorem Bf.skip {a:Nat} {e:Eg} (h:Bf p k i up at' true j R m) (ha:R[at']?=some a) (he:p.egs[j]?=some e) (hf:e.fr≠(a:Int)):Bf p k i up at' true (j+1) R m:=by
 refine ⟨h.nd,h.h0,h.rc,h.dn,fun b hb q hq e' he' hf'=>?_,h.pi,h.m1,h.m2⟩
 by_cases hqj:q=j
 ·subst hqj
  rw [he] at he'
  cases he'
  rw [ha] at hb
  cases hb
  exact absurd hf' hf
 ·exact h.pe b hb q (by omega) e' he' hf'
theorem get_app {R:List Nat} {q a:Nat} (X:List Nat) (h:R[q]?=some a):(R++X)[q]?=some a:=by
 rw [List.getElem?_append_left (List.getElem?_eq_some_iff.1 h).1]; exact h
theorem Bf.edge {a:Nat} {e:Eg} (h:Bf p k i up at' true j R m) (ha:R[at']?=some a) (he:p.egs[j]?=some e) (hf:e.fr=(a:Int)) {X:List Nat} (hX:(X=[]/\(rstB e.rs ((k:Int)+1)=false->∀ b:Nat,e.to=(b:Int)->b∈R))\/∃ b:Nat,X=[b]/\e.to=(b:Int)/\rstB e.rs ((k:Int)+1)=false/\b ∉ R):
  Bf p k i up at' true (j+1) (R++X) (max m (grP e.gd ((k:Int)+1) (!up))):=by
 have hem:=List.mem_of_getElem? he
 have ham:=List.mem_of_getElem? ha
 have hal:=(List.getElem?_eq_some_iff.1 ha).1
 have hge:m<=max m (grP e.gd ((k:Int)+1) (!up)):=by omega
 have hold:∀ q b,q<=at'->(R++X)[q]?=some b->R[q]?=some b:=fun q b hq hb=>by
  rw [List.getElem?_append_left (by omega)] at hb
  exact hb
 refine ⟨?_,by simp [h.h0],fun l hl=>?_,fun q hq b hb=>?_,fun b hb q hq e' he' hf'=>?_,fun b hb hi hu y hy x hx hk=>?_,?_,by have:=h.m2; omega⟩
 ·rcases hX with ⟨rfl,_⟩|⟨b,rfl,_,_,hb⟩
  ·simpa using h.nd
  ·rw [List.nodup_append]
   exact ⟨h.nd,by simp,by intro x hx y hy; simp at hy; subst hy; rintro rfl; exact hb hx⟩
 ·rcases List.mem_append.1 hl with hl|hl
  ·exact h.rc l hl
  ·rcases hX with ⟨rfl,_⟩|⟨b,rfl,ht,hr,_⟩
   ·cases hl
   ·simp at hl
    subst hl
    exact .step e (h.rc a ham) hem hf ht hr
 ·obtain ⟨h1,h2⟩:=h.dn q hq b (hold q b (by omega) hb)
  exact ⟨fun e he h3 h4 b' h5=>List.mem_append.2 (.inl (h1 e he h3 h4 b' h5)),fun c hc=>Int.le_trans (h2 c hc) hge⟩
 ·have hb':=hold at' b (Nat.le_refl _) hb
  by_cases hqj:q=j
  ·subst hqj
   rw [he] at he'
   cases he'
   refine ⟨fun hr b' hb'=>?_,fun x hx hlo hk=>?_⟩
   ·rcases hX with ⟨rfl,hin⟩|⟨b'',rfl,ht,_,_⟩
    ·simpa using hin hr b' hb'
    ·have:b''=b':=by omega
     simp [this]
   ·have:=grP_mem (k:=(k:Int)+1) (lo:=!up) hx hk hlo
    omega
  ·obtain ⟨h1,h2⟩:=h.pe b hb' q (by omega) e' he' hf'
   exact ⟨fun hr b' hb'=>List.mem_append.2 (.inl (h1 hr b' hb')),fun x hx hlo hk=>Int.le_trans (h2 x hx hlo hk) hge⟩
 ·exact Int.le_trans (h.pi b (hold at' b (Nat.le_refl _) hb) hi hu y hy x hx hk) hge
 ·have hold1:m=-1\/∃ l∈R++X,BaseOf p up l k m:=by
   rcases h.m1 with h1|⟨l,hl,hb⟩
   ·exact .inl h1
   ·exact .inr ⟨l,List.mem_append.2 (.inl hl),hb⟩
  rcases grP_or e.gd ((k:Int)+1) (!up) with hg|⟨x,hx,hk,hlo,hc⟩
  ·have:=h.m2
   rw [hg,show max m (-1)=m by omega]
   exact hold1
  ·by_cases hm:m<=grP e.gd ((k:Int)+1) (!up)
   ·rw [show max m (grP e.gd ((k:Int)+1) (!up))=grP e.gd ((k:Int)+1) (!up) by omega]
    exact .inr ⟨a,List.mem_append.2 (.inl ham),.inr ⟨e,hem,hf,x,hx,hlo,hk,hc⟩⟩
   ·rw [show max m (grP e.gd ((k:Int)+1) (!up))=m by omega]
    exact hold1
theorem Bf.next (h:Bf p k i up at' true p.egs.length R m):Bf p k i up (at'+1) false 0 R m:=by
 refine ⟨h.nd,h.h0,h.rc,fun q hq a ha=>?_,fun a _ q hq=>absurd hq (Nat.not_lt_zero _),(fun a _ hf=>by cases hf),h.m1,h.m2⟩
 by_cases hqa:q=at'
 ·subst hqa
  refine ⟨fun e he hf hr b hb=>?_,fun c hc=>?_⟩
  ·obtain ⟨j,hj,rfl⟩:=List.mem_iff_getElem.1 he
   exact (h.pe a ha j hj _ (List.getElem?_eq_getElem hj) hf).1 hr b hb
  ·rcases hc with ⟨hu,y,hy,x,hx,hk,rfl⟩|⟨e,he,hf,x,hx,hlo,hk,rfl⟩
   ·exact h.pi a ha rfl hu y hy x hx hk
   ·obtain ⟨j,hj,rfl⟩:=List.mem_iff_getElem.1 he
    exact (h.pe a ha j hj _ (List.getElem?_eq_getElem hj) hf).2 x hx hlo hk
 ·exact h.dn q (by omega) a ha
theorem Bf.fin {C:Nat} (hp:PrOk C p) (hi:i < p.locs.length) (hk:k < C) {iv:Bool} {j:Nat} (h:Bf p k i up at' iv j R m) (hat:at'=R.length):lst p C up i k=m:=
 lst_found hp hi hk h.h0 h.rc (fun a ha e he hf hr b hb=>by
  obtain ⟨q,hq,rfl⟩:=List.mem_iff_getElem.1 ha
  exact (h.dn q (by omega) _ (List.getElem?_eq_getElem hq)).1 e he hf hr b hb) h.m1 h.m2 fun l hl c hc=>by
  obtain ⟨q,hq,rfl⟩:=List.mem_iff_getElem.1 hl
  exact (h.dn q (by omega) _ (List.getElem?_eq_getElem hq)).2 c hc
theorem Bf.le {C:Nat} (hp:PrOk C p) (hi:i < p.locs.length) {iv:Bool} (h:Bf p k i up at' iv j R m):R.length<=p.locs.length:=by
 have hs:∀ (l:List Nat) (N:Nat),l.Nodup->(∀ x∈l,x < N)->l.length<=N:=by
  intro l N
  induction N generalizing l with
  | zero=>intro _ h; cases l with|nil=>simp|cons a l=>exact absurd (h a (by simp)) (Nat.not_lt_zero _)
  | succ N ih=>
   intro hnd hlt
   have h1:=ih (l.erase N) (hnd.erase N) (fun x hx=>by
    have h2:=(List.Nodup.mem_erase_iff hnd).1 hx
    have:=hlt x h2.2
    omega)
   have:=List.length_erase (l:=l) (a:=N)
   split at this<;>omega
 exact hs R _ h.nd fun x hx=>(h.rc x hx).lt hp hi
end
def nA (a:Nat):AVal:=(.sc (.int .i64 ((a:Int))))
structure BM (σ:AStore) (P:AVal) (L b:Nat) (R:List Nat) (A:AVal):Prop where
 g0:σ.get 0=some (.cells 3 [P])
 gb:σ.get b=some (.cells 1 ((List.range L).map fun a=>(.sc (.bool (decide (a∈R))))))
 gA:Own σ 1 A (R.map nA)
 n0:∀ l,A≠.slice 0 0 l
 nb:∀ l,A≠.slice b 0 l
 hb:0 < b
theorem BM.al {σ:AStore} {P A:AVal} {L b:Nat} {R:List Nat} (h:BM σ P L b R A) (y z:ABlk):BM ((σ.alloc y).set σ.next z) P L b R A:=
 ⟨get_al h.g0,get_al h.gb,h.gA.al _ _,h.n0,h.nb,h.hb⟩
theorem constantRC {w : WD} {p : Pr} {v : AVal} {C i k : Nat} (lower : Bool) (h : IsPr p v) (hp : PrOk C p) (hup : ∀ y ∈ p.locs, ∀ x ∈ y.inv, x.lo = false) (hi : i < p.locs.length) (hk : k < C) (hC : C ≤ 1000000) :
    GivesV (EE w) 19 [v,(.sc (.int .i64 (i))),(.sc (.int .i64 ((k:Int)+1))),(.sc (.bool (lower)))] (.sc (.int .i64 (lst p C (!lower) i k))):=by
  have hwf:=h.wf
  obtain ⟨SL,SE,rfl,hL,hE,iini⟩:=h
  obtain ⟨lels,hL1,hLl,hLat⟩:=hL.at'
  obtain ⟨eels,hE1,hEl,hEat⟩:=hE.at'
  have kL:=hL1.fit
  have cL:=hL1.cells
  have iL:=hL1.isCell
  have kE:=hE1.fit
  have cE:=hE1.cells
  have iE:=hE1.isCell
  have hLn:∀ σ:AStore,aLen (.slice 0) SL σ=some (.sc (.int .i64 (p.locs.length))):=fun σ=>hL1.lenN hLl
  have hEn:∀ σ:AStore,aLen (.slice 0) SE σ=some (.sc (.int .i64 (p.egs.length))):=fun σ=>hE1.lenN hEl
  have hll:=hp.ll
  refine GivesV.of (fun _=>.sc _) (.cons _ _ hwf (.cons _ _ (.sc _) (.cons _ _ (.sc _) (.cons _ _ (.sc _) .nil)))) 1 ?_
  generalize hT:lst p C (!lower) i k=T
  refine of_19 rfl rfl rfl (by kernel_rfl) ?_
  have hif:(0<=(p.locs.length:Int)/\((1:Nat):Int)*(p.locs.length:Int)<=2 ^ 48/\(p.locs.length:Int) < 2 ^ 62)=True:=eq_true ⟨by omega,by omega,by omega⟩
  have hie:(0<=(i:Int)/\(i:Int) < (p.locs.length:Int))=True:=eq_true ⟨by omega,by omega⟩
  have htn:((i:Int)).toNat=i:=rfl
  have hset:((List.replicate p.locs.length ((.sc (.bool (false))):AVal)).set i (.sc (.bool (true))))=(List.range p.locs.length).map fun a=>(.sc (.bool (decide (a∈[i])))):=by
    have h1:List.replicate p.locs.length ((.sc (.bool (false))):AVal)=(List.range p.locs.length).map fun _=>(.sc (.bool (false))):=by rw [List.map_const',List.length_range]
    rw [h1,row_set]
    refine List.map_congr_left fun a _=>?_
    by_cases ha:a=i
    · rw [if_pos ha,dct (by simp [ha])]
    · rw [if_neg ha,dcf (by simp [ha])]
  have hgi:(List.replicate p.locs.length ((.sc (.bool (false))):AVal))[i]?=some (.sc (.bool (false))):=by rw [List.getElem?_replicate,if_pos hi]
  simp -implicitDefEqProofs only [go_sem,kL,cL,iL,kE,cE,iE,hLn,hif]
  (try (repeat' first|(refine vy ?_ ?_<;>rintro ⟨hd,hq⟩<;>first|(exfalso; omega)|simp -implicitDefEqProofs only [go_sem,hd]|skip)|refine vz ?_|simp -implicitDefEqProofs only [go_sem,kL,cL,iL,kE,cE,iE,hLn,hif,ixSl_o hi,hie,htn,hgi,hset]))
  have hBM:BM ((((empty.alloc (.cells 3 [.agg [(.sc (.int .i64 (p.ini))),SL,SE]])).alloc (.cells 1 (List.replicate p.locs.length (.sc (.bool (false)))))).alloc (.cells 1 [(.sc (.int .i64 (i)))])).set 1 (.cells 1 ((List.range p.locs.length).map fun a=>(.sc (.bool (decide (a∈[i]))))))) (.agg [(.sc (.int .i64 (p.ini))),SL,SE]) p.locs.length 1 [i] (.slice 2 0 1):=by
    refine ⟨?_,?_,.inr ⟨by simp,2,rfl,?_⟩,(fun l h=>by cases h),(fun l h=>by cases h),by decide⟩
    all_goals
      have e1:empty.next=0:=rfl
      simp [AStore.get_set,AStore.get_alloc,alloc_next,e1,nA]
  generalize (((empty.alloc (.cells 3 [.agg [(.sc (.int .i64 (p.ini))),SL,SE]])).alloc (.cells 1 (List.replicate p.locs.length (.sc (.bool (false)))))).alloc (.cells 1 [(.sc (.int .i64 (i)))])).set 1 (.cells 1 ((List.range p.locs.length).map fun a=>(.sc (.bool (decide (a∈[i]))))))=τ0 at hBM ⊢
  refine vlp (ι:=Nat×List Nat×AVal×Int) (fun s=>[(2,(.sc (.int .i64 ((k:Int)+1)))),(3,(.sc (.bool (lower)))),(4,.ptr 0 0 0),(9,.slice 1 0 p.locs.length),(10,s.2.2.1),(11,(.sc (.int .i64 (s.2.2.2)))),(12,(.sc (.int .i64 (s.1))))]) (fun s τ=>BM τ (.agg [(.sc (.int .i64 (p.ini))),SL,SE]) p.locs.length 1 s.2.1 s.2.2.1/\Bf p k i (!lower) s.1 false 0 s.2.1 s.2.2.2/\s.1<=s.2.1.length) (fun s=>p.locs.length - s.1) (fun _=>rfl) (0,[i],.slice 2 0 1,-1) ?_ ?_ ?_
  · (repeat' (first|exact trivial|refine ⟨rfl,?_⟩))
  · exact ⟨hBM,Bf.start _ _ _ _,Nat.zero_le _⟩
  clear hBM
  rintro ⟨at',R,A,m⟩ τ ⟨hM,hF,hat⟩
  simp only at hM hF hat
  have hRl:=hF.le hp hi
  have hAn:∀ σ:AStore,aLen (.slice 0) A σ=some (.sc (.int .i64 (R.length))):=fun σ=>by have:=hM.gA.len (τ:=σ); rwa [List.length_map] at this
  by_cases hlt:at' < R.length
  · have d0:decide ((at':Int) < (R.length:Int))=true:=dct (by omega)
    obtain ⟨a,ha⟩:∃ a,R[at']?=some a:=⟨R[at']'(by omega),by simp⟩
    have ham:=List.mem_of_getElem? ha
    have hal:=(hF.rc a ham).lt hp hi
    have hw:=wrapS (i:=at') (by omega)
    obtain ⟨b,rfl,hb2⟩:∃ b,A=.slice b 0 R.length/\τ.get b=some (.cells 1 (R.map nA)):=by
      rcases hM.gA with ⟨h,_⟩|⟨_,b,h1,h2⟩
      · exfalso
        have:=congrArg List.length h
        simp at this
        rw [this] at hlt
        simp at hlt
      · exact ⟨b,by rw [h1,List.length_map],h2⟩
    obtain ⟨y,hy⟩:∃ y,p.locs[a]?=some y:=⟨p.locs[a]'hal,by simp⟩
    obtain ⟨ev,hev,hyv⟩:=hLat a y hy
    have hiy:=fun (σ:AStore)=>hL1.idx (σ:=σ) (k:=.i64) hev
    obtain ⟨S,rfl,hI,iy1,iy2⟩:=hyv
    have kS:=hI.1.fit
    have cS:=hI.1.cells
    have iS:=hI.1.isCell
    have hF1:=hF.inv ha hy (hup y (List.mem_of_getElem? hy))
    have g0:=hM.g0
    simp -implicitDefEqProofs only [go_sem,hAn,d0]
    refine vzt ?_
    simp -implicitDefEqProofs only [go_sem,hAn,hb2,ixSl_o hlt,ha,nA]
    refine vz ?_
    simp -implicitDefEqProofs only [go_sem,hAn,hb2,ixSl_o hlt,ha,nA]
    apply Z_join (ι:=Unit) (fun _=>[(2,(.sc (.int .i64 ((k:Int)+1)))),(3,(.sc (.bool (lower)))),(4,.ptr 0 0 0),(9,.slice 1 0 p.locs.length),(10,.slice b 0 R.length),(11,(.sc (.int .i64 (if (!lower)=true then max m (grP y.inv ((k:Int)+1) false) else m)))),(12,(.sc (.int .i64 (at')))),(13,(.sc (.int .i64 (a)))),(14,(.sc (.int .i64 (0))))]) (fun _ σ=>σ=τ) (fun _=>rfl)
    · intro J
      rcases Bool.eq_false_or_eq_true lower with hlw|hlw
      · have hmm:(if (!lower)=true then max m (grP y.inv ((k:Int)+1) false) else m)=m:=if_neg (by rw [hlw]; decide)
        refine vzf ?_ (by show some (AVal.sc (.bool (!lower)))=_; rw [hlw]; rfl)
        simp -implicitDefEqProofs only [go_sem]
        refine J () _ _ rfl (by simp only [hmm]; (repeat' (first|exact trivial|refine ⟨rfl,?_⟩)))
      · have hmm:(if (!lower)=true then max m (grP y.inv ((k:Int)+1) false) else m)=max m (grP y.inv ((k:Int)+1) false):=if_pos (by rw [hlw]; rfl)
        refine vzt ?_ (by show some (AVal.sc (.bool (!lower)))=_; rw [hlw]; rfl)
        simp -implicitDefEqProofs only [go_sem,g0,kL,cL,iL,kE,cE,iE,hiy,kS,cS,iS]
        refine (greatestRC hI ((k:Int)+1) false).use ?_
        simp -implicitDefEqProofs only [go_sem,mx_int]
        refine J () _ _ rfl (by simp only [hmm]; (repeat' (first|exact trivial|refine ⟨rfl,?_⟩)))
    · rintro _ σ rfl
      generalize (if (!lower)=true then max m (grP y.inv ((k:Int)+1) false) else m)=m1 at hF1 ⊢
      clear hF g0 hb2
      refine vlp (ι:=Nat×List Nat×AVal×Int) (fun s=>[(2,(.sc (.int .i64 ((k:Int)+1)))),(3,(.sc (.bool (lower)))),(4,.ptr 0 0 0),(9,.slice 1 0 p.locs.length),(10,s.2.2.1),(11,(.sc (.int .i64 (s.2.2.2)))),(12,(.sc (.int .i64 (at')))),(13,(.sc (.int .i64 (a)))),(14,(.sc (.int .i64 (s.1))))]) (fun s τ=>s.1<=p.egs.length/\BM τ (.agg [(.sc (.int .i64 (p.ini))),SL,SE]) p.locs.length 1 s.2.1 s.2.2.1/\Bf p k i (!lower) at' true s.1 s.2.1 s.2.2.2/\s.2.1[at']?=some a) (fun s=>p.egs.length - s.1) (fun _=>rfl) (0,R,.slice b 0 R.length,m1) ?_ ?_ ?_
      · (repeat' (first|exact trivial|refine ⟨rfl,?_⟩))
      · exact ⟨Nat.zero_le _,hM,hF1,ha⟩
      clear hM hF1 ha hAn hlt hat ham hal hw hRl
      rintro ⟨j,R,A,m⟩ τ ⟨hj,hM,hF,ha⟩
      simp only at hj hM hF ha
      have g0:=hM.g0
      have hRl:=hF.le hp hi
      have hlt:=(List.getElem?_eq_some_iff.1 ha).1
      have hat:=wrapS (i:=at') (by omega)
      by_cases hjl:j < p.egs.length
      · have d0:decide ((j:Int) < (p.egs.length:Int))=true:=dct (by omega)
        obtain ⟨e,he⟩:∃ e,p.egs[j]?=some e:=⟨p.egs[j]'(by omega),by simp⟩
        obtain ⟨ey,hey,hev⟩:=hEat j e he
        have hem:=List.mem_of_getElem? he
        obtain ⟨⟨hf0,hf1⟩,⟨ht0,ht1⟩,hgl,hrl,hgx⟩:=hp.eg e hem
        have hie2:=fun (σ:AStore)=>hE1.idx (σ:=σ) (k:=.i64) hey
        have hwj:=wrapS (i:=j) (by have:=hp.le; omega)
        have hev0:=hev
        obtain ⟨G,x1,x2,x3,a4,SS,SR,rfl,hG,hEx,hSs,hR,i1,i2,i3,i4,i5⟩:=hev
        have kG:=hG.1.fit
        have cG:=hG.1.cells
        have iG:=hG.1.isCell
        obtain ⟨sels,hS1,hSl,hSat⟩:=hSs.at'
        have kSS:=hS1.fit
        have cSS:=hS1.cells
        have iSS:=hS1.isCell
        have kR:=hR.1.fit
        have cR:=hR.1.cells
        have iR:=hR.1.isCell
        obtain ⟨kk,nn,ii,rfl,rfl,rfl,kX,cX,iX⟩:∃ (kk:Int) (nn:ByteArray) (ii:Int),x1=(.sc (.int .i64 (kk)))/\x2=.sc (.string nn)/\x3=(.sc (.int .i64 (ii)))/\a4.fit=true/\a4.cells=[a4]/\a4.isCell=true:=by
          generalize e.cd=cd at hEx
          obtain ⟨k,nm,i,l⟩:=cd
          simp only [IsEx] at hEx
          obtain ⟨S,els,he,hS,_⟩:=hEx
          simp only [AVal.agg.injEq,List.cons.injEq,and_true] at he
          obtain ⟨rfl,rfl,rfl,rfl⟩:=he
          exact ⟨_,_,_,rfl,rfl,rfl,hS.fit,hS.cells,hS.isCell⟩
        have gx:∀ y z,((τ.alloc y).set τ.next z).get τ.next=some z:=fun y z=>by rw [AStore.get_set,if_pos ⟨rfl,by simp only [alloc_next]; omega⟩]
        have hM1:=hM.al (.cells 13 [.agg [(.sc (.int .i64 (0))),(.sc (.int .i64 (0))),(.sc (.slice none 0 0)),(.sc (.int .i64 (0))),.sc (.string ⟨#[]⟩),(.sc (.int .i64 (0))),(.sc (.slice none 0 0)),(.sc (.int .i64 (0))),(.sc (.bool (false))),(.sc (.slice none 0 0)),(.sc (.slice none 0 0)),(.sc (.int .i64 (0))),(.sc (.int .i64 (0)))]]) (.cells 13 [.agg [(.sc (.int .i64 (e.fr))),(.sc (.int .i64 (e.to))),G,(.sc (.int .i64 (kk))),.sc (.string nn),(.sc (.int .i64 (ii))),a4,(.sc (.int .i64 (e.ch))),(.sc (.bool (e.snd))),SS,SR,(.sc (.int .i64 (e.cost))),(.sc (.int .i64 (e.kind)))]])
        have gq:=gx (.cells 13 [.agg [(.sc (.int .i64 (0))),(.sc (.int .i64 (0))),(.sc (.slice none 0 0)),(.sc (.int .i64 (0))),.sc (.string ⟨#[]⟩),(.sc (.int .i64 (0))),(.sc (.slice none 0 0)),(.sc (.int .i64 (0))),(.sc (.bool (false))),(.sc (.slice none 0 0)),(.sc (.slice none 0 0)),(.sc (.int .i64 (0))),(.sc (.int .i64 (0)))]]) (.cells 13 [.agg [(.sc (.int .i64 (e.fr))),(.sc (.int .i64 (e.to))),G,(.sc (.int .i64 (kk))),.sc (.string nn),(.sc (.int .i64 (ii))),a4,(.sc (.int .i64 (e.ch))),(.sc (.bool (e.snd))),SS,SR,(.sc (.int .i64 (e.cost))),(.sc (.int .i64 (e.kind)))]])
        have hnx:=AStore.lt_of_get hM.gb
        by_cases hfe:e.fr=(a:Int)
        · have d1:decide (e.fr=(a:Int))=true:=dct hfe
          simp -implicitDefEqProofs only [go_sem,g0,kL,cL,iL,kE,cE,iE,hEn,d0]
          (repeat' first|(refine vy ?_ ?_<;>rintro ⟨hd,hq⟩<;>first|(exfalso; omega)|simp -implicitDefEqProofs only [go_sem,hd]|skip)|refine vz ?_|simp -implicitDefEqProofs only [go_sem,g0,kL,cL,iL,kE,cE,iE,hEn,d0,hie2,kX,cX,iX,kG,cG,iG,kSS,cSS,iSS,kR,cR,iR,gx,d1])
          refine (greatestRC hG ((k:Int)+1) lower).use ?_
          have hnn:(!(!lower))=lower:=Bool.not_not lower
          obtain ⟨b,hb⟩:∃ b:Nat,e.to=(b:Int):=⟨e.to.toNat,by omega⟩
          have hbl:b < p.locs.length:=by omega
          obtain ⟨ce,hce⟩:∃ c,c=τ.next:=⟨_,rfl⟩
          rw [<-hce] at hM1 gq ⊢
          generalize (τ.alloc (.cells 13 [.agg [(.sc (.int .i64 (0))),(.sc (.int .i64 (0))),(.sc (.slice none 0 0)),(.sc (.int .i64 (0))),.sc (.string ⟨#[]⟩),(.sc (.int .i64 (0))),(.sc (.slice none 0 0)),(.sc (.int .i64 (0))),(.sc (.bool (false))),(.sc (.slice none 0 0)),(.sc (.slice none 0 0)),(.sc (.int .i64 (0))),(.sc (.int .i64 (0)))]])).set ce (.cells 13 [.agg [(.sc (.int .i64 (e.fr))),(.sc (.int .i64 (e.to))),G,(.sc (.int .i64 (kk))),.sc (.string nn),(.sc (.int .i64 (ii))),a4,(.sc (.int .i64 (e.ch))),(.sc (.bool (e.snd))),SS,SR,(.sc (.int .i64 (e.cost))),(.sc (.int .i64 (e.kind)))]])=τ1 at hM1 gq ⊢
          simp -implicitDefEqProofs only [go_sem,mx_int,gq,kX,cX,iX,kG,cG,iG,kSS,cSS,iSS,kR,cR,iR]
          refine (resets16RC (w:=⟨w.w,[]⟩) hev0 hrl ((k:Int)+1)).use ?_
          have hgb:=hM1.gb
          have hrow:((List.range p.locs.length).map fun a=>((.sc (.bool (decide (a∈R)))):AVal))[b]?=some (.sc (.bool (decide (b∈R)))):=by rw [List.getElem?_map,List.getElem?_range hbl]; rfl
          have hrow2:(List.range p.locs.length)[b]?=some b:=List.getElem?_range hbl
          cases hrs:rstB e.rs ((k:Int)+1) with
          | true=>
            have hE2:=hF.edge ha he hfe (X:=[]) (.inl ⟨rfl,fun hr=>by rw [hrs] at hr; cases hr⟩)
            rw [hnn,List.append_nil] at hE2
            simp -implicitDefEqProofs only [go_sem,hrs]
            (try (repeat' first|(refine vy ?_ ?_<;>rintro ⟨hd,hq⟩<;>first|(exfalso; omega)|simp -implicitDefEqProofs only [go_sem,hd]|skip)|refine vz ?_|simp -implicitDefEqProofs only [go_sem,hrs,hwj]))
            refine ⟨(j+1,R,A,max m (grP e.gd ((k:Int)+1) lower)),by dsimp only; omega,⟨by dsimp only; omega,hM1,hE2,ha⟩,by (repeat' (first|exact trivial|refine ⟨rfl,?_⟩))⟩
          | false=>
            by_cases hin:b∈R
            · have d3:=dct hin
              have hE2 := hF.edge ha he hfe (X := []) (.inl ⟨rfl, fun _ b' hb' => by obtain rfl : b = b' := by omega
                                                                                     exact hin⟩)
              rw [hnn,List.append_nil] at hE2
              simp -implicitDefEqProofs only [go_sem,hrs,gq,hb,kX,cX,iX,kG,cG,iG,kSS,cSS,iSS,kR,cR,iR,hgb,ixSl_o hbl,hrow2,d3]
              (try (repeat' first|(refine vy ?_ ?_<;>rintro ⟨hd,hq⟩<;>first|(exfalso; omega)|simp -implicitDefEqProofs only [go_sem,hd]|skip)|refine vz ?_|simp -implicitDefEqProofs only [go_sem,hrs,gq,hb,kX,cX,iX,kG,cG,iG,kSS,cSS,iSS,kR,cR,iR,hgb,ixSl_o hbl,hrow2,d3,hwj]))
              refine ⟨(j+1,R,A,max m (grP e.gd ((k:Int)+1) lower)),by dsimp only; omega,⟨by dsimp only; omega,hM1,hE2,ha⟩,by (repeat' (first|exact trivial|refine ⟨rfl,?_⟩))⟩
            · have d3:=dcf hin
              have hE2:=hF.edge ha he hfe (X:=[b]) (.inr ⟨b,rfl,hb,hrs,hin⟩)
              rw [hnn] at hE2
              simp -implicitDefEqProofs only [go_sem,hrs,gq,hb,kX,cX,iX,kG,cG,iG,kSS,cSS,iSS,kR,cR,iR,hgb,ixSl_o hbl,hrow2,d3]
              (try (repeat' first|(refine vy ?_ ?_<;>rintro ⟨hd,hq⟩<;>first|(exfalso; omega)|simp -implicitDefEqProofs only [go_sem,hd]|skip)|refine vz ?_|simp -implicitDefEqProofs only [go_sem,hrs,gq,hb,kX,cX,iX,kG,cG,iG,kSS,cSS,iSS,kR,cR,iR,hgb,ixSl_o hbl,hrow2,d3]))
              have hst:((List.range p.locs.length).map fun a=>((.sc (.bool (decide (a∈R)))):AVal)).set b (.sc (.bool (true)))=(List.range p.locs.length).map fun a=>(.sc (.bool (decide (a∈R++[b])))):=by
                rw [row_set]
                refine List.map_congr_left fun c _=>?_
                by_cases hcb:c=b
                · rw [if_pos hcb,dct (by simp [hcb])]
                · rw [if_neg hcb]
                  by_cases hcR:c∈R
                  · rw [dct hcR,dct (by simp [hcR])]
                  · rw [dcf hcR,dcf (by simp [hcR,hcb])]
              have hl1:=AStore.lt_of_get hgb
              have q0:(τ1.set 1 (.cells 1 ((List.range p.locs.length).map fun a=>(.sc (.bool (decide (a∈R++[b]))))))).get 0=some (.cells 3 [.agg [(.sc (.int .i64 (p.ini))),SL,SE]]):=by rw [AStore.get_set,if_neg (by omega)]; exact hM1.g0
              have q1:(τ1.set 1 (.cells 1 ((List.range p.locs.length).map fun a=>(.sc (.bool (decide (a∈R++[b]))))))).get 1=some (.cells 1 ((List.range p.locs.length).map fun a=>(.sc (.bool (decide (a∈R++[b])))))):=by rw [AStore.get_set,if_pos ⟨rfl,hl1⟩]
              have q2:(τ1.set 1 (.cells 1 ((List.range p.locs.length).map fun a=>(.sc (.bool (decide (a∈R++[b]))))))).get ce=some (.cells 13 [.agg [(.sc (.int .i64 (e.fr))),(.sc (.int .i64 (e.to))),G,(.sc (.int .i64 (kk))),.sc (.string nn),(.sc (.int .i64 (ii))),a4,(.sc (.int .i64 (e.ch))),(.sc (.bool (e.snd))),SS,SR,(.sc (.int .i64 (e.cost))),(.sc (.int .i64 (e.kind)))]]):=by rw [AStore.get_set,if_neg (by omega)]; exact gq
              have q3:Own (τ1.set 1 (.cells 1 ((List.range p.locs.length).map fun a=>(.sc (.bool (decide (a∈R++[b]))))))) 1 A (R.map nA):=hM1.gA.mono fun c y hc hg=>by
                rw [AStore.get_set,if_neg (by rintro ⟨rfl,_⟩; exact hM1.nb _ hc)]
                exact hg
              rw [hst]
              generalize τ1.set 1 (.cells 1 ((List.range p.locs.length).map fun a=>(.sc (.bool (decide (a∈R++[b]))))))=τ2 at q0 q1 q2 q3 ⊢
              have hl2:=AStore.lt_of_get q1
              obtain ⟨σ',a1,a2,a3,a5⟩:=(q3.alloc (.cells 1 [(.sc (.int .i64 ((b:Int))))])).append (bytes:=8) (xs:=[(.sc (.int .i64 ((b:Int))))]) (by simp) (by simp; omega) (by decide) (by decide) rfl
              have hmp:R.map nA++[(.sc (.int .i64 ((b:Int))))]=(R++[b]).map nA:=by simp [nA]
              rw [hmp,List.length_map] at a1 a2
              have hce1:(ce=1/\1 < τ1.next)=False:=eq_false (by omega)
              have hce2:∀ y,(τ2.alloc y).get ce=(τ2.alloc y).get ce:=fun _=>rfl
              have hnl:(R++[b]).length=R.length+1:=by simp
              have hz:∀ y,(τ2.alloc y).next=τ2.next+1:=fun _=>rfl
              have hz1:τ2.next < τ2.next+1:=Nat.lt_succ_self _
              rw [hz,hnl] at a2
              simp -implicitDefEqProofs only [go_sem,hce1,hb]
              (try (repeat' first|(refine vy ?_ ?_<;>rintro ⟨hd,hq⟩<;>first|(exfalso; omega)|simp -implicitDefEqProofs only [go_sem,hd]|skip)|refine vz ?_|simp -implicitDefEqProofs only [go_sem,hb,a1,hz1,hwj]))
              refine ⟨(j+1,R++[b],.slice (τ2.next+1) 0 (R.length+1),max m (grP e.gd ((k:Int)+1) lower)),by dsimp only; omega,⟨by dsimp only; omega,⟨a5 0 _ (get_alloc_old q0) hM1.n0,a5 1 _ (get_alloc_old q1) hM1.nb,a2,fun l h=>?_,fun l h=>?_,hM1.hb⟩,hE2,get_app _ ha⟩,by (repeat' (first|exact trivial|refine ⟨rfl,?_⟩))⟩
              · injection h with h
                omega
              · injection h with h
                omega
        · have d1:decide (e.fr=(a:Int))=false:=dcf hfe
          simp -implicitDefEqProofs only [go_sem,g0,kL,cL,iL,kE,cE,iE,hEn,d0]
          (repeat' first|(refine vy ?_ ?_<;>rintro ⟨hd,hq⟩<;>first|(exfalso; omega)|simp -implicitDefEqProofs only [go_sem,hd]|skip)|refine vz ?_|simp -implicitDefEqProofs only [go_sem,g0,kL,cL,iL,kE,cE,iE,hEn,d0,hie2,kX,cX,iX,kG,cG,iG,kSS,cSS,iSS,kR,cR,iR,gx,d1,hwj])
          refine ⟨(j+1,R,A,m),by dsimp only; omega,⟨by dsimp only; omega,hM1,hF.skip ha he hfe,ha⟩,by (repeat' (first|exact trivial|refine ⟨rfl,?_⟩))⟩
      · obtain rfl:j=p.egs.length:=by omega
        have d0:decide ((p.egs.length:Int) < (p.egs.length:Int))=false:=dcf (by omega)
        simp -implicitDefEqProofs only [go_sem,g0,kL,cL,iL,kE,cE,iE,hEn,d0]
        (repeat' first|(refine vy ?_ ?_<;>rintro ⟨hd,hq⟩<;>first|(exfalso; omega)|simp -implicitDefEqProofs only [go_sem,hd]|skip)|refine vz ?_|simp -implicitDefEqProofs only [go_sem,g0,kL,cL,iL,kE,cE,iE,hEn,d0,hat])
        refine ⟨(at'+1,R,A,m),by dsimp only; omega,⟨hM,hF.next,by dsimp only; omega⟩,by (repeat' (first|exact trivial|refine ⟨rfl,?_⟩))⟩
  · obtain rfl:at'=R.length:=by omega
    have d0:decide ((R.length:Int) < (R.length:Int))=false:=dcf (by omega)
    simp -implicitDefEqProofs only [go_sem,hAn,d0]
    (repeat' first|(refine vy ?_ ?_<;>rintro ⟨hd,hq⟩<;>first|(exfalso; omega)|simp -implicitDefEqProofs only [go_sem,hd]|skip)|refine vz ?_|simp -implicitDefEqProofs only [go_sem,hAn,d0])
    refine ⟨_,rfl,?_⟩
    rw [<-hT,hF.fin hp hi hk rfl]
    rfl
end Abs
end
