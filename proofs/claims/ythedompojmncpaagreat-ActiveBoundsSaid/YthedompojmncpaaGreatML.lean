/-
  Functions of the program walked: each is shown to compute a plain function (ML).
-/
import Derived.Test.YthedompojmncpaaGreatMF
import Derived.Test.YthedompojmncpaaGreatNO
noncomputable section
namespace Abs
set_option linter.unusedSimpArgs false
set_option linter.unusedVariables false
set_option maxRecDepth 100000
set_option maxHeartbeats 16000000
open Go Go.Proofs
def smE:Ex:=.mk 0 ByteArray.empty 0 []
def smP:Pr:=⟨0,[⟨0,[⟨1,false,false,2⟩],0⟩,⟨0,[],0⟩],[⟨0,1,[⟨1,true,false,1⟩],smE,-1,false,[],[⟨1,0⟩],0,0⟩,⟨1,1,[⟨1,true,true,3⟩],smE,-1,false,[],[],0,0⟩]⟩
def smN:Nt:=⟨1,[],[],[],[smP]⟩
theorem sm_act0:actI smN ⟨[0],[]⟩ []=0:=by kernel_rfl
theorem sm_act1:actI smN ⟨[1],[]⟩ []=0:=by kernel_rfl
theorem sm_act2:actI smN ⟨[1],[]⟩ [⟨1,false,true,5⟩]=0:=by kernel_rfl
theorem sm_low:Lst smP 1 false fun i _=>if i=0 then 1 else 3:=by
 refine ⟨⟨?_,?_,?_⟩,⟨?_,?_,?_⟩⟩
 ·intro i _ k _; split<;>decide
 ·intro i _ k _; split<;>decide
 ·intro T hT i hi k hk
  have hi:i < 2:=hi
  obtain rfl:k=0:=by omega
  by_cases h0:i=0
  ·subst h0
   exact hT.ba 0 (by decide) 0 hk 1 (.inr ⟨_,List.mem_cons_self,rfl,_,List.mem_cons_self,rfl,rfl,rfl⟩)
  ·obtain rfl:i=1:=by omega
   exact hT.ba 1 (by decide) 0 hk 3 (.inr ⟨_,List.mem_cons_of_mem _ List.mem_cons_self,rfl,_,List.mem_cons_self,rfl,rfl,rfl⟩)
 ·intro i _ k _; split<;>decide
 ·intro i hi k hk c hB
  have hi:i < 2:=hi
  obtain rfl:k=0:=by omega
  rcases hB with ⟨h,_⟩|⟨e,he,hf,x,hx,hl,hk,hc⟩
  ·cases h
  ·simp only [smP,List.mem_cons,List.not_mem_nil,or_false] at he
   rcases he with rfl|rfl<;>(simp only [List.mem_singleton] at hx; subst hx; subst hc; dsimp only at hf ⊢; split<;>omega)
 ·intro e he i j hf ht hi hj k hk hr
  simp only [smP,List.mem_cons,List.not_mem_nil,or_false] at he
  obtain rfl:k=0:=by omega
  rcases he with rfl|rfl
  ·exact absurd hr (by decide)
  ·dsimp only at hf ht ⊢; rw [if_neg (by omega),if_neg (by omega)]; exact Int.le_refl _
theorem sm_up:Lst smP 1 true fun i _=>if i=0 then 2 else -1:=by
 refine ⟨⟨?_,?_,?_⟩,⟨?_,?_,?_⟩⟩
 ·intro i _ k _; split<;>decide
 ·intro i _ k _; split<;>decide
 ·intro T hT i hi k hk
  have hi:i < 2:=hi
  obtain rfl:k=0:=by omega
  by_cases h0:i=0
  ·subst h0
   exact hT.ba 0 (by decide) 0 hk 2 (.inl ⟨rfl,_,rfl,_,List.mem_cons_self,rfl,rfl⟩)
  ·rw [if_neg h0]
   exact hT.lo _ hi _ hk
 ·intro i _ k _; split<;>decide
 ·intro i hi k hk c hB
  have hi:i < 2:=hi
  obtain rfl:k=0:=by omega
  rcases hB with ⟨_,y,hy,x,hx,hl,hc⟩|⟨e,he,hf,x,hx,hl,hk,hc⟩
  ·by_cases h0:i=0
   ·subst h0
    cases hy
    simp only [List.mem_singleton] at hx
    subst hx; subst hc
    exact Int.le_refl _
   ·obtain rfl:i=1:=by omega
    cases hy
    cases hx
  ·simp only [smP,List.mem_cons,List.not_mem_nil,or_false] at he
   rcases he with rfl|rfl<;>(simp only [List.mem_singleton] at hx; subst hx; cases hl)
 ·intro e he i j hf ht hi hj k hk hr
  simp only [smP,List.mem_cons,List.not_mem_nil,or_false] at he
  obtain rfl:k=0:=by omega
  rcases he with rfl|rfl
  ·exact absurd hr (by decide)
  ·dsimp only at hf ht ⊢; rw [if_neg (by omega),if_neg (by omega)]; exact Int.le_refl _
instance (x:Int):Decidable (in64 x):=by unfold in64; infer_instance
theorem isL_nil {α:Type} {sz:Nat} {R:α->AVal->Prop}:IsL sz R [] (.sc (.slice none 0 0)):=⟨[],.inl ⟨rfl,_,_,rfl⟩,rfl,Nat.zero_le _,fun j x hx=>by simp at hx⟩
theorem isL_one {α:Type} {sz:Nat} {R:α->AVal->Prop} {t:Bool} {x:α} {e:AVal} (h:R x e):IsL sz R [x] (.data sz t [e]):=⟨[e],.inr ⟨t,rfl⟩,rfl,by simp,fun j y hy=>match j,hy with
 | 0,hy=>by cases hy; exact ⟨e,rfl,h⟩⟩
theorem isL_two {α:Type} {sz:Nat} {R:α->AVal->Prop} {t:Bool} {x y:α} {e f:AVal} (h:R x e) (g:R y f):IsL sz R [x,y] (.data sz t [e,f]):=⟨[e,f],.inr ⟨t,rfl⟩,rfl,by simp,fun j z hz=>match j,hz with
 | 0,hz=>by cases hz; exact ⟨e,rfl,h⟩
 | 1,hz=>by cases hz; exact ⟨f,rfl,g⟩⟩
theorem isCns_one {t:Bool} {x:Cn} (h:cnOk x):IsCns [x] (.data 4 t [cnA x]):=⟨.inr ⟨t,rfl⟩,by simp,fun y hy=>by simp only [List.mem_singleton] at hy; rw [hy]; exact h⟩
theorem isCns_nil:IsCns [] (.sc (.slice none 0 0)):=⟨.inl ⟨rfl,_,_,rfl⟩,by decide,fun y hy=>by cases hy⟩
theorem sm_ex:IsEx smE (.agg [(.sc (.int .i64 (0))),.sc (.string ⟨#[]⟩),(.sc (.int .i64 (0))),(.sc (.slice none 0 0))]):=⟨_,[],rfl,.inl ⟨rfl,_,_,rfl⟩,(by simp only [IsExs]),by decide,by decide,by decide,by decide⟩
theorem sm_net {v:AVal} (h:v=.agg [(.sc (.int .i64 (1))),(.sc (.slice none 0 0)),(.sc (.slice none 0 0)),(.sc (.slice none 0 0)),.data 3 false [.agg [(.sc (.int .i64 (0))),.data 3 false [.agg [(.sc (.int .i64 (0))),.data 4 false [cnA ⟨1,false,false,2⟩],(.sc (.int .i64 (0)))],.agg [(.sc (.int .i64 (0))),(.sc (.slice none 0 0)),(.sc (.int .i64 (0)))]],
  .data 13 false [.agg [(.sc (.int .i64 (0))),(.sc (.int .i64 (1))),.data 4 false [cnA ⟨1,true,false,1⟩],(.sc (.int .i64 (0))),.sc (.string ⟨#[]⟩),(.sc (.int .i64 (0))),(.sc (.slice none 0 0)),(.sc (.int .i64 (-1))),(.sc (.bool (false))),(.sc (.slice none 0 0)),.data 2 false [rtA ⟨1,0⟩],(.sc (.int .i64 (0))),(.sc (.int .i64 (0)))],
   .agg [(.sc (.int .i64 (1))),(.sc (.int .i64 (1))),.data 4 false [cnA ⟨1,true,true,3⟩],(.sc (.int .i64 (0))),.sc (.string ⟨#[]⟩),(.sc (.int .i64 (0))),(.sc (.slice none 0 0)),(.sc (.int .i64 (-1))),(.sc (.bool (false))),(.sc (.slice none 0 0)),(.sc (.slice none 0 0)),(.sc (.int .i64 (0))),(.sc (.int .i64 (0)))]]]]]):IsNt smN v:=by
 subst h
 refine ⟨_,_,_,_,[],rfl,by decide,⟨.inl ⟨rfl,_,_,rfl⟩,by decide,fun y hy=>by cases hy⟩,⟨.inl ⟨rfl,_,_,rfl⟩,by decide,fun y hy=>by cases hy⟩,.inl ⟨rfl,_,_,rfl⟩,⟨rfl,fun j f hf=>by simp [smN] at hf⟩,by decide,isL_one ⟨_,_,rfl,isL_two ?_ ?_,isL_two ?_ ?_,by decide⟩⟩
 ·exact ⟨_,rfl,isCns_one ⟨by decide,by decide⟩,by decide,by decide⟩
 ·exact ⟨_,rfl,isCns_nil,by decide,by decide⟩
 ·exact ⟨_,_,_,_,_,_,_,rfl,isCns_one ⟨by decide,by decide⟩,sm_ex,isL_nil,⟨.inr ⟨_,rfl⟩,by decide,fun y hy=>by simp only [smP,List.mem_singleton] at hy; rw [hy]; exact ⟨by decide,by decide⟩⟩,by decide,by decide,by decide,by decide,by decide⟩
 ·exact ⟨_,_,_,_,_,_,_,rfl,isCns_one ⟨by decide,by decide⟩,sm_ex,isL_nil,⟨.inl ⟨rfl,_,_,rfl⟩,by decide,fun y hy=>by cases hy⟩,by decide,by decide,by decide,by decide,by decide⟩
def smV:AVal:=.agg [(.sc (.int .i64 (1))),(.sc (.slice none 0 0)),(.sc (.slice none 0 0)),(.sc (.slice none 0 0)),.data 3 false [.agg [(.sc (.int .i64 (0))),.data 3 false [.agg [(.sc (.int .i64 (0))),.data 4 false [cnA ⟨1,false,false,2⟩],(.sc (.int .i64 (0)))],.agg [(.sc (.int .i64 (0))),(.sc (.slice none 0 0)),(.sc (.int .i64 (0)))]],
  .data 13 false [.agg [(.sc (.int .i64 (0))),(.sc (.int .i64 (1))),.data 4 false [cnA ⟨1,true,false,1⟩],(.sc (.int .i64 (0))),.sc (.string ⟨#[]⟩),(.sc (.int .i64 (0))),(.sc (.slice none 0 0)),(.sc (.int .i64 (-1))),(.sc (.bool (false))),(.sc (.slice none 0 0)),.data 2 false [rtA ⟨1,0⟩],(.sc (.int .i64 (0))),(.sc (.int .i64 (0)))],
   .agg [(.sc (.int .i64 (1))),(.sc (.int .i64 (1))),.data 4 false [cnA ⟨1,true,true,3⟩],(.sc (.int .i64 (0))),.sc (.string ⟨#[]⟩),(.sc (.int .i64 (0))),(.sc (.slice none 0 0)),(.sc (.int .i64 (-1))),(.sc (.bool (false))),(.sc (.slice none 0 0)),(.sc (.slice none 0 0)),(.sc (.int .i64 (0))),(.sc (.int .i64 (0)))]]]]]
theorem smNetC {w:WD}:Gives (EE w) 14 [] fun v=>v=smV:=by
 refine Gives.of (fun _=>.sc _) .nil 12 ?_
 refine of_14 rfl rfl rfl (by kernel_rfl) ?_
 simp -implicitDefEqProofs only [go_sem]
 exact ⟨_,_,rfl,rfl,rfl⟩
theorem sm_nts:NtS smN:=⟨by decide,by decide,by decide,by decide,by decide,by decide⟩
theorem sm_bnd {i:Nat} {l:Int} {k:Nat} (up:Bool) (hl:l=(i:Int)) (hi:i < 2) (hk:k < 1):bnd smN ⟨[l],[]⟩ [] up k=if up then (if i=0 then 2 else -1) else (if i=0 then 1 else 3):=by
 subst hl
 show max (-1) (lst smP 1 up i k)=_
 cases up
 ·rw [<-sm_low.eq hi hk]
  show max (-1) _=_
  split<;>rfl
 ·rw [<-sm_up.eq hi hk]
  show max (-1) _=_
  split<;>rfl
theorem sm_st {i:Int} {t:Bool} (h:in64 i):IsStt ⟨[i],[]⟩ (.agg [.data 1 t [iA i],(.sc (.slice none 0 0))]):=⟨_,_,rfl,⟨.inr ⟨t,rfl⟩,by simp,fun y hy=>by simp only [List.mem_singleton] at hy; rw [hy]; exact h⟩,⟨.inl ⟨rfl,_,_,rfl⟩,by simp,fun y hy=>by cases hy⟩⟩
theorem sm_row {i:Nat} {l:Int} (up:Bool) (ha:actI smN ⟨[l],[]⟩ []=0) (hl:l=(i:Int)) (hi:i < 2) {D:AVal} (h:IsD 1 D ((blL smN ⟨[l],[]⟩ [] up).map iA)):∃ t,D=.data 1 t [iA (if up then (if i=0 then 2 else -1) else (if i=0 then 1 else 3))]:=by
 rw [<-sm_bnd (k:=0) up hl hi (by decide)]
 unfold blL at h
 rw [if_pos ha] at h
 rcases h with ⟨h,_⟩|⟨t,rfl⟩
 ·cases h
 ·exact ⟨t,rfl⟩
theorem sm_gst {D:AVal} (h:IsD 1 D ((glL smN ⟨[1],[]⟩ [⟨1,false,true,5⟩]).map iA)):∃ t,D=.data 1 t [iA 5]:=by
 have h0:=sm_bnd (l:=1) (i:=1) (k:=0) false rfl (by decide) (by decide)
 have h1:=sm_bnd (l:=1) (i:=1) (k:=0) true rfl (by decide) (by decide)
 have h2:gst smN ⟨[1],[]⟩ [⟨1,false,true,5⟩] 0=5:=by
  show max (max (bnd smN ⟨[1],[]⟩ [] false 0) 5) (max (bnd smN ⟨[1],[]⟩ [] true 0) 5)=5
  rw [h0,h1]
  rfl
 unfold glL at h
 rw [if_pos sm_act2] at h
 rcases h with ⟨h,_⟩|⟨t,rfl⟩
 ·cases h
 ·refine ⟨t,?_⟩
  show AVal.data 1 t [iA (gst smN ⟨[1],[]⟩ [⟨1,false,true,5⟩] 0)]=_
  rw [h2]
theorem sm_same {w:WD} {x:Int} {t u:Bool}:GivesV (EE w) 8 [.data 1 t [iA x],.data 1 u [iA x]] (.sc (.bool (true))):=by
 have:=sameC (w:=w) (a:=[x]) (b:=[x]) (.inr ⟨t,rfl⟩) (.inr ⟨u,rfl⟩) (by simp) (by simp)
 rwa [dct rfl] at this
theorem awakeC {w:WD}:Gives (EE w) 5 [] fun v=>v=.sc (.bool true):=by
 refine Gives.of (fun _=>.sc _) .nil 1 ?_
 refine of_5 rfl rfl rfl (by kernel_rfl) ?_
 simp -implicitDefEqProofs only [go_sem]
 refine smNetC.use fun N hN=>?_
 subst hN
 simp -implicitDefEqProofs only [go_sem,smV]
 have hb1:=boundsG (w:=⟨w.w,[]⟩) (sm_net rfl) sm_nts (sm_st (i:=0) (t:=false) (by decide)) isCns_nil
 refine ACalls.fz (σ':=AStore.del _ 1) rfl (hb1.use fun r hr=>?_)
 obtain ⟨D6,D7,rfl,d6,d7⟩:=hr.un
 obtain ⟨t6,rfl⟩:=sm_row (i:=0) false sm_act0 rfl (by decide) d6
 obtain ⟨t7,rfl⟩:=sm_row (i:=0) true sm_act0 rfl (by decide) d7
 rw [sm_act0]
 simp -implicitDefEqProofs only [go_sem]
 have hb2:=boundsG (w:=⟨w.w,[]⟩) (sm_net rfl) sm_nts (sm_st (i:=1) (t:=false) (by decide)) isCns_nil
 refine ACalls.fz (σ':=AStore.del _ 2) rfl (hb2.use fun r hr=>?_)
 obtain ⟨D6,D7,rfl,d6,d7⟩:=hr.un
 obtain ⟨t8,rfl⟩:=sm_row (i:=1) false sm_act1 rfl (by decide) d6
 obtain ⟨t9,rfl⟩:=sm_row (i:=1) true sm_act1 rfl (by decide) d7
 rw [sm_act1]
 simp -implicitDefEqProofs only [go_sem]
 have hb3:=greatestG (w:=⟨w.w,[]⟩) (sm_net rfl) sm_nts (sm_st (i:=1) (t:=false) (by decide)) (isCns_one (t:=false) (x:=⟨1,false,true,5⟩) ⟨by decide,by decide⟩)
 refine ACalls.fz (σ':=AStore.del (AStore.del _ 4) 3) rfl (hb3.use fun r hr=>?_)
 obtain ⟨D,rfl,d⟩:=hr.un
 obtain ⟨t10,rfl⟩:=sm_gst d
 rw [sm_act2]
 simp -implicitDefEqProofs only [go_sem]
 (repeat' first|(refine vy ?_ ?_<;>rintro ⟨hd,hq⟩<;>first|(exfalso; omega)|simp -implicitDefEqProofs only [go_sem,hd]|skip)|refine vz ?_|simp -implicitDefEqProofs only [go_sem])
 refine ACalls.fz (σ':=AStore.del _ 5) rfl (sm_same.use ?_)
 simp -implicitDefEqProofs only [go_sem]
 refine ACalls.fz (σ':=AStore.del _ 6) rfl (sm_same.use ?_)
 simp -implicitDefEqProofs only [go_sem]
 refine ACalls.fz (σ':=AStore.del _ 7) rfl (sm_same.use ?_)
 simp -implicitDefEqProofs only [go_sem]
 refine ACalls.fz (σ':=AStore.del _ 8) rfl (sm_same.use ?_)
 simp -implicitDefEqProofs only [go_sem]
 refine ACalls.fz (σ':=AStore.del _ 9) rfl (sm_same.use ?_)
 simp -implicitDefEqProofs only [go_sem]
 exact ⟨_,_,rfl,rfl,rfl⟩
end Abs
end
