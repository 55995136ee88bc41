/-
  Functions of the program walked: each is shown to compute a plain function (T8).
-/
import Derived.Test.YtdbkkindfakbfaaGreatT1
set_option linter.unusedSimpArgs false
set_option linter.unusedVariables false
set_option maxRecDepth 100000
set_option maxHeartbeats 16000000
noncomputable section
namespace Abs
open Go Go.Proofs
def IsA (n:Nat) (e:AVal):Prop:=∃ cs,e=.agg cs/\cs.length=n
theorem IsA.facts {n:Nat} {e:AVal} (h:IsA n e):(AVal.cells e).length=n/\List.take n (AVal.cells e)=AVal.cells e/\AVal.agg (AVal.cells e)=e:=by
 obtain ⟨cs,rfl,hl⟩:=h
 exact ⟨hl,List.take_of_length_le (by show cs.length<=n; omega),rfl⟩
theorem IsEx.isA {x:Ex} {e:AVal} (h:IsEx x e):IsA 4 e:=by
 cases x with
 | mk k nm i xs=>
  simp only [IsEx] at h
  obtain ⟨S,els,rfl,_⟩:=h
  exact ⟨_,rfl,rfl⟩
theorem IsSt.isA {x:St} {e:AVal} (h:IsSt x e):IsA 8 e:=by
 cases x with
 | mk k nm v b e=>
  simp only [IsSt] at h
  obtain ⟨SA,SB,SE,ea,eb,ee,rfl,_⟩:=h
  exact ⟨_,rfl,rfl⟩
theorem IsExs.all {xs:List Ex} {els:List AVal} (h:IsExs xs els) {e:AVal} {j:Nat} (he:els[j]?=some e):∃ x,xs[j]?=some x/\IsEx x e:=by
 have hj:j < xs.length:=by
  rw [<-h.len]
  rcases Nat.lt_or_ge j els.length with h'|h'
  ·exact h'
  ·rw [List.getElem?_eq_none h'] at he; cases he
 obtain ⟨x,hx⟩:∃ x,xs[j]?=some x:=⟨xs[j],by simp [hj]⟩
 obtain ⟨e',h1,h2⟩:=h.at hx
 rw [he] at h1; cases h1
 exact ⟨x,hx,h2⟩
theorem IsSts.all {xs:List St} {els:List AVal} (h:IsSts xs els) {e:AVal} {j:Nat} (he:els[j]?=some e):∃ x,xs[j]?=some x/\IsSt x e:=by
 have hj:j < xs.length:=by
  rw [<-h.len]
  rcases Nat.lt_or_ge j els.length with h'|h'
  ·exact h'
  ·rw [List.getElem?_eq_none h'] at he; cases he
 obtain ⟨x,hx⟩:∃ x,xs[j]?=some x:=⟨xs[j],by simp [hj]⟩
 obtain ⟨e',h1,h2⟩:=h.at hx
 rw [he] at h1; cases h1
 exact ⟨x,hx,h2⟩
theorem IsExs.isA {xs:List Ex} {els:List AVal} (h:IsExs xs els):∀ e∈els,IsA 4 e:=by
 intro e he
 obtain ⟨j,hj,rfl⟩:=List.mem_iff_getElem.1 he
 obtain ⟨x,_,h2⟩:=h.all (List.getElem?_eq_getElem hj)
 exact h2.isA
theorem IsSts.isA {xs:List St} {els:List AVal} (h:IsSts xs els):∀ e∈els,IsA 8 e:=by
 intro e he
 obtain ⟨j,hj,rfl⟩:=List.mem_iff_getElem.1 he
 obtain ⟨x,_,h2⟩:=h.all (List.getElem?_eq_getElem hj)
 exact h2.isA
theorem indexFEC {w:WD} {L:AVal} {els:List AVal} (h:IsD 4 L els) (hl:els.length<=1152921504606846976) (ha:∀ e∈els,IsA 4 e) (hw0:WFs 0 els) {g:FuncId} (hfn:∀ w:WD,(EE w).fns g=true) (p:Nat->Bool)
  (hF:∀ (w:WD) (j:Nat) e,els[j]?=some e->GivesV (EE w) g [e] (.sc (.bool (p j)))):
  Gives (EE w) 120 [L,.func (.func g) [] []] fun v=>∃ k:Int,v=(.sc (.int .i64 (k)))/\(0<=k ↔ ∃ j,j < els.length/\p j=true):=by
 refine Gives.of (fun _=>.sc _) (.cons _ _ (h.wf hw0) (.cons _ _ (.func _ _ _ .nil .nil) .nil)) 1 ?_
 refine of_120 rfl rfl rfl (by kernel_rfl) ?_
 simp -implicitDefEqProofs only [go_sem,h.len]
 refine vlp (ι:=Nat) (fun i=>[(0,L),(1,.func (.func g) [] []),(7,(.sc (.int .i64 (els.length)))),(8,(.sc (.int .i64 (i))))]) (fun i σ=>i<=els.length/\∀ (j:Nat),j < i->p j=false) (fun i=>els.length - i) (fun _=>rfl) 0 ?_ ?_ ?_
 ·exact vsu
 ·exact ⟨Nat.zero_le _,fun j hj=>by omega⟩
 rintro i σ ⟨hi,hok⟩
 simp -implicitDefEqProofs only [go_sem]
 (refine vif ?_ ?_<;>intro h2)
 ·obtain ⟨e,he⟩:∃ e,els[i]?=some e:=⟨els[i]'(by omega),by simp⟩
  obtain ⟨c1,c2,c3⟩:=(ha e (List.mem_of_getElem? he)).facts
  have hw:=wrapS (i:=i) (by omega)
  (repeat' first|refine vw ?_ ?_<;>intro hq|refine vz ?_|simp -implicitDefEqProofs only [go_sem,h.idx he,c1,c2,c3,hfn])
  refine (hF _ i e he).use ?_
  cases h3:p i with
  | true=>
   (repeat' first|refine vw ?_ ?_<;>intro hq|refine vz ?_|simp -implicitDefEqProofs only [go_sem])
   exact ⟨_,_,rfl,rfl,_,rfl,fun _=>⟨i,vom,h3⟩,fun _=>by omega⟩
  | false=>
   (repeat' first|refine vw ?_ ?_<;>intro hq|refine vz ?_|simp -implicitDefEqProofs only [go_sem,hw])
   refine ⟨i+1,vom,⟨vom,?_⟩,?_⟩
   ·intro j hj
    rcases Nat.lt_or_ge j i with h'|h'
    ·exact hok j h'
    ·obtain rfl:j=i:=by omega
     exact h3
   ·exact vsu
 ·obtain rfl:i=els.length:=by omega
  (repeat' first|refine vw ?_ ?_<;>intro hq|refine vz ?_|simp -implicitDefEqProofs only [go_sem])
  refine ⟨_,_,rfl,rfl,_,rfl,fun hc=>by omega,?_⟩
  rintro ⟨j,h1,h2⟩
  rw [hok j h1] at h2; cases h2
theorem containsFEC {w:WD} {L:AVal} {els:List AVal} (h:IsD 4 L els) (hl:els.length<=1152921504606846976) (ha:∀ e∈els,IsA 4 e) (hw0:WFs 0 els) {g:FuncId} (hfn:∀ w:WD,(EE w).fns g=true) (p:Nat->Bool)
  (hF:∀ (w:WD) (j:Nat) e,els[j]?=some e->GivesV (EE w) g [e] (.sc (.bool (p j)))):
  GivesV (EE w) 95 [L,.func (.func g) [] []] (.sc (.bool (decide (∃ j,j < els.length/\p j=true)))):=by
 refine GivesV.of (fun _=>.sc _) (.cons _ _ (h.wf hw0) (.cons _ _ (.func _ _ _ .nil .nil) .nil)) 1 ?_
 refine of_95 rfl rfl rfl (by kernel_rfl) ?_
 simp -implicitDefEqProofs only [go_sem]
 refine (indexFEC h hl ha hw0 hfn p hF).use ?_
 rintro _ ⟨k,rfl,hk⟩
 (repeat' first|refine vw ?_ ?_<;>intro hq|refine vz ?_|simp -implicitDefEqProofs only [go_sem])
 exact ret_bool (decide_eq_decide.mpr hk)
theorem indexFSC {w:WD} {L:AVal} {els:List AVal} (h:IsD 8 L els) (hl:els.length<=1152921504606846976) (ha:∀ e∈els,IsA 8 e) (hw0:WFs 0 els) {g:FuncId} (hfn:∀ w:WD,(EE w).fns g=true) (p:Nat->Bool)
  (hF:∀ (w:WD) (j:Nat) e,els[j]?=some e->GivesV (EE w) g [e] (.sc (.bool (p j)))):
  Gives (EE w) 122 [L,.func (.func g) [] []] fun v=>∃ k:Int,v=(.sc (.int .i64 (k)))/\(0<=k ↔ ∃ j,j < els.length/\p j=true):=by
 refine Gives.of (fun _=>.sc _) (.cons _ _ (h.wf hw0) (.cons _ _ (.func _ _ _ .nil .nil) .nil)) 1 ?_
 refine of_122 rfl rfl rfl (by kernel_rfl) ?_
 simp -implicitDefEqProofs only [go_sem,h.len]
 refine vlp (ι:=Nat) (fun i=>[(0,L),(1,.func (.func g) [] []),(7,(.sc (.int .i64 (els.length)))),(8,(.sc (.int .i64 (i))))]) (fun i σ=>i<=els.length/\∀ (j:Nat),j < i->p j=false) (fun i=>els.length - i) (fun _=>rfl) 0 ?_ ?_ ?_
 ·exact vsu
 ·exact ⟨Nat.zero_le _,fun j hj=>by omega⟩
 rintro i σ ⟨hi,hok⟩
 simp -implicitDefEqProofs only [go_sem]
 (refine vif ?_ ?_<;>intro h2)
 ·obtain ⟨e,he⟩:∃ e,els[i]?=some e:=⟨els[i]'(by omega),by simp⟩
  obtain ⟨c1,c2,c3⟩:=(ha e (List.mem_of_getElem? he)).facts
  have hw:=wrapS (i:=i) (by omega)
  (repeat' first|refine vw ?_ ?_<;>intro hq|refine vz ?_|simp -implicitDefEqProofs only [go_sem,h.idx he,c1,c2,c3,hfn])
  refine (hF _ i e he).use ?_
  cases h3:p i with
  | true=>
   (repeat' first|refine vw ?_ ?_<;>intro hq|refine vz ?_|simp -implicitDefEqProofs only [go_sem])
   exact ⟨_,_,rfl,rfl,_,rfl,fun _=>⟨i,vom,h3⟩,fun _=>by omega⟩
  | false=>
   (repeat' first|refine vw ?_ ?_<;>intro hq|refine vz ?_|simp -implicitDefEqProofs only [go_sem,hw])
   refine ⟨i+1,vom,⟨vom,?_⟩,?_⟩
   ·intro j hj
    rcases Nat.lt_or_ge j i with h'|h'
    ·exact hok j h'
    ·obtain rfl:j=i:=by omega
     exact h3
   ·exact vsu
 ·obtain rfl:i=els.length:=by omega
  (repeat' first|refine vw ?_ ?_<;>intro hq|refine vz ?_|simp -implicitDefEqProofs only [go_sem])
  refine ⟨_,_,rfl,rfl,_,rfl,fun hc=>by omega,?_⟩
  rintro ⟨j,h1,h2⟩
  rw [hok j h1] at h2; cases h2
theorem containsFSC {w:WD} {L:AVal} {els:List AVal} (h:IsD 8 L els) (hl:els.length<=1152921504606846976) (ha:∀ e∈els,IsA 8 e) (hw0:WFs 0 els) {g:FuncId} (hfn:∀ w:WD,(EE w).fns g=true) (p:Nat->Bool)
  (hF:∀ (w:WD) (j:Nat) e,els[j]?=some e->GivesV (EE w) g [e] (.sc (.bool (p j)))):
  GivesV (EE w) 100 [L,.func (.func g) [] []] (.sc (.bool (decide (∃ j,j < els.length/\p j=true)))):=by
 refine GivesV.of (fun _=>.sc _) (.cons _ _ (h.wf hw0) (.cons _ _ (.func _ _ _ .nil .nil) .nil)) 1 ?_
 refine of_100 rfl rfl rfl (by kernel_rfl) ?_
 simp -implicitDefEqProofs only [go_sem]
 refine (indexFSC h hl ha hw0 hfn p hF).use ?_
 rintro _ ⟨k,rfl,hk⟩
 (repeat' first|refine vw ?_ ?_<;>intro hq|refine vz ?_|simp -implicitDefEqProofs only [go_sem])
 exact ret_bool (decide_eq_decide.mpr hk)
theorem indexFNC {w:WD} {L:AVal} {l:List ByteArray} (h:IsD 1 L (l.map sA)) (hl:l.length<=1152921504606846976) {g:FuncId} (hfn:∀ w:WD,(EE w).fns g=true) (p:ByteArray->Bool)
  (hF:∀ (w:WD) (s:ByteArray),GivesV (EE w) g [sA s] (.sc (.bool (p s)))):
  Gives (EE w) 121 [L,.func (.func g) [] []] fun v=>∃ k:Int,v=(.sc (.int .i64 (k)))/\(0<=k ↔ l.any p=true):=by
 refine Gives.of (fun _=>.sc _) (.cons _ _ (h.wf (wf_sA l)) (.cons _ _ (.func _ _ _ .nil .nil) .nil)) 1 ?_
 refine of_121 rfl rfl rfl (by kernel_rfl) ?_
 simp -implicitDefEqProofs only [go_sem,h.len,List.length_map]
 refine vlp (ι:=Nat) (fun i=>[(0,L),(1,.func (.func g) [] []),(7,(.sc (.int .i64 (l.length)))),(8,(.sc (.int .i64 (i))))]) (fun i σ=>i<=l.length/\∀ (j:Nat) x,j < i->l[j]?=some x->p x=false) (fun i=>l.length - i) (fun _=>rfl) 0 ?_ ?_ ?_
 ·exact vsu
 ·exact ⟨Nat.zero_le _,fun j x hj=>by omega⟩
 rintro i σ ⟨hi,hok⟩
 simp -implicitDefEqProofs only [go_sem]
 (refine vif ?_ ?_<;>intro h2)
 ·obtain ⟨x,hx⟩:∃ x,l[i]?=some x:=⟨l[i]'(by omega),by simp⟩
  have hx':(l.map sA)[i]?=some (sA x):=by simp [hx]
  have hw:=wrapS (i:=i) (by omega)
  have hc:(sA x).cells=[sA x]:=rfl
  (repeat' first|refine vw ?_ ?_<;>intro hq|refine vz ?_|simp -implicitDefEqProofs only [go_sem,h.idx hx',hc,hfn])
  refine (hF _ x).use ?_
  cases h3:p x with
  | true=>
   (repeat' first|refine vw ?_ ?_<;>intro hq|refine vz ?_|simp -implicitDefEqProofs only [go_sem])
   exact ⟨_,_,rfl,rfl,_,rfl,fun _=>List.any_eq_true.2 ⟨x,mem_of_at hx,h3⟩,fun _=>by omega⟩
  | false=>
   (repeat' first|refine vw ?_ ?_<;>intro hq|refine vz ?_|simp -implicitDefEqProofs only [go_sem,hw])
   refine ⟨i+1,vom,⟨vom,?_⟩,?_⟩
   ·intro j q hj hq
    rcases Nat.lt_or_ge j i with h'|h'
    ·exact hok j q h' hq
    ·obtain rfl:j=i:=by omega
     rw [hx] at hq; cases hq; exact h3
   ·exact vsu
 ·obtain rfl:i=l.length:=by omega
  (repeat' first|refine vw ?_ ?_<;>intro hq|refine vz ?_|simp -implicitDefEqProofs only [go_sem])
  refine ⟨_,_,rfl,rfl,_,rfl,fun hc=>by omega,?_⟩
  intro h1
  obtain ⟨x,hx,hp⟩:=List.any_eq_true.1 h1
  obtain ⟨j,hj,rfl⟩:=List.mem_iff_getElem.1 hx
  rw [hok j _ hj (List.getElem?_eq_getElem hj)] at hp; cases hp
theorem containsFNC {w:WD} {L:AVal} {l:List ByteArray} (h:IsD 1 L (l.map sA)) (hl:l.length<=1152921504606846976) {g:FuncId} (hfn:∀ w:WD,(EE w).fns g=true) (p:ByteArray->Bool)
  (hF:∀ (w:WD) (s:ByteArray),GivesV (EE w) g [sA s] (.sc (.bool (p s)))):
  GivesV (EE w) 98 [L,.func (.func g) [] []] (.sc (.bool (l.any p))):=by
 refine GivesV.of (fun _=>.sc _) (.cons _ _ (h.wf (wf_sA l)) (.cons _ _ (.func _ _ _ .nil .nil) .nil)) 1 ?_
 refine of_98 rfl rfl rfl (by kernel_rfl) ?_
 simp -implicitDefEqProofs only [go_sem]
 refine (indexFNC h hl hfn p hF).use ?_
 rintro _ ⟨k,rfl,hk⟩
 (repeat' first|refine vw ?_ ?_<;>intro hq|refine vz ?_|simp -implicitDefEqProofs only [go_sem])
 exact ret_bool (by rw [Bool.eq_iff_iff,decide_eq_true_eq]; exact hk)
theorem nm_empty {s:ByteArray}:decide (s=⟨#[]⟩)=decide (s.size=0):=by
 apply decide_eq_decide.mpr
 constructor
 ·rintro rfl; rfl
 ·intro h
  apply ByteArray.ext
  apply Array.eq_empty_of_size_eq_zero
  exact h
theorem ar_op {k:Int} {n:Nat} (h:rankI k≠0):arityB k n=decide (n=2):=by
 have:5<=k/\k<=17:=by
  unfold rankI at h
  split at h
  ·omega
  ·split at h
   ·omega
   ·split at h
    ·omega
    ·split at h
     ·omega
     ·split at h
      ·omega
      ·exact absurd rfl h
 unfold arityB
 rw [if_neg (by omega),if_neg (by omega),if_pos this]
theorem ar_no {k:Int} {n:Nat} (h:rankI k=0) (h1:k≠1) (h2:k≠2) (h3:k≠3) (h4:k≠4) (h5:k≠18) (h6:k≠19):arityB k n=false:=by
 unfold arityB
 rw [if_neg (by omega),if_neg (by omega),if_neg,if_neg h5,dcf h6]
 rintro ⟨a,b⟩
 unfold rankI at h
 split at h
 ·cases h
 ·split at h
  ·cases h
  ·split at h
   ·cases h
   ·split at h
    ·cases h
    ·split at h
     ·cases h
     ·omega
theorem formedBs_at {l:List Ex}:formedBs nameB l=!decide (∃ j,j < l.length/\(match l[j]? with|some x=>!formedB nameB x|none=>false)=true):=by
 rw [formedBs_all,Bool.eq_iff_iff,List.all_eq_true,Bool.not_eq_true',decide_eq_false_iff_not]
 constructor
 ·rintro h ⟨j,hj,hb⟩
  rw [List.getElem?_eq_getElem hj] at hb
  simp [h _ (List.getElem_mem hj)] at hb
 ·intro h x hx
  obtain ⟨j,hj,rfl⟩:=List.mem_iff_getElem.1 hx
  cases hb:formedB nameB l[j] with
  | true=>rfl
  | false=>exact absurd ⟨j,hj,by rw [List.getElem?_eq_getElem hj]; simp [hb]⟩ h
def namedB (k:Int) (nm:ByteArray):Bool:=if k=2\/k=19 then nameB nm else decide (nm.size=0)
theorem formed1C {w:WD} {x:Ex} {v:AVal} (h:IsEx x v) (hf:∀ w:WD,GivesV (EE w) 76 [v] (.sc (.bool (formedB nameB x)))):GivesV (EE w) 96 [v] (.sc (.bool (!formedB nameB x))):=by
 refine GivesV.of (fun _=>.sc _) (.cons _ _ h.wf .nil) 1 ?_
 obtain ⟨c1,c2,c3⟩:=h.isA.facts
 obtain ⟨cs,rfl,hl⟩:=h.isA
 simp only [cells_agg] at c1 c2
 refine of_96 rfl rfl rfl (by kernel_rfl) ?_
 simp -implicitDefEqProofs only [go_sem,c1,c2]
 refine (hf _).use ?_
 (repeat' first|refine vw ?_ ?_<;>intro hq|refine vz ?_|simp -implicitDefEqProofs only [go_sem])
 exact ret_bool rfl
theorem formedStep {k i:Int} {nm:ByteArray} {l:List Ex} {w:WD} {v:AVal} (h:IsEx (.mk k nm i l) v) (rec:∀ y∈l,∀ (w:WD) (v:AVal),IsEx y v->GivesV (EE w) 76 [v] (.sc (.bool (formedB nameB y)))):GivesV (EE w) 76 [v] (.sc (.bool (formedB nameB (.mk k nm i l)))):=by
  have hwf:=h.wf
  simp only [IsEx] at h
  obtain ⟨S,els,rfl,hS,hs,hk,hi,hn,hl⟩:=h
  have hlen:=hs.len
  have ih:∀ (w:WD) (j:Nat) e,els[j]?=some e->GivesV (EE w) 96 [e] (.sc (.bool (match l[j]? with|some x=>!formedB nameB x|none=>false))):=by
   intro w j e he
   obtain ⟨x,hx,hxe⟩:=hs.all he
   rw [hx]
   exact formed1C hxe fun w=>rec x (List.mem_of_getElem? hx) w e hxe
  have hfF:=fun w:WD=>containsFEC (w:=w) hS (by omega) hs.isA hs.wf (g:=96) (fun w=>by kernel_rfl) (fun j=>match l[j]? with|some x=>!formedB nameB x|none=>false) ih
  have kS:=hS.fit
  have cS:=hS.cells
  have iS:=hS.isCell
  refine GivesV.of (fun _=>.sc _) (.cons _ _ hwf .nil) 1 ?_
  have hform:formedB nameB (.mk k nm i l)=((arityB k l.length && namedB k nm) && ((decide (i=0) || decide (k=1)) && (decide (-2147483648<=i) && decide (i<=2147483648))) && formedBs nameB l):=rfl
  rw [hform]
  refine of_76 rfl rfl rfl (by kernel_rfl) ?_
  simp -implicitDefEqProofs only [go_sem,kS,cS,iS]
  refine Z_mid (fun e σ=>∃ m:Int,look? e 1=some (.ptr 0 0 0)/\look? e 3=some (.sc (.int .i64 (m)))/\σ.get 0=some (.cells 4 [.agg [(.sc (.int .i64 (k))),.sc (.string nm),(.sc (.int .i64 (i))),S]])/\decide ((l.length:Int)=m)=arityB k l.length) ?_ ?_
  ·have hg:∀ y,(empty.alloc y).get 0=some y:=fun y=>by rw [AStore.get_alloc]; rfl
   by_cases h1:k=1
   ·subst h1
    (repeat' first|refine vw ?_ ?_<;>intro hq|refine vz ?_|simp -implicitDefEqProofs only [go_sem])
    refine ⟨0,rfl,?_⟩
    unfold arityB; rw [if_pos (by omega)]; exact decide_eq_decide.mpr (by omega)
   by_cases h2:k=2
   ·subst h2
    (repeat' first|refine vw ?_ ?_<;>intro hq|refine vz ?_|simp -implicitDefEqProofs only [go_sem])
    refine ⟨0,rfl,?_⟩
    unfold arityB; rw [if_pos (by omega)]; exact decide_eq_decide.mpr (by omega)
   by_cases h3:k=3
   ·subst h3
    (repeat' first|refine vw ?_ ?_<;>intro hq|refine vz ?_|simp -implicitDefEqProofs only [go_sem])
    refine ⟨1,rfl,?_⟩
    unfold arityB; rw [if_neg (by omega),if_pos (by omega)]; exact decide_eq_decide.mpr (by omega)
   by_cases h4:k=4
   ·subst h4
    (repeat' first|refine vw ?_ ?_<;>intro hq|refine vz ?_|simp -implicitDefEqProofs only [go_sem])
    refine ⟨1,rfl,?_⟩
    unfold arityB; rw [if_neg (by omega),if_pos (by omega)]; exact decide_eq_decide.mpr (by omega)
   by_cases h5:k=18
   ·subst h5
    (repeat' first|refine vw ?_ ?_<;>intro hq|refine vz ?_|simp -implicitDefEqProofs only [go_sem])
    refine ⟨3,rfl,?_⟩
    unfold arityB; rw [if_neg (by omega),if_neg (by omega),if_neg (by omega),if_pos (by omega)]; exact decide_eq_decide.mpr (by omega)
   by_cases h6:k=19
   ·subst h6
    (repeat' first|refine vw ?_ ?_<;>intro hq|refine vz ?_|simp -implicitDefEqProofs only [go_sem,hS.len])
    refine ⟨els.length,rfl,?_⟩
    rw [hlen]
    unfold arityB; rw [if_neg (by omega),if_neg (by omega),if_neg (by omega),if_neg (by omega)]; exact decide_eq_decide.mpr (by omega)
   (repeat' first|refine vw ?_ ?_<;>intro hq|refine vz ?_|simp -implicitDefEqProofs only [go_sem,dcf h1,dcf h2,dcf h3,dcf h4,dcf h5,dcf h6])
   refine (operatorC k).use ?_
   rintro _ ⟨s,rfl⟩
   by_cases h7:rankI k=0
   ·(repeat' first|refine vw ?_ ?_<;>intro hq|refine vz ?_|simp -implicitDefEqProofs only [go_sem,dct h7])
    exact ret_bool (by rw [ar_no h7 h1 h2 h3 h4 h5 h6]; rfl)
   ·(repeat' first|refine vw ?_ ?_<;>intro hq|refine vz ?_|simp -implicitDefEqProofs only [go_sem,dcf h7])
    exact ⟨2,rfl,by rw [ar_op h7]; exact decide_eq_decide.mpr (by omega)⟩
  ·rintro e σ ⟨m,t1,t3,hg,har⟩
   rw [<-har]
   have e2:decide (nm=⟨#[]⟩)=decide (nm.size=0):=nm_empty
   have hL:aLen (.slice 0) S σ=some (.sc (.int .i64 l.length)):=by rw [<-hlen]; exact hS.len
   have hfin:formedBs nameB l=!decide (∃ j,j < els.length/\(match l[j]? with|some x=>!formedB nameB x|none=>false)=true):=by rw [formedBs_at,hlen]
   rw [hfin]
   clear ih hform hwf har hfin
   generalize hC:decide (∃ j,j < els.length/\(match l[j]? with|some x=>!formedB nameB x|none=>false)=true)=bb at*
   by_cases h3:k=2
   ·have hnb:namedB k nm=nameB nm:=if_pos (by omega)
    rw [hnb]
    simp -implicitDefEqProofs only [go_sem,t1,t3,hg,ba_list,dct h3]
    refine vzt ?_
    simp -implicitDefEqProofs only [go_sem,t1,t3,hg]
    refine (nameC nm).use ?_
    generalize nameB nm=nb
    cases nb with
    | false=>
     (repeat' first|refine vw ?_ ?_<;>intro hq|refine vz ?_|simp -implicitDefEqProofs only [go_sem,t1,t3,hg])
     exact ret_bool (by simp)
    | true=>
     (repeat' first|refine vw ?_ ?_<;>intro hq|refine vz ?_|simp -implicitDefEqProofs only [go_sem,t1,t3,hg,hL])
     all_goals first|(refine (hfF _).use ?_; (repeat' first|refine vw ?_ ?_<;>intro hq|refine vz ?_|simp -implicitDefEqProofs only [go_sem]); exact ret_bool (by simp [*]))|exact ret_bool (by simp [*])
   by_cases h4:k=19
   ·have hnb:namedB k nm=nameB nm:=if_pos (by omega)
    rw [hnb]
    simp -implicitDefEqProofs only [go_sem,t1,t3,hg,ba_list,dcf h3,dct h4]
    refine vzt ?_
    simp -implicitDefEqProofs only [go_sem,t1,t3,hg]
    refine (nameC nm).use ?_
    generalize nameB nm=nb
    cases nb with
    | false=>
     (repeat' first|refine vw ?_ ?_<;>intro hq|refine vz ?_|simp -implicitDefEqProofs only [go_sem,t1,t3,hg])
     exact ret_bool (by simp)
    | true=>
     (repeat' first|refine vw ?_ ?_<;>intro hq|refine vz ?_|simp -implicitDefEqProofs only [go_sem,t1,t3,hg,hL])
     all_goals first|(refine (hfF _).use ?_; (repeat' first|refine vw ?_ ?_<;>intro hq|refine vz ?_|simp -implicitDefEqProofs only [go_sem]); exact ret_bool (by simp [*]))|exact ret_bool (by simp [*])
   ·have hnb:namedB k nm=decide (nm.size=0):=if_neg (by omega)
    rw [hnb]
    simp -implicitDefEqProofs only [go_sem,t1,t3,hg,ba_list,dcf h3,dcf h4,e2]
    refine vzf ?_
    generalize decide (nm.size=0)=nb
    cases nb with
    | false=>
     (repeat' first|refine vw ?_ ?_<;>intro hq|refine vz ?_|simp -implicitDefEqProofs only [go_sem,t1,t3,hg])
     exact ret_bool (by simp)
    | true=>
     (repeat' first|refine vw ?_ ?_<;>intro hq|refine vz ?_|simp -implicitDefEqProofs only [go_sem,t1,t3,hg,hL])
     all_goals first|(refine (hfF _).use ?_; (repeat' first|refine vw ?_ ?_<;>intro hq|refine vz ?_|simp -implicitDefEqProofs only [go_sem]); exact ret_bool (by simp [*]))|exact ret_bool (by simp [*])
theorem formedC:∀ {x:Ex} {w:WD} {v:AVal},IsEx x v->GivesV (EE w) 76 [v] (.sc (.bool (formedB nameB x)))
 | .mk _ _ _ _,_,_,h=>formedStep h fun y hy _ _ h'=>formedC (x:=y) h'
termination_by x=>sizeOf x
decreasing_by have:=List.sizeOf_lt_of_mem hy; simp only [Ex.mk.sizeOf_spec]; omega
/-- One block is written; other old ones are as they were. -/
def Upd (σ σ':AStore) (b:Nat) (x:ABlk):Prop:=σ.next<=σ'.next/\σ'.get b=some x/\∀ b' y,b'≠b->σ.get b'=some y->σ'.get b'=some y
def mA (n d:Nat) (w:Bool):AVal:=.agg [(.sc (.int .i64 (n))),(.sc (.int .i64 (d))),(.sc (.bool (w)))]
theorem mx_nat {a b:Nat}:(if (b:Int) > (a:Int) then (b:Int) else (a:Int))=((max a b:Nat):Int):=by
 split<;>omega
theorem oneOf_nil:oneOf []=.tuple []:=rfl
theorem mInC {w:WD} {σ:AStore} {b:Nat} {n1 d1 n2 d2:Nat} {w1 w2:Bool} (hg:σ.get b=some (.cells 3 [mA n1 d1 w1])) (h1:n1<=1152921504606846976) (h2:n2<=1152921504606846976) (h3:d1<=1152921504606846976) (h4:d2<=1152921504606846976):
  ACalls (EE w) 97 [.ptr b 0 0,mA n2 d2 w2] σ fun e σ'=>e=.ret (.tuple [])/\Upd σ σ' b (.cells 3 [mA (n1+n2) (max d1 (1+d2)) (w1 || w2)]):=by
 have hlt:=AStore.lt_of_get hg
 have hne:σ.next≠b:=by omega
 have hw1:IntKind.i64.wrap ((n1:Int)+(n2:Int))=((n1+n2:Nat):Int):=by rw [wrap64 (by omega) (by omega)]; omega
 have hw2:IntKind.i64.wrap (1+(d2:Int))=((1+d2:Nat):Int):=by rw [wrap64 (by omega) (by omega)]; omega
 have hb:b≠σ.next:=by omega
 have hlt':b < σ.next+1:=by omega
 refine of_97 rfl rfl rfl (by kernel_rfl) ?_
 simp -implicitDefEqProofs only [go_sem,mA]
 ((try (refine Z_seq ?_; (try simp -implicitDefEqProofs only [go_sem]))); refine Z_draw (by kernel_rfl) (0::1::2::3::4::5::6::7::8::9::10::11::12::13::14::15::16::17::18::19::20::21::22::23::24::25::26::27::28::29::30::31::32::33::34::[]) ((34,17179869183)::(33,8589934591)::(32,4294967295)::(31,2088763387)::(30,1015021563)::(29,478150651)::(28,209469433)::(27,71057401)::(26,3948537)::(25,33292288)::(24,16515072)::(23,8126464)::(22,3932160)::(21,1835008)::(20,786432)::(19,262144)::(18,0)::(17,130048)::(16,49152)::(15,16384)::(14,0)::(13,7168)::(12,3072)::(11,1024)::(10,0)::(9,504)::(8,128)::(7,0)::(6,56)::(5,24)::(4,8)::(3,0)::(2,0)::(1,0)::(0,0)::[]) (by kernel_rfl) (by kernel_rfl) ?_)
 simp -implicitDefEqProofs only [go_sem,hg,mA,hw1,hw2,hb,hlt',if_neg hb]
 have hmx:=mx_nat (a:=d1) (b:=1+d2)
 cases w1 with
 | true=>
  simp -implicitDefEqProofs only [go_sem,hg,mA,hw1,hw2,hb,hlt',hne,hmx,oneOf_nil,Bool.true_or]
  refine ⟨by simp only [set_next,alloc_next]; omega,?_,?_⟩
  ·rw [AStore.get_set,if_pos ⟨rfl,by simp only [set_next,alloc_next]; omega⟩]
  ·intro b' y hb' hy
   have hlt2:=AStore.lt_of_get hy
   rw [AStore.get_set,if_neg (fun hc=>hb' hc.1),AStore.get_set,if_neg (fun hc=>hb' hc.1),AStore.get_set,if_neg (fun hc=>hb' hc.1),AStore.get_alloc,if_neg (by omega)]
   exact hy
 | false=>
  simp -implicitDefEqProofs only [go_sem,hg,mA,hw1,hw2,hb,hlt',hne,hmx,oneOf_nil,Bool.false_or]
  refine ⟨by simp only [set_next,alloc_next]; omega,?_,?_⟩
  ·rw [AStore.get_set,if_pos ⟨rfl,by simp only [set_next,alloc_next]; omega⟩]
  ·intro b' y hb' hy
   have hlt2:=AStore.lt_of_get hy
   rw [AStore.get_set,if_neg (fun hc=>hb' hc.1),AStore.get_set,if_neg (fun hc=>hb' hc.1),AStore.get_set,if_neg (fun hc=>hb' hc.1),AStore.get_alloc,if_neg (by omega)]
   exact hy
theorem nodesEs_take:∀ {l:List Ex} {i:Nat} {x:Ex},l[i]?=some x->nodesEs (l.take (i+1))=nodesEs (l.take i)+nodesE x
  | [],i,x,h=>by simp at h
  | y::l,0,x,h=>by simp at h; subst h; simp [nodesEs]
  | y :: l, i + 1, x, h => by
      have:=nodesEs_take (l:=l) (i:=i) (x:=x) (by simpa using h)
      simp only [List.take_succ_cons,nodesEs] at this ⊢
      omega
theorem depthEs_take:∀ {l:List Ex} {i:Nat} {x:Ex},l[i]?=some x->depthEs (l.take (i+1))=max (depthEs (l.take i)) (depthE x)
  | [],i,x,h=>by simp at h
  | y::l,0,x,h=>by simp at h; subst h; simp [depthEs]
  | y :: l, i + 1, x, h => by
      have:=depthEs_take (l:=l) (i:=i) (x:=x) (by simpa using h)
      simp only [List.take_succ_cons,depthEs] at this ⊢
      omega
theorem fewEs_take:∀ {l:List Ex} {i:Nat} {x:Ex},l[i]?=some x->fewEs (l.take (i+1))=(fewEs (l.take i) && fewE x)
  | [],i,x,h=>by simp at h
  | y::l,0,x,h=>by simp at h; subst h; simp [fewEs]
  | y :: l, i + 1, x, h => by
      have:=fewEs_take (l:=l) (i:=i) (x:=x) (by simpa using h)
      simp only [List.take_succ_cons,fewEs,Bool.and_assoc] at this ⊢
      rw [this]
theorem nodesEs_le:∀ {l:List Ex} {i:Nat},nodesEs (l.take i)<=nodesEs l
  | [],i=>by simp
  | y::l,0=>by simp [nodesEs]
  | y :: l, i + 1 => by
      have:=nodesEs_le (l:=l) (i:=i)
      simp only [List.take_succ_cons,nodesEs] at this ⊢
      omega
theorem depthEs_le:∀ {l:List Ex} {i:Nat},depthEs (l.take i)<=depthEs l
  | [],i=>by simp
  | y::l,0=>by simp [depthEs]
  | y :: l, i + 1 => by
      have:=depthEs_le (l:=l) (i:=i)
      simp only [List.take_succ_cons,depthEs] at this ⊢
      omega
mutual
theorem depth_nodesE:∀ (x:Ex),depthE x<=nodesE x
 | .mk _ _ _ l=>by have:=depth_nodesEs l; simp only [depthE,nodesE]; omega
theorem depth_nodesEs:∀ (l:List Ex),depthEs l<=nodesEs l
 | []=>Nat.le_refl _
 | x::l=>by have:=depth_nodesE x; have:=depth_nodesEs l; simp only [depthEs,nodesEs]; omega
end
theorem nodesE_pos (x:Ex):1<=nodesE x:=by cases x; simp only [nodesE]; omega
theorem depthE_pos (x:Ex):1<=depthE x:=by cases x; simp only [depthE]; omega
theorem nodesE_at {l:List Ex} {i:Nat} {x:Ex} (h:l[i]?=some x):nodesE x<=nodesEs l:=by
 have h1:=nodesEs_take h
 have h2:=nodesEs_le (l:=l) (i:=i+1)
 omega
theorem depthE_at {l:List Ex} {i:Nat} {x:Ex} (h:l[i]?=some x):depthE x<=depthEs l:=by
 have h1:=depthEs_take h
 have h2:=depthEs_le (l:=l) (i:=i+1)
 omega
theorem smallC {w:WD} {n d:Nat} {b:Bool}:GivesV (EE w) 78 [mA n d b] (.sc (.bool (decide (n<=400) && decide (d<=30) && !b))):=by
 refine GivesV.of (fun _=>.sc _) (.cons _ _ (.agg _ (.cons _ _ (.sc _) (.cons _ _ (.sc _) (.cons _ _ (.sc _) .nil)))) .nil) 1 ?_
 refine of_78 rfl rfl rfl (by kernel_rfl) ?_
 (repeat' first|refine vw ?_ ?_<;>intro hq|refine vz ?_|simp -implicitDefEqProofs only [go_sem,mA])
 all_goals (refine ret_bool ?_; first|(rw [dct (by omega:n<=400),dct (by omega:d<=30)]; rfl)|(rw [dcf (by omega:¬ d<=30)]; simp; done)|(rw [dcf (by omega:¬ n<=400)]; simp; done))
theorem IsEx.cellsOk {x:Ex} {e:AVal} (h:IsEx x e):(AVal.cells e).all AVal.isCell=true:=by
 cases x with
 | mk k nm i l=>
  simp only [IsEx] at h
  obtain ⟨S,els,rfl,hS,_⟩:=h
  show ([(.sc (.int .i64 (k))),AVal.sc (.string nm),(.sc (.int .i64 (i))),S].all AVal.isCell)=true
  simp only [List.all_cons,List.all_nil,hS.isCell,isCell_int,isCell_str,Bool.and_self]
theorem IsA.splice {e:AVal} (h:IsA 4 e) {a b c d:AVal}:spliceL [a,b,c,d] 0 (AVal.cells e)=AVal.cells e:=by
 obtain ⟨cs,rfl,hl⟩:=h
 match cs,hl with
 | [p,q,r,s],_=>rfl
theorem IsEx.splice {x:Ex} {e:AVal} (h:IsEx x e) {a b c d:AVal}:spliceL [a,b,c,d] 0 (AVal.cells e)=AVal.cells e:=h.isA.splice
theorem expSizeC:∀ {x:Ex} {w:WD} {v:AVal},IsEx x v->nodesE x<=1099511627776->GivesV (EE w) 77 [v] (mA (nodesE x) (depthE x) (!fewE x))
 | .mk k nm i l,w,v,h,hb=>by
  have hwf:=h.wf
  simp only [IsEx] at h
  obtain ⟨S,els,rfl,hS,hs,hk,hi,hn,hl⟩:=h
  have hlen:=hs.len
  have hbs:nodesEs l<=1099511627776:=by simp only [nodesE] at hb; omega
  have hdn:=depth_nodesEs l
  have ih:∀ (w:WD) (j:Nat) e x,els[j]?=some e->l[j]?=some x->GivesV (EE w) 77 [e] (mA (nodesE x) (depthE x) (!fewE x)):=by
   intro w j e x he hx
   obtain ⟨x',hx',hxe⟩:=hs.all he
   rw [hx] at hx'; cases hx'
   have hdec:=List.sizeOf_lt_of_mem (List.mem_of_getElem? hx)
   exact expSizeC hxe (by have:=nodesE_at hx; omega)
  have kS:=hS.fit
  have cS:=hS.cells
  have iS:=hS.isCell
  refine GivesV.of (fun _=>.sc _) (.cons _ _ hwf .nil) 2 ?_
  refine of_77 rfl rfl rfl (by kernel_rfl) ?_
  have hL:∀ σ:AStore,aLen (.slice 0) S σ=some (.sc (.int .i64 l.length)):=fun σ=>by rw [<-hlen]; exact hS.len
  have hd:decide ((4:Int) < (l.length:Int))=!decide (l.length<=4):=by (rw [Bool.eq_iff_iff]; simp only [Bool.or_eq_true,Bool.and_eq_true,Bool.not_eq_true',decide_eq_true_eq,decide_eq_false_iff_not,Bool.true_eq_false,Bool.false_eq_true,iff_true,true_iff,iff_false,false_iff]; omega)
  simp -implicitDefEqProofs only [go_sem,kS,cS,iS,hL,hd]
  refine vlp (ι:=Nat) (fun i=>[(1,.ptr 0 0 0),(2,.ptr 1 0 0),(3,.ptr 2 0 0),(12,S),(13,(.sc (.int .i64 (l.length)))),(14,(.sc (.int .i64 (i))))]) (fun i σ=>i<=l.length/\3<=σ.next/\σ.get 2=some (.cells 3 [mA (1+nodesEs (l.take i)) (1+depthEs (l.take i)) (!decide (l.length<=4) || !fewEs (l.take i))])/\∃ n d b,σ.get 1=some (.cells 3 [mA n d b])) (fun i=>l.length - i) (fun _=>rfl) 0 ?_ ?_ ?_
  ·exact vsu
  ·refine ⟨Nat.zero_le _,by simp only [set_next,alloc_next,empty_next]; omega,?_,0,0,false,?_⟩
   ·rw [AStore.get_set,if_pos ⟨rfl,by simp only [alloc_next,empty_next]; omega⟩,List.take_zero]
    simp only [nodesEs,depthEs,fewEs,mA,Bool.not_true,Bool.or_false]; rfl
   ·rw [AStore.get_set,if_neg (by omega),AStore.get_alloc,if_neg (by simp only [alloc_next,empty_next]; omega),AStore.get_alloc]
    rfl
  rintro i σ ⟨hi2,h3,hg2,n0,d0,b0,hg1⟩
  simp -implicitDefEqProofs only [go_sem]
  (refine vif ?_ ?_<;>intro h2)
  ·obtain ⟨x,hx⟩:∃ x,l[i]?=some x:=⟨l[i]'(by omega),by simp⟩
   obtain ⟨e,he,hxe⟩:=hs.at hx
   obtain ⟨c1,c2,c3⟩:=hxe.isA.facts
   have cc:=hxe.cellsOk
   have hsp:=fun a b c d=>hxe.splice (a:=a) (b:=b) (c:=c) (d:=d)
   have hw:=wrapS (i:=i) (by omega)
   (repeat' first|refine vw ?_ ?_<;>intro hq|refine vz ?_|simp -implicitDefEqProofs only [go_sem,hS.idx he,c1,c2,c3,cc,hsp])
   refine (ih _ i e x he hx).use ?_
   have hg2':∀ y z,((σ.alloc y).set σ.next z).get 2=some (.cells 3 [mA (1+nodesEs (l.take i)) (1+depthEs (l.take i)) (!decide (l.length<=4) || !fewEs (l.take i))]):=by
    intro y z
    rw [AStore.get_set,if_neg (by omega)]
    exact get_alloc_old hg2
   have hg1':∀ y z,((σ.alloc y).set σ.next z).get 1=some (.cells 3 [mA n0 d0 b0]):=by
    intro y z
    rw [AStore.get_set,if_neg (by omega)]
    exact get_alloc_old hg1
   have hn1:=nodesE_at hx
   have hd1:=depthE_at hx
   have hn2:=nodesEs_le (l:=l) (i:=i)
   have hd2:=depthEs_le (l:=l) (i:=i)
   simp -implicitDefEqProofs only [go_sem]
   refine (mInC (hg2' _ _) (by omega) (by omega) (by omega) (by omega)).mono ?_
   rintro _ σ' ⟨rfl,u1,u2,u3⟩
   (repeat' first|refine vw ?_ ?_<;>intro hq|refine vz ?_|simp -implicitDefEqProofs only [go_sem,hw])
   refine ⟨i+1,vom,⟨vom,?_,?_,n0,d0,b0,u3 1 _ (by omega) (hg1' _ _)⟩,?_⟩
   ·simp only [set_next,alloc_next] at u1; omega
   ·rw [u2,nodesEs_take hx,depthEs_take hx,fewEs_take hx]
    have e1:1+nodesEs (l.take i)+nodesE x=1+(nodesEs (l.take i)+nodesE x):=by omega
    have e2:max (1+depthEs (l.take i)) (1+depthE x)=1+max (depthEs (l.take i)) (depthE x):=by omega
    rw [e1,e2]
    cases decide (l.length<=4)<;>cases fewEs (l.take i)<;>cases fewE x<;>rfl
   ·exact vsu
  ·obtain rfl:i=l.length:=by omega
   rw [List.take_length] at hg2
   have hlt1:=AStore.lt_of_get hg1
   (repeat' first|refine vw ?_ ?_<;>intro hq|refine vz ?_|simp -implicitDefEqProofs only [go_sem,hg2,hg1,mA,hlt1])
   refine ⟨_,rfl,?_⟩
   have e3:(!decide (l.length<=4) || !fewEs l)=!fewE (.mk k nm i l):=by simp only [fewE,Bool.not_and]
   simp only [nodesE,depthE,<-e3]
   rfl
termination_by x=>sizeOf x
decreasing_by simp only [Ex.mk.sizeOf_spec]; omega
theorem checkExpC {w:WD} {x:Ex} {v:AVal} (h:IsEx x v) (hb:nodesE x<=1099511627776):GivesV (EE w) 53 [v] (.sc (.int .i64 (checkE nameB x))):=by
 have hwf:=h.wf
 obtain ⟨c1,c2,c3⟩:=h.isA.facts
 have cc:=h.cellsOk
 have hfit:v.fit=true:=by obtain ⟨cs,rfl,_⟩:=h.isA; rfl
 have hF:=fun w:WD=>formedC (w:=w) h
 have hZ:=fun w:WD=>expSizeC (w:=w) h hb
 refine GivesV.of (fun _=>.sc _) (.cons _ _ hwf .nil) 1 ?_
 refine of_53 rfl rfl rfl (by kernel_rfl) ?_
 simp -implicitDefEqProofs only [go_sem,hfit,c1,c2,c3,cc]
 refine (hF _).use ?_
 unfold checkE
 cases formedB nameB x with
 | false=>
  (repeat' first|refine vw ?_ ?_<;>intro hq|refine vz ?_|simp -implicitDefEqProofs only [go_sem])
  exact ⟨_,rfl,rfl⟩
 | true=>
  (repeat' first|refine vw ?_ ?_<;>intro hq|refine vz ?_|simp -implicitDefEqProofs only [go_sem,c1,c2,c3])
  refine (hZ _).use ?_
  simp -implicitDefEqProofs only [go_sem]
  refine smallC.use ?_
  have e1:(decide (nodesE x<=400) && decide (depthE x<=30) && !!fewE x)=smallE x:=by unfold smallE; rw [Bool.not_not]
  rw [e1]
  cases smallE x with
  | false=>
   (repeat' first|refine vw ?_ ?_<;>intro hq|refine vz ?_|simp -implicitDefEqProofs only [go_sem])
   exact ⟨_,rfl,rfl⟩
  | true=>
   (repeat' first|refine vw ?_ ?_<;>intro hq|refine vz ?_|simp -implicitDefEqProofs only [go_sem])
   exact ⟨_,rfl,rfl⟩
theorem IsSt.cellsOk {x:St} {e:AVal} (h:IsSt x e):(AVal.cells e).all AVal.isCell=true:=by
 cases x with
 | mk k nm v b els=>
  simp only [IsSt] at h
  obtain ⟨SA,SB,SE,ea,eb,ee,rfl,hA,ha,hB,hb,hE,he,_⟩:=h
  show ([(.sc (.int .i64 (k))),AVal.sc (.string nm),(.sc (.int .i64 (v.k))),AVal.sc (.string v.nm),(.sc (.int .i64 (v.i))),SA,SB,SE].all AVal.isCell)=true
  simp only [List.all_cons,List.all_nil,hA.isCell,hB.isCell,hE.isCell,isCell_int,isCell_str,Bool.and_self]
theorem ex_of {v:Ex} {SA:AVal} {ea:List AVal} (hA:IsD 4 SA ea) (ha:IsExs v.args ea) (h1:in64 v.k) (h2:in64 v.i) (h3:v.nm.size<=281474976710656) (h4:ea.length<=281474976710656):
  IsEx v (.agg [(.sc (.int .i64 (v.k))),.sc (.string v.nm),(.sc (.int .i64 (v.i))),SA]):=by
 cases v with
 | mk k nm i l=>
  simp only [IsEx]
  exact ⟨SA,ea,rfl,hA,ha,h1,h2,h3,h4⟩
theorem formedSs_at {l:List St}:formedSs nameB l=!decide (∃ j,j < l.length/\(match l[j]? with|some x=>!formedS nameB x|none=>false)=true):=by
 rw [formedSs_all,Bool.eq_iff_iff,List.all_eq_true,Bool.not_eq_true',decide_eq_false_iff_not]
 constructor
 ·rintro h ⟨j,hj,hb⟩
  rw [List.getElem?_eq_getElem hj] at hb
  simp [h _ (List.getElem_mem hj)] at hb
 ·intro h x hx
  obtain ⟨j,hj,rfl⟩:=List.mem_iff_getElem.1 hx
  cases hb:formedS nameB l[j] with
  | true=>rfl
  | false=>exact absurd ⟨j,hj,by rw [List.getElem?_eq_getElem hj]; simp [hb]⟩ h
theorem formedS1C {w:WD} {x:St} {v:AVal} (h:IsSt x v) (hf:∀ w:WD,GivesV (EE w) 102 [v] (.sc (.bool (formedS nameB x)))):GivesV (EE w) 123 [v] (.sc (.bool (!formedS nameB x))):=by
 refine GivesV.of (fun _=>.sc _) (.cons _ _ h.wf .nil) 1 ?_
 obtain ⟨c1,c2,c3⟩:=h.isA.facts
 obtain ⟨cs,rfl,hl⟩:=h.isA
 simp only [cells_agg] at c1 c2
 refine of_123 rfl rfl rfl (by kernel_rfl) ?_
 simp -implicitDefEqProofs only [go_sem,c1,c2]
 refine (hf _).use ?_
 (repeat' first|refine vw ?_ ?_<;>intro hq|refine vz ?_|simp -implicitDefEqProofs only [go_sem])
 exact ret_bool rfl
theorem formedS2C {w:WD} {x:St} {v:AVal} (h:IsSt x v) (hf:∀ w:WD,GivesV (EE w) 102 [v] (.sc (.bool (formedS nameB x)))):GivesV (EE w) 101 [v] (.sc (.bool (!formedS nameB x))):=by
 refine GivesV.of (fun _=>.sc _) (.cons _ _ h.wf .nil) 1 ?_
 obtain ⟨c1,c2,c3⟩:=h.isA.facts
 obtain ⟨cs,rfl,hl⟩:=h.isA
 simp only [cells_agg] at c1 c2
 refine of_101 rfl rfl rfl (by kernel_rfl) ?_
 simp -implicitDefEqProofs only [go_sem,c1,c2]
 refine (hf _).use ?_
 (repeat' first|refine vw ?_ ?_<;>intro hq|refine vz ?_|simp -implicitDefEqProofs only [go_sem])
 exact ret_bool rfl
theorem formedSStep {k:Int} {nm:ByteArray} {v:Ex} {body els:List St} {w:WD} {z:AVal} (h:IsSt (.mk k nm v body els) z) (rec:∀ y,(y∈body\/y∈els)->∀ (w:WD) (v:AVal),IsSt y v->GivesV (EE w) 102 [v] (.sc (.bool (formedS nameB y)))):GivesV (EE w) 102 [z] (.sc (.bool (formedS nameB (.mk k nm v body els)))):=by
  have hwf:=h.wf
  have ccz:=h.cellsOk
  simp only [IsSt] at h
  obtain ⟨SA,SB,SE,ea,eb,ee,rfl,hA,ha,hB,hb,hE,he,h1,h2,h3,h4,h5,h6,h7,h8⟩:=h
  have hvx:=ex_of hA ha h2 h3 h5 h6
  have hFv:=fun w:WD=>formedC (w:=w) hvx
  have hlb:=hb.len
  have hle:=he.len
  have ihb:∀ (w:WD) (j:Nat) e,eb[j]?=some e->GivesV (EE w) 123 [e] (.sc (.bool (match body[j]? with|some x=>!formedS nameB x|none=>false))):=by
   intro w j e hj
   obtain ⟨x,hx,hxe⟩:=hb.all hj
   rw [hx]
   exact formedS1C hxe fun w=>rec x (.inl (List.mem_of_getElem? hx)) w e hxe
  have ihe:∀ (w:WD) (j:Nat) e,ee[j]?=some e->GivesV (EE w) 123 [e] (.sc (.bool (match els[j]? with|some x=>!formedS nameB x|none=>false))):=by
   intro w j e hj
   obtain ⟨x,hx,hxe⟩:=he.all hj
   rw [hx]
   exact formedS1C hxe fun w=>rec x (.inr (List.mem_of_getElem? hx)) w e hxe
  have hFb:=fun w:WD=>containsFSC (w:=w) hB (by omega) hb.isA hb.wf (g:=123) (fun w=>by kernel_rfl) _ (ihb)
  have hFe:=fun w:WD=>containsFSC (w:=w) hE (by omega) he.isA he.wf (g:=123) (fun w=>by kernel_rfl) _ (ihe)
  have kA:=hA.fit
  have cA:=hA.cells
  have iA':=hA.isCell
  have kB:=hB.fit
  have cB:=hB.cells
  have iB:=hB.isCell
  have kE:=hE.fit
  have cE:=hE.cells
  have iE:=hE.isCell
  have hform:formedS nameB (.mk k nm v body els)=((decide (1<=k) && decide (k<=5)) && (if k=1\/k=2 then nameB nm else decide (nm.size=0)) && formedB nameB v && ((decide (body.length=0) || (decide (k=3) || decide (k=4))) && (decide (els.length=0) || decide (k=3))) && formedSs nameB body && formedSs nameB els):=rfl
  have eb1:decide (∃ j,j < eb.length/\(match body[j]? with|some x=>!formedS nameB x|none=>false)=true)=!formedSs nameB body:=by rw [formedSs_at,hlb,Bool.not_not]
  have ee1:decide (∃ j,j < ee.length/\(match els[j]? with|some x=>!formedS nameB x|none=>false)=true)=!formedSs nameB els:=by rw [formedSs_at,hle,Bool.not_not]
  simp only [eb1] at hFb
  simp only [ee1] at hFe
  clear ihb ihe eb1 ee1
  rw [hform]
  clear hform
  have e2:decide (nm=⟨#[]⟩)=decide (nm.size=0):=nm_empty
  have hLb:∀ σ:AStore,aLen (.slice 0) SB σ=some (.sc (.int .i64 body.length)):=fun σ=>by rw [<-hlb]; exact hB.len
  have hLe:∀ σ:AStore,aLen (.slice 0) SE σ=some (.sc (.int .i64 els.length)):=fun σ=>by rw [<-hle]; exact hE.len
  have zb:decide ((body.length:Int)=0)=decide (body.length=0):=decide_eq_decide.mpr (by omega)
  have ze:decide ((els.length:Int)=0)=decide (els.length=0):=decide_eq_decide.mpr (by omega)
  generalize decide (body.length=0)=lb at*
  generalize decide (els.length=0)=le at*
  refine GivesV.of (fun _=>.sc _) (.cons _ _ hwf .nil) 1 ?_
  refine of_102 rfl rfl rfl (by kernel_rfl) ?_
  by_cases kl:k < 1
  ·have d1:decide (1<=k)=false:=dcf (by omega)
   have d2:¬ (k=1\/k=2):=by omega
   rw [if_neg d2,d1]
   have d3:decide (k=1)=false:=dcf (by omega)
   have d4:decide (k=2)=false:=dcf (by omega)
   simp -implicitDefEqProofs only [go_sem,d1,d3,d4,hLb,hLe,zb,ze,ba_list,e2,kA,cA,iA',kB,cB,iB,kE,cE,iE]
   refine vzf ?_
   (repeat' first|refine vw ?_ ?_<;>intro hq|refine vz ?_|simp -implicitDefEqProofs only [go_sem,d1,d3,d4,hLb,hLe,zb,ze,ba_list,e2])
   exact ret_bool (by simp)
  by_cases kg:5 < k
  ·have d1:decide (1<=k)=true:=dct (by omega)
   have d5:decide (k<=5)=false:=dcf (by omega)
   have d2:¬ (k=1\/k=2):=by omega
   rw [if_neg d2,d5]
   have d3:decide (k=1)=false:=dcf (by omega)
   have d4:decide (k=2)=false:=dcf (by omega)
   simp -implicitDefEqProofs only [go_sem,d1,d3,d4,d5,hLb,hLe,zb,ze,ba_list,e2,kA,cA,iA',kB,cB,iB,kE,cE,iE]
   refine vzf ?_
   (repeat' first|refine vw ?_ ?_<;>intro hq|refine vz ?_|simp -implicitDefEqProofs only [go_sem,d1,d3,d4,d5,hLb,hLe,zb,ze,ba_list,e2])
   exact ret_bool (by simp)
  have d1:decide (1<=k)=true:=dct (by omega)
  have d5:decide (k<=5)=true:=dct (by omega)
  rw [d1,d5]
  by_cases k1:k=1
  ·subst k1
   rw [if_pos (by omega)]
   have q1:decide ((1:Int)=1)=true:=by decide
   have q2:decide ((1:Int)=2)=false:=by decide
   have q3:decide ((1:Int)=3)=false:=by decide
   have q4:decide ((1:Int)=4)=false:=by decide
   have q5:decide ((1:Int)<=1)=true:=by decide
   have q6:decide ((1:Int)<=5)=true:=by decide
   simp -implicitDefEqProofs only [go_sem,q1,q2,q3,q4,q5,q6,hLb,hLe,zb,ze,ba_list,e2,kA,cA,iA',kB,cB,iB,kE,cE,iE]
   refine vzt ?_
   simp -implicitDefEqProofs only [go_sem,q1,q2,q3,q4,q5,q6,hLb,hLe,zb,ze,ba_list,e2,kA,cA,iA',kB,cB,iB,kE,cE,iE]
   refine (nameC nm).use ?_
   generalize nameB nm=nb
   cases nb with
   | false=>((repeat' first|refine vw ?_ ?_<;>intro hq|refine vz ?_|simp -implicitDefEqProofs only [go_sem,q1,q2,q3,q4,q5,q6,hLb,hLe,zb,ze,ba_list,e2,kA,cA,iA',kB,cB,iB,kE,cE,iE]); exact ret_bool (by simp))
   | true=>
   (repeat' first|refine vw ?_ ?_<;>intro hq|refine vz ?_|simp -implicitDefEqProofs only [go_sem,q1,q2,q3,q4,q5,q6,hLb,hLe,zb,ze,ba_list,e2,kA,cA,iA',kB,cB,iB,kE,cE,iE])
   refine (hFv _).use ?_
   cases formedB nameB v with
   | false=>((repeat' first|refine vw ?_ ?_<;>intro hq|refine vz ?_|simp -implicitDefEqProofs only [go_sem,q1,q2,q3,q4,q5,q6,hLb,hLe,zb,ze,ba_list,e2,kA,cA,iA',kB,cB,iB,kE,cE,iE]); exact ret_bool (by simp))
   | true=>
   cases lb with
   | false=>((repeat' first|refine vw ?_ ?_<;>intro hq|refine vz ?_|simp -implicitDefEqProofs only [go_sem,q1,q2,q3,q4,q5,q6,hLb,hLe,zb,ze,ba_list,e2,kA,cA,iA',kB,cB,iB,kE,cE,iE]); exact ret_bool (by simp))
   | true=>
   cases le with
   | false=>((repeat' first|refine vw ?_ ?_<;>intro hq|refine vz ?_|simp -implicitDefEqProofs only [go_sem,q1,q2,q3,q4,q5,q6,hLb,hLe,zb,ze,ba_list,e2,kA,cA,iA',kB,cB,iB,kE,cE,iE]); exact ret_bool (by simp))
   | true=>
   (repeat' first|refine vw ?_ ?_<;>intro hq|refine vz ?_|simp -implicitDefEqProofs only [go_sem,q1,q2,q3,q4,q5,q6,hLb,hLe,zb,ze,ba_list,e2,kA,cA,iA',kB,cB,iB,kE,cE,iE])
   refine (hFb _).use ?_
   cases formedSs nameB body with
   | false=>((repeat' first|refine vw ?_ ?_<;>intro hq|refine vz ?_|simp -implicitDefEqProofs only [go_sem,q1,q2,q3,q4,q5,q6,hLb,hLe,zb,ze,ba_list,e2,kA,cA,iA',kB,cB,iB,kE,cE,iE]); exact ret_bool (by simp))
   | true=>
   (repeat' first|refine vw ?_ ?_<;>intro hq|refine vz ?_|simp -implicitDefEqProofs only [go_sem,q1,q2,q3,q4,q5,q6,hLb,hLe,zb,ze,ba_list,e2,kA,cA,iA',kB,cB,iB,kE,cE,iE])
   refine (hFe _).use ?_
   cases formedSs nameB els with
   | false=>((repeat' first|refine vw ?_ ?_<;>intro hq|refine vz ?_|simp -implicitDefEqProofs only [go_sem,q1,q2,q3,q4,q5,q6,hLb,hLe,zb,ze,ba_list,e2,kA,cA,iA',kB,cB,iB,kE,cE,iE]); exact ret_bool (by simp))
   | true=>((repeat' first|refine vw ?_ ?_<;>intro hq|refine vz ?_|simp -implicitDefEqProofs only [go_sem,q1,q2,q3,q4,q5,q6,hLb,hLe,zb,ze,ba_list,e2,kA,cA,iA',kB,cB,iB,kE,cE,iE]); exact ret_bool (by simp))
  by_cases k2:k=2
  ·subst k2
   rw [if_pos (by omega)]
   have q1:decide ((2:Int)=1)=false:=by decide
   have q2:decide ((2:Int)=2)=true:=by decide
   have q3:decide ((2:Int)=3)=false:=by decide
   have q4:decide ((2:Int)=4)=false:=by decide
   have q5:decide ((1:Int)<=2)=true:=by decide
   have q6:decide ((2:Int)<=5)=true:=by decide
   simp -implicitDefEqProofs only [go_sem,q1,q2,q3,q4,q5,q6,hLb,hLe,zb,ze,ba_list,e2,kA,cA,iA',kB,cB,iB,kE,cE,iE]
   refine vzt ?_
   simp -implicitDefEqProofs only [go_sem,q1,q2,q3,q4,q5,q6,hLb,hLe,zb,ze,ba_list,e2,kA,cA,iA',kB,cB,iB,kE,cE,iE]
   refine (nameC nm).use ?_
   generalize nameB nm=nb
   cases nb with
   | false=>((repeat' first|refine vw ?_ ?_<;>intro hq|refine vz ?_|simp -implicitDefEqProofs only [go_sem,q1,q2,q3,q4,q5,q6,hLb,hLe,zb,ze,ba_list,e2,kA,cA,iA',kB,cB,iB,kE,cE,iE]); exact ret_bool (by simp))
   | true=>
   (repeat' first|refine vw ?_ ?_<;>intro hq|refine vz ?_|simp -implicitDefEqProofs only [go_sem,q1,q2,q3,q4,q5,q6,hLb,hLe,zb,ze,ba_list,e2,kA,cA,iA',kB,cB,iB,kE,cE,iE])
   refine (hFv _).use ?_
   cases formedB nameB v with
   | false=>((repeat' first|refine vw ?_ ?_<;>intro hq|refine vz ?_|simp -implicitDefEqProofs only [go_sem,q1,q2,q3,q4,q5,q6,hLb,hLe,zb,ze,ba_list,e2,kA,cA,iA',kB,cB,iB,kE,cE,iE]); exact ret_bool (by simp))
   | true=>
   cases lb with
   | false=>((repeat' first|refine vw ?_ ?_<;>intro hq|refine vz ?_|simp -implicitDefEqProofs only [go_sem,q1,q2,q3,q4,q5,q6,hLb,hLe,zb,ze,ba_list,e2,kA,cA,iA',kB,cB,iB,kE,cE,iE]); exact ret_bool (by simp))
   | true=>
   cases le with
   | false=>((repeat' first|refine vw ?_ ?_<;>intro hq|refine vz ?_|simp -implicitDefEqProofs only [go_sem,q1,q2,q3,q4,q5,q6,hLb,hLe,zb,ze,ba_list,e2,kA,cA,iA',kB,cB,iB,kE,cE,iE]); exact ret_bool (by simp))
   | true=>
   (repeat' first|refine vw ?_ ?_<;>intro hq|refine vz ?_|simp -implicitDefEqProofs only [go_sem,q1,q2,q3,q4,q5,q6,hLb,hLe,zb,ze,ba_list,e2,kA,cA,iA',kB,cB,iB,kE,cE,iE])
   refine (hFb _).use ?_
   cases formedSs nameB body with
   | false=>((repeat' first|refine vw ?_ ?_<;>intro hq|refine vz ?_|simp -implicitDefEqProofs only [go_sem,q1,q2,q3,q4,q5,q6,hLb,hLe,zb,ze,ba_list,e2,kA,cA,iA',kB,cB,iB,kE,cE,iE]); exact ret_bool (by simp))
   | true=>
   (repeat' first|refine vw ?_ ?_<;>intro hq|refine vz ?_|simp -implicitDefEqProofs only [go_sem,q1,q2,q3,q4,q5,q6,hLb,hLe,zb,ze,ba_list,e2,kA,cA,iA',kB,cB,iB,kE,cE,iE])
   refine (hFe _).use ?_
   cases formedSs nameB els with
   | false=>((repeat' first|refine vw ?_ ?_<;>intro hq|refine vz ?_|simp -implicitDefEqProofs only [go_sem,q1,q2,q3,q4,q5,q6,hLb,hLe,zb,ze,ba_list,e2,kA,cA,iA',kB,cB,iB,kE,cE,iE]); exact ret_bool (by simp))
   | true=>((repeat' first|refine vw ?_ ?_<;>intro hq|refine vz ?_|simp -implicitDefEqProofs only [go_sem,q1,q2,q3,q4,q5,q6,hLb,hLe,zb,ze,ba_list,e2,kA,cA,iA',kB,cB,iB,kE,cE,iE]); exact ret_bool (by simp))
  by_cases k3:k=3
  ·subst k3
   rw [if_neg (by omega)]
   have q1:decide ((3:Int)=1)=false:=by decide
   have q2:decide ((3:Int)=2)=false:=by decide
   have q3:decide ((3:Int)=3)=true:=by decide
   have q4:decide ((3:Int)=4)=false:=by decide
   have q5:decide ((1:Int)<=3)=true:=by decide
   have q6:decide ((3:Int)<=5)=true:=by decide
   generalize decide (nm.size=0)=nb at*
   simp -implicitDefEqProofs only [go_sem,q1,q2,q3,q4,q5,q6,hLb,hLe,zb,ze,ba_list,e2,kA,cA,iA',kB,cB,iB,kE,cE,iE]
   refine vzf ?_
   cases nb with
   | false=>((repeat' first|refine vw ?_ ?_<;>intro hq|refine vz ?_|simp -implicitDefEqProofs only [go_sem,q1,q2,q3,q4,q5,q6,hLb,hLe,zb,ze,ba_list,e2,kA,cA,iA',kB,cB,iB,kE,cE,iE]); exact ret_bool (by simp))
   | true=>
   (repeat' first|refine vw ?_ ?_<;>intro hq|refine vz ?_|simp -implicitDefEqProofs only [go_sem,q1,q2,q3,q4,q5,q6,hLb,hLe,zb,ze,ba_list,e2,kA,cA,iA',kB,cB,iB,kE,cE,iE])
   refine (hFv _).use ?_
   cases formedB nameB v with
   | false=>((repeat' first|refine vw ?_ ?_<;>intro hq|refine vz ?_|simp -implicitDefEqProofs only [go_sem,q1,q2,q3,q4,q5,q6,hLb,hLe,zb,ze,ba_list,e2,kA,cA,iA',kB,cB,iB,kE,cE,iE]); exact ret_bool (by simp))
   | true=>
   cases lb with
   | false=>
    cases le with
    | false=>
     (repeat' first|refine vw ?_ ?_<;>intro hq|refine vz ?_|simp -implicitDefEqProofs only [go_sem,q1,q2,q3,q4,q5,q6,hLb,hLe,zb,ze,ba_list,e2,kA,cA,iA',kB,cB,iB,kE,cE,iE])
     refine (hFb _).use ?_
     cases formedSs nameB body with
     | false=>((repeat' first|refine vw ?_ ?_<;>intro hq|refine vz ?_|simp -implicitDefEqProofs only [go_sem,q1,q2,q3,q4,q5,q6,hLb,hLe,zb,ze,ba_list,e2,kA,cA,iA',kB,cB,iB,kE,cE,iE]); exact ret_bool (by simp))
     | true=>
     (repeat' first|refine vw ?_ ?_<;>intro hq|refine vz ?_|simp -implicitDefEqProofs only [go_sem,q1,q2,q3,q4,q5,q6,hLb,hLe,zb,ze,ba_list,e2,kA,cA,iA',kB,cB,iB,kE,cE,iE])
     refine (hFe _).use ?_
     cases formedSs nameB els with
     | false=>((repeat' first|refine vw ?_ ?_<;>intro hq|refine vz ?_|simp -implicitDefEqProofs only [go_sem,q1,q2,q3,q4,q5,q6,hLb,hLe,zb,ze,ba_list,e2,kA,cA,iA',kB,cB,iB,kE,cE,iE]); exact ret_bool (by simp))
     | true=>((repeat' first|refine vw ?_ ?_<;>intro hq|refine vz ?_|simp -implicitDefEqProofs only [go_sem,q1,q2,q3,q4,q5,q6,hLb,hLe,zb,ze,ba_list,e2,kA,cA,iA',kB,cB,iB,kE,cE,iE]); exact ret_bool (by simp))
    | true=>
     (repeat' first|refine vw ?_ ?_<;>intro hq|refine vz ?_|simp -implicitDefEqProofs only [go_sem,q1,q2,q3,q4,q5,q6,hLb,hLe,zb,ze,ba_list,e2,kA,cA,iA',kB,cB,iB,kE,cE,iE])
     refine (hFb _).use ?_
     cases formedSs nameB body with
     | false=>((repeat' first|refine vw ?_ ?_<;>intro hq|refine vz ?_|simp -implicitDefEqProofs only [go_sem,q1,q2,q3,q4,q5,q6,hLb,hLe,zb,ze,ba_list,e2,kA,cA,iA',kB,cB,iB,kE,cE,iE]); exact ret_bool (by simp))
     | true=>
     (repeat' first|refine vw ?_ ?_<;>intro hq|refine vz ?_|simp -implicitDefEqProofs only [go_sem,q1,q2,q3,q4,q5,q6,hLb,hLe,zb,ze,ba_list,e2,kA,cA,iA',kB,cB,iB,kE,cE,iE])
     refine (hFe _).use ?_
     cases formedSs nameB els with
     | false=>((repeat' first|refine vw ?_ ?_<;>intro hq|refine vz ?_|simp -implicitDefEqProofs only [go_sem,q1,q2,q3,q4,q5,q6,hLb,hLe,zb,ze,ba_list,e2,kA,cA,iA',kB,cB,iB,kE,cE,iE]); exact ret_bool (by simp))
     | true=>((repeat' first|refine vw ?_ ?_<;>intro hq|refine vz ?_|simp -implicitDefEqProofs only [go_sem,q1,q2,q3,q4,q5,q6,hLb,hLe,zb,ze,ba_list,e2,kA,cA,iA',kB,cB,iB,kE,cE,iE]); exact ret_bool (by simp))
   | true=>
    cases le with
    | false=>
     (repeat' first|refine vw ?_ ?_<;>intro hq|refine vz ?_|simp -implicitDefEqProofs only [go_sem,q1,q2,q3,q4,q5,q6,hLb,hLe,zb,ze,ba_list,e2,kA,cA,iA',kB,cB,iB,kE,cE,iE])
     refine (hFb _).use ?_
     cases formedSs nameB body with
     | false=>((repeat' first|refine vw ?_ ?_<;>intro hq|refine vz ?_|simp -implicitDefEqProofs only [go_sem,q1,q2,q3,q4,q5,q6,hLb,hLe,zb,ze,ba_list,e2,kA,cA,iA',kB,cB,iB,kE,cE,iE]); exact ret_bool (by simp))
     | true=>
     (repeat' first|refine vw ?_ ?_<;>intro hq|refine vz ?_|simp -implicitDefEqProofs only [go_sem,q1,q2,q3,q4,q5,q6,hLb,hLe,zb,ze,ba_list,e2,kA,cA,iA',kB,cB,iB,kE,cE,iE])
     refine (hFe _).use ?_
     cases formedSs nameB els with
     | false=>((repeat' first|refine vw ?_ ?_<;>intro hq|refine vz ?_|simp -implicitDefEqProofs only [go_sem,q1,q2,q3,q4,q5,q6,hLb,hLe,zb,ze,ba_list,e2,kA,cA,iA',kB,cB,iB,kE,cE,iE]); exact ret_bool (by simp))
     | true=>((repeat' first|refine vw ?_ ?_<;>intro hq|refine vz ?_|simp -implicitDefEqProofs only [go_sem,q1,q2,q3,q4,q5,q6,hLb,hLe,zb,ze,ba_list,e2,kA,cA,iA',kB,cB,iB,kE,cE,iE]); exact ret_bool (by simp))
    | true=>
     (repeat' first|refine vw ?_ ?_<;>intro hq|refine vz ?_|simp -implicitDefEqProofs only [go_sem,q1,q2,q3,q4,q5,q6,hLb,hLe,zb,ze,ba_list,e2,kA,cA,iA',kB,cB,iB,kE,cE,iE])
     refine (hFb _).use ?_
     cases formedSs nameB body with
     | false=>((repeat' first|refine vw ?_ ?_<;>intro hq|refine vz ?_|simp -implicitDefEqProofs only [go_sem,q1,q2,q3,q4,q5,q6,hLb,hLe,zb,ze,ba_list,e2,kA,cA,iA',kB,cB,iB,kE,cE,iE]); exact ret_bool (by simp))
     | true=>
     (repeat' first|refine vw ?_ ?_<;>intro hq|refine vz ?_|simp -implicitDefEqProofs only [go_sem,q1,q2,q3,q4,q5,q6,hLb,hLe,zb,ze,ba_list,e2,kA,cA,iA',kB,cB,iB,kE,cE,iE])
     refine (hFe _).use ?_
     cases formedSs nameB els with
     | false=>((repeat' first|refine vw ?_ ?_<;>intro hq|refine vz ?_|simp -implicitDefEqProofs only [go_sem,q1,q2,q3,q4,q5,q6,hLb,hLe,zb,ze,ba_list,e2,kA,cA,iA',kB,cB,iB,kE,cE,iE]); exact ret_bool (by simp))
     | true=>((repeat' first|refine vw ?_ ?_<;>intro hq|refine vz ?_|simp -implicitDefEqProofs only [go_sem,q1,q2,q3,q4,q5,q6,hLb,hLe,zb,ze,ba_list,e2,kA,cA,iA',kB,cB,iB,kE,cE,iE]); exact ret_bool (by simp))
  by_cases k4:k=4
  ·subst k4
   rw [if_neg (by omega)]
   have q1:decide ((4:Int)=1)=false:=by decide
   have q2:decide ((4:Int)=2)=false:=by decide
   have q3:decide ((4:Int)=3)=false:=by decide
   have q4:decide ((4:Int)=4)=true:=by decide
   have q5:decide ((1:Int)<=4)=true:=by decide
   have q6:decide ((4:Int)<=5)=true:=by decide
   generalize decide (nm.size=0)=nb at*
   simp -implicitDefEqProofs only [go_sem,q1,q2,q3,q4,q5,q6,hLb,hLe,zb,ze,ba_list,e2,kA,cA,iA',kB,cB,iB,kE,cE,iE]
   refine vzf ?_
   cases nb with
   | false=>((repeat' first|refine vw ?_ ?_<;>intro hq|refine vz ?_|simp -implicitDefEqProofs only [go_sem,q1,q2,q3,q4,q5,q6,hLb,hLe,zb,ze,ba_list,e2,kA,cA,iA',kB,cB,iB,kE,cE,iE]); exact ret_bool (by simp))
   | true=>
   (repeat' first|refine vw ?_ ?_<;>intro hq|refine vz ?_|simp -implicitDefEqProofs only [go_sem,q1,q2,q3,q4,q5,q6,hLb,hLe,zb,ze,ba_list,e2,kA,cA,iA',kB,cB,iB,kE,cE,iE])
   refine (hFv _).use ?_
   cases formedB nameB v with
   | false=>((repeat' first|refine vw ?_ ?_<;>intro hq|refine vz ?_|simp -implicitDefEqProofs only [go_sem,q1,q2,q3,q4,q5,q6,hLb,hLe,zb,ze,ba_list,e2,kA,cA,iA',kB,cB,iB,kE,cE,iE]); exact ret_bool (by simp))
   | true=>
   cases lb with
   | false=>
    cases le with
    | false=>((repeat' first|refine vw ?_ ?_<;>intro hq|refine vz ?_|simp -implicitDefEqProofs only [go_sem,q1,q2,q3,q4,q5,q6,hLb,hLe,zb,ze,ba_list,e2,kA,cA,iA',kB,cB,iB,kE,cE,iE]); exact ret_bool (by simp))
    | true=>
    (repeat' first|refine vw ?_ ?_<;>intro hq|refine vz ?_|simp -implicitDefEqProofs only [go_sem,q1,q2,q3,q4,q5,q6,hLb,hLe,zb,ze,ba_list,e2,kA,cA,iA',kB,cB,iB,kE,cE,iE])
    refine (hFb _).use ?_
    cases formedSs nameB body with
    | false=>((repeat' first|refine vw ?_ ?_<;>intro hq|refine vz ?_|simp -implicitDefEqProofs only [go_sem,q1,q2,q3,q4,q5,q6,hLb,hLe,zb,ze,ba_list,e2,kA,cA,iA',kB,cB,iB,kE,cE,iE]); exact ret_bool (by simp))
    | true=>
    (repeat' first|refine vw ?_ ?_<;>intro hq|refine vz ?_|simp -implicitDefEqProofs only [go_sem,q1,q2,q3,q4,q5,q6,hLb,hLe,zb,ze,ba_list,e2,kA,cA,iA',kB,cB,iB,kE,cE,iE])
    refine (hFe _).use ?_
    cases formedSs nameB els with
    | false=>((repeat' first|refine vw ?_ ?_<;>intro hq|refine vz ?_|simp -implicitDefEqProofs only [go_sem,q1,q2,q3,q4,q5,q6,hLb,hLe,zb,ze,ba_list,e2,kA,cA,iA',kB,cB,iB,kE,cE,iE]); exact ret_bool (by simp))
    | true=>((repeat' first|refine vw ?_ ?_<;>intro hq|refine vz ?_|simp -implicitDefEqProofs only [go_sem,q1,q2,q3,q4,q5,q6,hLb,hLe,zb,ze,ba_list,e2,kA,cA,iA',kB,cB,iB,kE,cE,iE]); exact ret_bool (by simp))
   | true=>
    cases le with
    | false=>((repeat' first|refine vw ?_ ?_<;>intro hq|refine vz ?_|simp -implicitDefEqProofs only [go_sem,q1,q2,q3,q4,q5,q6,hLb,hLe,zb,ze,ba_list,e2,kA,cA,iA',kB,cB,iB,kE,cE,iE]); exact ret_bool (by simp))
    | true=>
    (repeat' first|refine vw ?_ ?_<;>intro hq|refine vz ?_|simp -implicitDefEqProofs only [go_sem,q1,q2,q3,q4,q5,q6,hLb,hLe,zb,ze,ba_list,e2,kA,cA,iA',kB,cB,iB,kE,cE,iE])
    refine (hFb _).use ?_
    cases formedSs nameB body with
    | false=>((repeat' first|refine vw ?_ ?_<;>intro hq|refine vz ?_|simp -implicitDefEqProofs only [go_sem,q1,q2,q3,q4,q5,q6,hLb,hLe,zb,ze,ba_list,e2,kA,cA,iA',kB,cB,iB,kE,cE,iE]); exact ret_bool (by simp))
    | true=>
    (repeat' first|refine vw ?_ ?_<;>intro hq|refine vz ?_|simp -implicitDefEqProofs only [go_sem,q1,q2,q3,q4,q5,q6,hLb,hLe,zb,ze,ba_list,e2,kA,cA,iA',kB,cB,iB,kE,cE,iE])
    refine (hFe _).use ?_
    cases formedSs nameB els with
    | false=>((repeat' first|refine vw ?_ ?_<;>intro hq|refine vz ?_|simp -implicitDefEqProofs only [go_sem,q1,q2,q3,q4,q5,q6,hLb,hLe,zb,ze,ba_list,e2,kA,cA,iA',kB,cB,iB,kE,cE,iE]); exact ret_bool (by simp))
    | true=>((repeat' first|refine vw ?_ ?_<;>intro hq|refine vz ?_|simp -implicitDefEqProofs only [go_sem,q1,q2,q3,q4,q5,q6,hLb,hLe,zb,ze,ba_list,e2,kA,cA,iA',kB,cB,iB,kE,cE,iE]); exact ret_bool (by simp))
  ·obtain rfl:k=5:=by omega
   rw [if_neg (by omega)]
   have q1:decide ((5:Int)=1)=false:=by decide
   have q2:decide ((5:Int)=2)=false:=by decide
   have q3:decide ((5:Int)=3)=false:=by decide
   have q4:decide ((5:Int)=4)=false:=by decide
   have q5:decide ((1:Int)<=5)=true:=by decide
   have q6:decide ((5:Int)<=5)=true:=by decide
   generalize decide (nm.size=0)=nb at*
   simp -implicitDefEqProofs only [go_sem,q1,q2,q3,q4,q5,q6,hLb,hLe,zb,ze,ba_list,e2,kA,cA,iA',kB,cB,iB,kE,cE,iE]
   refine vzf ?_
   cases nb with
   | false=>((repeat' first|refine vw ?_ ?_<;>intro hq|refine vz ?_|simp -implicitDefEqProofs only [go_sem,q1,q2,q3,q4,q5,q6,hLb,hLe,zb,ze,ba_list,e2,kA,cA,iA',kB,cB,iB,kE,cE,iE]); exact ret_bool (by simp))
   | true=>
   (repeat' first|refine vw ?_ ?_<;>intro hq|refine vz ?_|simp -implicitDefEqProofs only [go_sem,q1,q2,q3,q4,q5,q6,hLb,hLe,zb,ze,ba_list,e2,kA,cA,iA',kB,cB,iB,kE,cE,iE])
   refine (hFv _).use ?_
   cases formedB nameB v with
   | false=>((repeat' first|refine vw ?_ ?_<;>intro hq|refine vz ?_|simp -implicitDefEqProofs only [go_sem,q1,q2,q3,q4,q5,q6,hLb,hLe,zb,ze,ba_list,e2,kA,cA,iA',kB,cB,iB,kE,cE,iE]); exact ret_bool (by simp))
   | true=>
   cases lb with
   | false=>((repeat' first|refine vw ?_ ?_<;>intro hq|refine vz ?_|simp -implicitDefEqProofs only [go_sem,q1,q2,q3,q4,q5,q6,hLb,hLe,zb,ze,ba_list,e2,kA,cA,iA',kB,cB,iB,kE,cE,iE]); exact ret_bool (by simp))
   | true=>
   cases le with
   | false=>((repeat' first|refine vw ?_ ?_<;>intro hq|refine vz ?_|simp -implicitDefEqProofs only [go_sem,q1,q2,q3,q4,q5,q6,hLb,hLe,zb,ze,ba_list,e2,kA,cA,iA',kB,cB,iB,kE,cE,iE]); exact ret_bool (by simp))
   | true=>
   (repeat' first|refine vw ?_ ?_<;>intro hq|refine vz ?_|simp -implicitDefEqProofs only [go_sem,q1,q2,q3,q4,q5,q6,hLb,hLe,zb,ze,ba_list,e2,kA,cA,iA',kB,cB,iB,kE,cE,iE])
   refine (hFb _).use ?_
   cases formedSs nameB body with
   | false=>((repeat' first|refine vw ?_ ?_<;>intro hq|refine vz ?_|simp -implicitDefEqProofs only [go_sem,q1,q2,q3,q4,q5,q6,hLb,hLe,zb,ze,ba_list,e2,kA,cA,iA',kB,cB,iB,kE,cE,iE]); exact ret_bool (by simp))
   | true=>
   (repeat' first|refine vw ?_ ?_<;>intro hq|refine vz ?_|simp -implicitDefEqProofs only [go_sem,q1,q2,q3,q4,q5,q6,hLb,hLe,zb,ze,ba_list,e2,kA,cA,iA',kB,cB,iB,kE,cE,iE])
   refine (hFe _).use ?_
   cases formedSs nameB els with
   | false=>((repeat' first|refine vw ?_ ?_<;>intro hq|refine vz ?_|simp -implicitDefEqProofs only [go_sem,q1,q2,q3,q4,q5,q6,hLb,hLe,zb,ze,ba_list,e2,kA,cA,iA',kB,cB,iB,kE,cE,iE]); exact ret_bool (by simp))
   | true=>((repeat' first|refine vw ?_ ?_<;>intro hq|refine vz ?_|simp -implicitDefEqProofs only [go_sem,q1,q2,q3,q4,q5,q6,hLb,hLe,zb,ze,ba_list,e2,kA,cA,iA',kB,cB,iB,kE,cE,iE]); exact ret_bool (by simp))
theorem formedSC:∀ {x:St} {w:WD} {v:AVal},IsSt x v->GivesV (EE w) 102 [v] (.sc (.bool (formedS nameB x)))
 | .mk _ _ _ _ _,_,_,h=>formedSStep h fun y hy _ _ h'=>formedSC (x:=y) h'
termination_by x=>sizeOf x
decreasing_by rcases hy with hy|hy<;>(have:=List.sizeOf_lt_of_mem hy; simp only [St.mk.sizeOf_spec]; omega)
theorem nodesSs_take:∀ {l:List St} {i:Nat} {x:St},l[i]?=some x->nodesSs (l.take (i+1))=nodesSs (l.take i)+nodesS x
  | [],i,x,h=>by simp at h
  | y::l,0,x,h=>by simp at h; subst h; simp [nodesSs]
  | y :: l, i + 1, x, h => by
      have:=nodesSs_take (l:=l) (i:=i) (x:=x) (by simpa using h)
      simp only [List.take_succ_cons,nodesSs] at this ⊢
      omega
theorem depthSs_take:∀ {l:List St} {i:Nat} {x:St},l[i]?=some x->depthSs (l.take (i+1))=max (depthSs (l.take i)) (depthS x)
  | [],i,x,h=>by simp at h
  | y::l,0,x,h=>by simp at h; subst h; simp [depthSs]
  | y :: l, i + 1, x, h => by
      have:=depthSs_take (l:=l) (i:=i) (x:=x) (by simpa using h)
      simp only [List.take_succ_cons,depthSs] at this ⊢
      omega
theorem fewSs_take:∀ {l:List St} {i:Nat} {x:St},l[i]?=some x->fewSs (l.take (i+1))=(fewSs (l.take i) && fewS x)
  | [],i,x,h=>by simp at h
  | y::l,0,x,h=>by simp at h; subst h; simp [fewSs]
  | y :: l, i + 1, x, h => by
      have:=fewSs_take (l:=l) (i:=i) (x:=x) (by simpa using h)
      simp only [List.take_succ_cons,fewSs,Bool.and_assoc] at this ⊢
      rw [this]
theorem nodesSs_le:∀ {l:List St} {i:Nat},nodesSs (l.take i)<=nodesSs l
  | [],i=>by simp
  | y::l,0=>by simp [nodesSs]
  | y :: l, i + 1 => by
      have:=nodesSs_le (l:=l) (i:=i)
      simp only [List.take_succ_cons,nodesSs] at this ⊢
      omega
theorem depthSs_le:∀ {l:List St} {i:Nat},depthSs (l.take i)<=depthSs l
  | [],i=>by simp
  | y::l,0=>by simp [depthSs]
  | y :: l, i + 1 => by
      have:=depthSs_le (l:=l) (i:=i)
      simp only [List.take_succ_cons,depthSs] at this ⊢
      omega
mutual
theorem depth_nodesS:∀ (x:St),depthS x<=nodesS x
 | .mk _ _ v b e=>by have:=depth_nodesE v; have:=nodesE_pos v; have:=depth_nodesSs b; have:=depth_nodesSs e; simp only [depthS,nodesS]; omega
theorem depth_nodesSs:∀ (l:List St),depthSs l<=nodesSs l
 | []=>Nat.le_refl _
 | x::l=>by have:=depth_nodesS x; have:=depth_nodesSs l; simp only [depthSs,nodesSs]; omega
end
theorem nodesS_at {l:List St} {i:Nat} {x:St} (h:l[i]?=some x):nodesS x<=nodesSs l:=by
 have h1:=nodesSs_take h
 have h2:=nodesSs_le (l:=l) (i:=i+1)
 omega
theorem depthS_at {l:List St} {i:Nat} {x:St} (h:l[i]?=some x):depthS x<=depthSs l:=by
 have h1:=depthSs_take h
 have h2:=depthSs_le (l:=l) (i:=i+1)
 omega
theorem IsA.splice8 {e:AVal} (h:IsA 8 e) {a b c d p q r s:AVal}:spliceL [a,b,c,d,p,q,r,s] 0 (AVal.cells e)=AVal.cells e:=by
 obtain ⟨cs,rfl,hl⟩:=h
 match cs,hl with
 | [a,b,c,d,p,q,r,s],_=>rfl
/-- What is summed up when some of the two lists are behind. -/
def aN (v:Ex) (b e:List St) (j:Nat):Nat:=1+nodesE v+(if 0 < j then nodesSs b else 0)+(if 1 < j then nodesSs e else 0)
def aD (v:Ex) (b e:List St) (j:Nat):Nat:=max (1+depthE v) (max (if 0 < j then (if b=[] then 0 else 1+depthSs b) else 0) (if 1 < j then (if e=[] then 0 else 1+depthSs e) else 0))
def aW (v:Ex) (b e:List St) (j:Nat):Bool:=!(fewE v && (if 0 < j then fewSs b else true) && (if 1 < j then fewSs e else true))
theorem stmtSizeStep {k : Int} {nm : ByteArray} {v : Ex} {body els : List St} {w : WD} {z : AVal} (h : IsSt (.mk k nm v body els) z) (hbd : nodesS (.mk k nm v body els) ≤ 1099511627776)
    (rec:∀ y,(y∈body\/y∈els)->∀ (w:WD) (v:AVal),IsSt y v->GivesV (EE w) 124 [v] (mA (nodesS y) (depthS y) (!fewS y))):
    GivesV (EE w) 124 [z] (mA (nodesS (.mk k nm v body els)) (depthS (.mk k nm v body els)) (!fewS (.mk k nm v body els))):=by
  have hwf:=h.wf
  have ccz:=h.cellsOk
  simp only [IsSt] at h
  obtain ⟨SA,SB,SE,ea,eb,ee,rfl,hA,ha,hB,hb,hE,he,h1,h2,h3,h4,h5,h6,h7,h8⟩:=h
  have hvx:=ex_of hA ha h2 h3 h5 h6
  have hn:1+nodesE v+nodesSs body+nodesSs els<=1099511627776:=by simpa [nodesS] using hbd
  have hdv:=depth_nodesE v
  have hdb:=depth_nodesSs body
  have hde:=depth_nodesSs els
  have hZv:=fun w:WD=>expSizeC (w:=w) hvx (by omega)
  have kA:=hA.fit
  have cA:=hA.cells
  have iA':=hA.isCell
  have kB:=hB.fit
  have cB:=hB.cells
  have iB:=hB.isCell
  have kE:=hE.fit
  have cE:=hE.cells
  have iE:=hE.isCell
  refine GivesV.of (fun _=>.sc _) (.cons _ _ hwf .nil) 2 ?_
  refine of_124 rfl rfl rfl (by kernel_rfl) ?_
  simp -implicitDefEqProofs only [go_sem,kA,cA,iA',kB,cB,iB,kE,cE,iE]
  refine (hZv _).use ?_
  simp -implicitDefEqProofs only [go_sem,kA,cA,iA',kB,cB,iB,kE,cE,iE]
  refine (mInC (n1:=1) (d1:=1) (w1:=false) (by rw [AStore.get_set,if_pos ⟨rfl,by simp only [alloc_next,empty_next]; omega⟩]; rfl) (by omega) (by omega) (by omega) (by omega)).mono ?_
  rintro _ σ ⟨rfl,u1,u2,u3⟩
  have hz1:σ.get 1=some (.cells 3 [mA 0 0 false]):=by
    refine u3 1 _ (by omega) ?_
    rw [AStore.get_set,if_neg (by omega),AStore.get_alloc,if_neg (by simp only [alloc_next,empty_next]; omega),AStore.get_alloc]
    rfl
  have hz0:σ.get 0=some (.cells 8 [.agg [(.sc (.int .i64 (k))),.sc (.string nm),(.sc (.int .i64 (v.k))),.sc (.string v.nm),(.sc (.int .i64 (v.i))),SA,SB,SE]]):=by
    refine u3 0 _ (by omega) ?_
    rw [AStore.get_set,if_neg (by omega),AStore.get_alloc,if_neg (by simp only [alloc_next,empty_next]; omega),AStore.get_alloc,if_neg (by simp only [alloc_next,empty_next]; omega),AStore.get_alloc]
    rfl
  have u1':3<=σ.next:=by
    simp only [set_next,alloc_next,empty_next] at u1; omega
  clear u1 u3
  have hi0:aN v body els 0=1+nodesE v:=by simp [aN]
  have hi1:aD v body els 0=max 1 (1+depthE v):=by simp [aD]
  have hi2:aW v body els 0=(false || !fewE v):=by simp [aW]
  rw [<-hi0,<-hi1,<-hi2] at u2
  simp -implicitDefEqProofs only [go_sem,hz0,kB,cB,iB,kE,cE,iE]
  refine vlp (ι:=Nat) (fun j=>[(1,.ptr 0 0 0),(2,.ptr 1 0 0),(3,.ptr 2 0 0),(17,.slice σ.next 0 2),(18,(.sc (.int .i64 ((2:Nat))))),(19,(.sc (.int .i64 (j))))]) (fun j τ=>j<=2/\σ.next < τ.next/\τ.get σ.next=some (.cells 1 [SB,SE])/\τ.get 2=some (.cells 3 [mA (aN v body els j) (aD v body els j) (aW v body els j)])/\τ.get 1=some (.cells 3 [mA 0 0 false])) (fun j=>2 - j) (fun _=>rfl) 0 ?_ ?_ ?_
  · exact vsu
  · refine ⟨by omega,by simp only [alloc_next]; omega,by rw [AStore.get_alloc,if_pos rfl],?_,?_⟩
    · exact get_alloc_old u2
    · exact get_alloc_old hz1
  rintro j τ ⟨hj,hnx,gS,g2,g1⟩
  simp -implicitDefEqProofs only [go_sem]
  (refine vif ?_ ?_<;>intro hjlt)
  · have hj2:j < 2:=by omega
    obtain ⟨L, l, e, hL1, hL2, hl, hlen, hrec, hr, hN⟩ : ∃ L l e, ([SB, SE] : List AVal)[j]? = some L ∧ IsD 8 L e ∧ IsSts l e ∧ e.length ≤ 281474976710656 ∧ (∀ y ∈ l, y ∈ body ∨ y ∈ els) ∧
        (∀ i,aN v body els j+nodesSs (l.take i)<=1099511627776)/\(aN v body els (j+1)=aN v body els j+nodesSs l/\aD v body els (j+1)=(if l=[] then aD v body els j else max (aD v body els j) (1+depthSs l))/\aW v body els (j+1)=(aW v body els j || !fewSs l)):=by
      obtain rfl|rfl:j=0\/j=1:=by omega
      · refine ⟨SB,body,eb,rfl,hB,hb,vom,fun y hy=>.inl hy,?_,?_,?_,?_⟩
        · intro i; have:=nodesSs_le (l:=body) (i:=i); simp [aN]; omega
        · simp [aN]
        · by_cases hbe:body=[]
          · subst hbe; simp [aD]
          · have:=depthE_pos v
            simp [aD,hbe]
        · simp [aW]
      · refine ⟨SE,els,ee,rfl,hE,he,vom,fun y hy=>.inr hy,?_,?_,?_,?_⟩
        · intro i; have:=nodesSs_le (l:=els) (i:=i); simp [aN]; omega
        · simp [aN]
        · by_cases hbe:els=[]
          · subst hbe; simp [aD]
          · simp [aD,hbe]
        · simp [aW]
    obtain ⟨hN1,hN2,hN3⟩:=hN
    have hlL:=hl.len
    have hL:∀ σ:AStore,aLen (.slice 0) L σ=some (.sc (.int .i64 l.length)):=fun σ=>by rw [<-hlL]; exact hL2.len
    have hj0:(0:Int)<=(j:Int):=by omega
    have hw:=wrapS (i:=j) (by omega)
    have cL:=hL2.cells
    have hdl:=depth_nodesSs l
    have hnl:=hr (l.length)
    rw [List.take_length] at hnl
    have hdj:aD v body els j<=1099511627776:=by
      have:aD v body els j<=1+nodesE v+nodesSs body+nodesSs els:=by
        simp only [aD]
        repeat' split
        all_goals omega
      omega
    have hnj:=hr 0
    (repeat' first|refine vw ?_ ?_<;>intro hq|refine vz ?_|simp -implicitDefEqProofs only [go_sem,gS,hj0,hjlt,Int.toNat_natCast,Nat.zero_add,hL1,cL,hL])
    refine vlp (ι:=Nat) (fun i=>[(1,.ptr 0 0 0),(2,.ptr 1 0 0),(3,.ptr 2 0 0),(17,.slice σ.next 0 2),(18,(.sc (.int .i64 ((2:Nat))))),(19,(.sc (.int .i64 (j)))),(23,L),(24,(.sc (.int .i64 (l.length)))),(25,(.sc (.int .i64 (i))))]) (fun i τ=>i<=l.length/\σ.next < τ.next/\τ.get σ.next=some (.cells 1 [SB,SE])/\τ.get 2=some (.cells 3 [mA (aN v body els j+nodesSs (l.take i)) (if i=0 then aD v body els j else max (aD v body els j) (1+depthSs (l.take i))) (aW v body els j || !fewSs (l.take i))])/\τ.get 1=some (.cells 3 [mA 0 0 false])) (fun i=>l.length - i) (fun _=>rfl) 0 ?_ ?_ ?_
    · exact vsu
    · refine ⟨Nat.zero_le _,hnx,gS,?_,g1⟩
      rw [g2,List.take_zero]
      simp [nodesSs,fewSs]
    clear hnx gS g2 g1
    rintro i τ ⟨hi,hnx,gS,g2,g1⟩
    simp -implicitDefEqProofs only [go_sem]
    (refine vif ?_ ?_<;>intro hilt)
    · obtain ⟨x,hx⟩:∃ x,l[i]?=some x:=⟨l[i]'(by omega),by simp⟩
      obtain ⟨y,hy,hxy⟩:=hl.at hx
      obtain ⟨c1,c2,c3⟩:=hxy.isA.facts
      have cc:=hxy.cellsOk
      have hsp:=fun a b c d p q r s=>hxy.isA.splice8 (a:=a) (b:=b) (c:=c) (d:=d) (p:=p) (q:=q) (r:=r) (s:=s)
      have hwi:=wrapS (i:=i) (by omega)
      (repeat' first|refine vw ?_ ?_<;>intro hq|refine vz ?_|simp -implicitDefEqProofs only [go_sem,hL2.idx hy,c1,c2,c3,cc,hsp])
      refine (rec x (hrec x (List.mem_of_getElem? hx)) _ y hxy).use ?_
      have g2':∀ a b,((τ.alloc a).set τ.next b).get 2=some (.cells 3 [mA (aN v body els j+nodesSs (l.take i)) (if i=0 then aD v body els j else max (aD v body els j) (1+depthSs (l.take i))) (aW v body els j || !fewSs (l.take i))]):=by
        intro a b
        rw [AStore.get_set,if_neg (by omega)]
        exact get_alloc_old g2
      have g1':∀ a b,((τ.alloc a).set τ.next b).get 1=some (.cells 3 [mA 0 0 false]):=by
        intro a b
        rw [AStore.get_set,if_neg (by omega)]
        exact get_alloc_old g1
      have gS':∀ a b,((τ.alloc a).set τ.next b).get σ.next=some (.cells 1 [SB,SE]):=by
        intro a b
        rw [AStore.get_set,if_neg (by omega)]
        exact get_alloc_old gS
      have hn1:=nodesS_at hx
      have hd1:=depthS_at hx
      have hn2:=nodesSs_le (l:=l) (i:=i)
      have hd2:=depthSs_le (l:=l) (i:=i)
      have hri:=hr i
      have hdx:=depth_nodesS x
      simp -implicitDefEqProofs only [go_sem]
      refine (mInC (g2' _ _) (by omega) (by omega) (by split<;>omega) (by omega)).mono ?_
      rintro _ τ' ⟨rfl,u1,u2,u3⟩
      (repeat' first|refine vw ?_ ?_<;>intro hq|refine vz ?_|simp -implicitDefEqProofs only [go_sem,hwi])
      refine ⟨i+1,vom,⟨vom,?_,u3 _ _ (by omega) (gS' _ _),?_,u3 1 _ (by omega) (g1' _ _)⟩,?_⟩
      · simp only [set_next,alloc_next] at u1; omega
      · rw [u2,nodesSs_take hx,depthSs_take hx,fewSs_take hx]
        have e1:aN v body els j+nodesSs (l.take i)+nodesS x=aN v body els j+(nodesSs (l.take i)+nodesS x):=by omega
        have e2:max (if i=0 then aD v body els j else max (aD v body els j) (1+depthSs (l.take i))) (1+depthS x)=(if i+1=0 then aD v body els j else max (aD v body els j) (1+max (depthSs (l.take i)) (depthS x))):=by
          rw [if_neg (by omega:¬ i+1=0)]
          by_cases hi0:i=0
          · subst hi0; simp [depthSs]
          · rw [if_neg hi0]; omega
        rw [e1,e2]
        cases aW v body els j<;>cases fewSs (l.take i)<;>cases fewS x<;>rfl
      · exact vsu
    · obtain rfl:i=l.length:=by omega
      rw [List.take_length] at g2
      (repeat' first|refine vw ?_ ?_<;>intro hq|refine vz ?_|simp -implicitDefEqProofs only [go_sem,hw])
      refine ⟨j+1,vom,⟨vom,hnx,gS,?_,g1⟩,?_⟩
      · rw [g2,hN1,hN2,hN3]
        have:(l.length=0)=(l=[]):=by simp
        simp only [this]
      · exact vsu
  · obtain rfl:j=2:=by omega
    have hlt1:=AStore.lt_of_get g1
    have e1:aN v body els 2=nodesS (.mk k nm v body els):=by simp [aN,nodesS]
    have e2:aD v body els 2=depthS (.mk k nm v body els):=by
      have h1:=depthE_pos v
      have hb0:body=[]->depthSs body=0:=by rintro rfl; rfl
      have he0:els=[]->depthSs els=0:=by rintro rfl; rfl
      simp only [aD,depthS]
      by_cases b1:body=[]<;>by_cases b2:els=[]<;>simp [b1,b2,hb0,he0,depthSs]<;>omega
    have e3:aW v body els 2=!fewS (.mk k nm v body els):=by simp [aW,fewS]
    rw [e1,e2,e3] at g2
    (repeat' first|refine vw ?_ ?_<;>intro hq|refine vz ?_|simp -implicitDefEqProofs only [go_sem,g2,g1,mA,hlt1])
    exact ⟨_,rfl,rfl⟩
theorem stmtSizeC:∀ {x:St} {w:WD} {v:AVal},IsSt x v->nodesS x<=1099511627776->GivesV (EE w) 124 [v] (mA (nodesS x) (depthS x) (!fewS x))
  | .mk _ _ v body els, _, _, h, hb => stmtSizeStep h hb fun y hy _ _ h' => stmtSizeC (x := y) h' (by
      have hb:1+nodesE v+nodesSs body+nodesSs els<=1099511627776:=by simpa [nodesS] using hb
      rcases hy with hy|hy
      · obtain ⟨j,hj,rfl⟩:=List.mem_iff_getElem.1 hy
        have:=nodesS_at (List.getElem?_eq_getElem hj)
        omega
      · obtain ⟨j,hj,rfl⟩:=List.mem_iff_getElem.1 hy
        have:=nodesS_at (List.getElem?_eq_getElem hj)
        omega)
termination_by x=>sizeOf x
decreasing_by rcases hy with hy|hy<;>(have:=List.sizeOf_lt_of_mem hy; simp only [St.mk.sizeOf_spec]; omega)
theorem IsFc.isA {f:Fc} {e:AVal} (h:IsFc f e):IsA 3 e:=by
 obtain ⟨SP,SB,eb,rfl,_⟩:=h
 exact ⟨_,rfl,rfl⟩
theorem IsFc.cellsOk {f:Fc} {e:AVal} (h:IsFc f e):(AVal.cells e).all AVal.isCell=true:=by
 obtain ⟨SP,SB,eb,rfl,hP,hB,_⟩:=h
 show ([AVal.sc (.string f.nm),SP,SB].all AVal.isCell)=true
 simp only [List.all_cons,List.all_nil,hP.isCell,hB.isCell,isCell_str,Bool.and_self]
theorem IsA.splice3 {e:AVal} (h:IsA 3 e) {a b c:AVal}:spliceL [a,b,c] 0 (AVal.cells e)=AVal.cells e:=by
 obtain ⟨cs,rfl,hl⟩:=h
 match cs,hl with
 | [a,b,c],_=>rfl
/-- Functions side by side. -/
structure IsFcs (l:List Fc) (els:List AVal):Prop where
 len:els.length=l.length
 at':∀ (j:Nat) f,l[j]?=some f->∃ e,els[j]?=some e/\IsFc f e
theorem IsFcs.all {l:List Fc} {els:List AVal} (h:IsFcs l els) {e:AVal} {j:Nat} (he:els[j]?=some e):∃ x,l[j]?=some x/\IsFc x e:=by
 have hj:j < l.length:=by
  rw [<-h.len]
  rcases Nat.lt_or_ge j els.length with h'|h'
  ·exact h'
  ·rw [List.getElem?_eq_none h'] at he; cases he
 obtain ⟨x,hx⟩:∃ x,l[j]?=some x:=⟨l[j],by simp [hj]⟩
 obtain ⟨e',h1,h2⟩:=h.at' j x hx
 rw [he] at h1; cases h1
 exact ⟨x,hx,h2⟩
theorem IsFcs.wf {l:List Fc} {els:List AVal} (h:IsFcs l els):WFs 0 els:=WFs.of fun e he=>by
 obtain ⟨j,hj,rfl⟩:=List.mem_iff_getElem.1 he
 obtain ⟨x,_,h2⟩:=h.all (List.getElem?_eq_getElem hj)
 exact h2.wf
theorem nodesF_take1 (l:List Fc) {i:Nat} {f:Fc} (h:l[i]?=some f):nodesF (l.take (i+1))=nodesF (l.take i)+nodesSs f.body:=by
 unfold nodesF
 rw [List.take_add_one,h]
 simp
theorem nodesF_le {l:List Fc} {i:Nat}:nodesF (l.take i)<=nodesF l:=by
 unfold nodesF
 induction l generalizing i with
 | nil=>simp
 | cons f l ih=>
  cases i with
  | zero=>simp
  | succ i=>have:=ih (i:=i); simp at this ⊢; omega
def depthF (l:List Fc):Nat:=(l.map fun f=>depthSs f.body).foldr max 0
def fewF (l:List Fc):Bool:=l.all fun f=>fewSs f.body
theorem depthF_app (l m:List Fc):depthF (l++m)=max (depthF l) (depthF m):=by
 induction l with
 | nil=>simp [depthF]
 | cons f l ih=>
  simp only [depthF,List.cons_append,List.map_cons,List.foldr_cons] at ih ⊢
  rw [ih]; omega
theorem depthF_take (l:List Fc) {i:Nat} {f:Fc} (h:l[i]?=some f):depthF (l.take (i+1))=max (depthF (l.take i)) (depthSs f.body):=by
 rw [List.take_add_one,h,Option.toList_some,depthF_app]
 simp [depthF]
theorem depthF_le {l:List Fc} {i:Nat}:depthF (l.take i)<=depthF l:=by
 have:=depthF_app (l.take i) (l.drop i)
 rw [List.take_append_drop] at this
 omega
theorem depthF_nodes (l:List Fc):depthF l<=nodesF l:=by
 unfold depthF nodesF
 induction l with
 | nil=>simp
 | cons f l ih=>
  have:=depth_nodesSs f.body
  simp at ih ⊢; omega
theorem fewF_take (l:List Fc) {i:Nat} {f:Fc} (h:l[i]?=some f):fewF (l.take (i+1))=(fewF (l.take i) && fewSs f.body):=by
 unfold fewF
 rw [List.take_add_one,h]
 simp
theorem depthF_all {l:List Fc} {n:Nat}:depthF l<=n ↔ ∀ f∈l,depthSs f.body<=n:=by
 unfold depthF
 induction l with
 | nil=>simp
 | cons f l ih=>
  simp only [List.map_cons,List.foldr_cons,List.mem_cons,forall_eq_or_imp]
  rw [<-ih]; omega
theorem smallF_eq (l:List Fc):smallF l=((decide (nodesF l<=400) && decide (depthF l<=30) && fewF l) && decide (l.length<=8) && l.all fun f=>decide (f.ps.length<=4)):=by
 unfold smallF fewF
 rw [Bool.eq_iff_iff]
 simp only [Bool.and_eq_true,List.all_eq_true,decide_eq_true_eq,depthF_all]
 constructor
 ·rintro ⟨⟨h1,h2⟩,h3⟩
  exact ⟨⟨⟨⟨h2,fun f hf=>(h1 f hf).1.1⟩,fun f hf=>(h1 f hf).1.2⟩,h3⟩,fun f hf=>(h1 f hf).2⟩
 ·rintro ⟨⟨⟨⟨h2,h4⟩,h5⟩,h3⟩,h6⟩
  exact ⟨⟨fun f hf=>⟨⟨h4 f hf,h5 f hf⟩,h6 f hf⟩,h2⟩,h3⟩
theorem IsD.lenN {sz:Nat} {x:AVal} {els:List AVal} (h:IsD sz x els) {n:Nat} (hn:els.length=n) {σ:AStore}:aLen (.slice 0) x σ=some (.sc (.int .i64 n)):=by rw [<-hn]; exact h.len
theorem smallFuncsC {w:WD} {L:AVal} {els:List AVal} {l:List Fc} (hL:IsD 3 L els) (hl:IsFcs l els) (hlen:els.length<=281474976710656) (hb:nodesF l<=1099511627776):
  GivesV (EE w) 103 [L] (.sc (.bool (smallF l))):=by
 refine GivesV.of (fun _=>.sc _) (.cons _ _ (hL.wf hl.wf) .nil) 1 ?_
 have hll:=hl.len
 have hLn:=fun σ:AStore=>hL.lenN hll (σ:=σ)
 rw [smallF_eq]
 have hdn:=depthF_nodes l
 refine of_103 rfl rfl rfl (by kernel_rfl) ?_
 simp -implicitDefEqProofs only [go_sem,hLn]
 refine vlp (ι:=Nat) (fun i=>[(0,L),(3,.ptr 0 0 0),(9,L),(10,(.sc (.int .i64 (l.length)))),(11,(.sc (.int .i64 (i))))]) (fun i σ=>i<=l.length/\1<=σ.next/\σ.get 0=some (.cells 3 [mA (nodesF (l.take i)) (depthF (l.take i)) (!fewF (l.take i))])/\∀ (j:Nat) f,j < i->l[j]?=some f->f.ps.length<=4) (fun i=>l.length - i) (fun _=>rfl) 0 ?_ ?_ ?_
 ·exact vsu
 ·exact ⟨Nat.zero_le _,by simp only [alloc_next]; omega,by rw [AStore.get_alloc]; rfl,fun j f hj=>by omega⟩
 rintro i σ ⟨hi,hn,h0,hps⟩
 simp -implicitDefEqProofs only [go_sem]
 (refine vif ?_ ?_<;>intro hlt)
 ·obtain ⟨f,hf⟩:∃ f,l[i]?=some f:=⟨l[i]'(by omega),by simp⟩
  obtain ⟨e,he,hfe⟩:=hl.at' i f hf
  obtain ⟨c1,c2,c3⟩:=hfe.isA.facts
  have cc:=hfe.cellsOk
  have hsp:=fun a b c=>hfe.isA.splice3 (a:=a) (b:=b) (c:=c)
  have hw:=wrapS (i:=i) (by omega)
  have hfe':=hfe
  obtain ⟨SP,SB,eb,rfl,hP,hB,hbb,_,_,hp2,hb2⟩:=hfe'
  have hbl:=hbb.len
  have hPn:=fun σ:AStore=>hP.lenN (n:=f.ps.length) (by simp) (σ:=σ)
  have hBn:=fun σ:AStore=>hB.lenN hbl (σ:=σ)
  have kP:=hP.fit
  have cP:=hP.cells
  have iP:=hP.isCell
  have kB:=hB.fit
  have cB:=hB.cells
  have iB:=hB.isCell
  by_cases hp:4 < f.ps.length
  ·have hp':(4:Int) < (f.ps.length:Int):=by omega
   (repeat' first|refine vw ?_ ?_<;>intro hq|refine vz ?_|simp -implicitDefEqProofs only [go_sem,hL.idx he,c1,c2,c3,cc,hsp,hPn,dct hp',cP,cB,iP,iB])
   refine ret_bool ?_
   have:(l.all fun f=>decide (f.ps.length<=4))=false:=by
    rw [List.all_eq_false]
    exact ⟨f,List.mem_of_getElem? hf,by simp; omega⟩
   rw [this,Bool.and_false]
  have hp':¬ (4:Int) < (f.ps.length:Int):=by omega
  have hnf:=nodesF_take1 l hf
  have hnl:=nodesF_le (l:=l) (i:=i+1)
  have hdf:=depthF_le (l:=l) (i:=i)
  have hdb:=depth_nodesSs f.body
  (repeat' first|refine vw ?_ ?_<;>intro hq|refine vz ?_|simp -implicitDefEqProofs only [go_sem,hL.idx he,c1,c2,c3,cc,hsp,hPn,hBn,dcf hp',cP,cB,iP,iB])
  refine vlp (ι:=Nat) (fun j=>[(0,L),(3,.ptr 0 0 0),(9,L),(10,(.sc (.int .i64 (l.length)))),(11,(.sc (.int .i64 (i)))),(20,SB),(21,(.sc (.int .i64 (f.body.length)))),(22,(.sc (.int .i64 (j))))]) (fun j σ=>j<=f.body.length/\1<=σ.next/\σ.get 0=some (.cells 3 [mA (nodesF (l.take i)+nodesSs (f.body.take j)) (max (depthF (l.take i)) (depthSs (f.body.take j))) (!fewF (l.take i) || !fewSs (f.body.take j))])) (fun j=>f.body.length - j) (fun _=>rfl) 0 ?_ ?_ ?_
  ·exact vsu
  ·refine ⟨Nat.zero_le _,by simp only [set_next,alloc_next]; omega,?_⟩
   rw [AStore.get_set,if_neg (by omega)]
   refine (get_alloc_old h0).trans ?_
   simp [nodesSs,depthSs,fewSs]
  clear h0 hn
  rintro j σ ⟨hj,hn,h0⟩
  simp -implicitDefEqProofs only [go_sem]
  (refine vif ?_ ?_<;>intro hjlt)
  ·obtain ⟨x,hx⟩:∃ x,f.body[j]?=some x:=⟨f.body[j]'(by omega),by simp⟩
   obtain ⟨y,hy,hxy⟩:=hbb.at hx
   obtain ⟨d1,d2,d3⟩:=hxy.isA.facts
   have dc:=hxy.cellsOk
   have dsp:=fun a b c d p q r s=>hxy.isA.splice8 (a:=a) (b:=b) (c:=c) (d:=d) (p:=p) (q:=q) (r:=r) (s:=s)
   have hwj:=wrapS (i:=j) (by omega)
   have hn1:=nodesS_at hx
   have hn2:=nodesSs_le (l:=f.body) (i:=j)
   have hn3:=nodesSs_take hx
   have hn4:=nodesSs_le (l:=f.body) (i:=j+1)
   have hdx:=depth_nodesS x
   (repeat' first|refine vw ?_ ?_<;>intro hq|refine vz ?_|simp -implicitDefEqProofs only [go_sem,hB.idx hy,d1,d2,d3,dc,dsp])
   refine (stmtSizeC hxy (by omega)).use ?_
   have n0:¬ (0=σ.next):=by omega
   have n0':¬ (0=σ.next+1):=by omega
   have n1:¬ (σ.next+1=0):=by omega
   have w1:IntKind.i64.wrap (((nodesF (l.take i)+nodesSs (f.body.take j):Nat):Int)+(nodesS x:Int))=((nodesF (l.take i)+nodesSs (f.body.take j)+nodesS x:Nat):Int):=by rw [wrap64 (by omega) (by omega)]; omega
   have hmx:=mx_nat (a:=max (depthF (l.take i)) (depthSs (f.body.take j))) (b:=depthS x)
   have hb3:(!fewF (l.take i) || !fewSs (f.body.take (j+1)))=((!fewF (l.take i) || !fewSs (f.body.take j)) || !fewS x):=by
    rw [fewSs_take hx]
    cases fewF (l.take i)<;>cases fewSs (f.body.take j)<;>cases fewS x<;>rfl
   have hd3:max (depthF (l.take i)) (depthSs (f.body.take (j+1)))=max (max (depthF (l.take i)) (depthSs (f.body.take j))) (depthS x):=by rw [depthSs_take hx]; omega
   generalize (!fewF (l.take i) || !fewSs (f.body.take j))=b1 at*
   have z1:0 < σ.next+1+1:=by omega
   have z2:σ.next < σ.next+1+1:=by omega
   have z3:σ.next+1 < σ.next+1+1:=by omega
   have z4:¬ (σ.next+1=σ.next):=by omega
   have z5:¬ (σ.next=0):=by omega
   (repeat' first|refine vw ?_ ?_<;>intro hq|refine vz ?_|simp -implicitDefEqProofs only [go_sem,mA])
   ((try (refine Z_seq ?_; (try simp -implicitDefEqProofs only [go_sem]))); refine Z_draw (by kernel_rfl) [0,1,2,3,4,5,6,7,8,9,10,11,12,13,14,15,16,17,18,19,20,21] [(21,2097151),(20,1048575),(19,466943),(18,204799),(17,72831),(16,3199),(15,31744),(14,15360),(13,7168),(12,3072),(11,1024),(10,0),(9,480),(8,128),(7,0),(6,32),(5,0),(4,15),(3,4),(2,0),(1,1),(0,0)] (by kernel_rfl) (by kernel_rfl) ?_)
   cases b1 with
   | true=>
    simp -implicitDefEqProofs only [go_sem,mA,h0,n0,n0',n1,w1,hmx,z1,z2,z3,z4,z5]
    (repeat' first|refine vw ?_ ?_<;>intro hq|refine vz ?_|simp -implicitDefEqProofs only [go_sem,hwj])
    refine ⟨j+1,vom,⟨vom,?_,?_⟩,?_⟩
    ·simp only [set_next,alloc_next]; omega
    ·rw [AStore.get_set,if_pos ⟨rfl,by simp only [set_next,alloc_next]; omega⟩,hb3,hd3,hn3,<-Nat.add_assoc]
     rfl
    ·exact vsu
   | false=>
    simp -implicitDefEqProofs only [go_sem,mA,h0,n0,n0',n1,w1,hmx,z1,z2,z3,z4,z5]
    (repeat' first|refine vw ?_ ?_<;>intro hq|refine vz ?_|simp -implicitDefEqProofs only [go_sem,hwj])
    refine ⟨j+1,vom,⟨vom,?_,?_⟩,?_⟩
    ·simp only [set_next,alloc_next]; omega
    ·rw [AStore.get_set,if_pos ⟨rfl,by simp only [set_next,alloc_next]; omega⟩,hb3,hd3,hn3,<-Nat.add_assoc]
     rfl
    ·exact vsu
  ·obtain rfl:j=f.body.length:=by omega
   rw [List.take_length] at h0
   (repeat' first|refine vw ?_ ?_<;>intro hq|refine vz ?_|simp -implicitDefEqProofs only [go_sem,hw])
   refine ⟨i+1,vom,⟨vom,hn,?_,?_⟩,?_⟩
   ·rw [h0,hnf,depthF_take l hf,fewF_take l hf,Bool.not_and]
   ·intro j g hj hg
    rcases Nat.lt_or_ge j i with h'|h'
    ·exact hps j g h' hg
    ·obtain rfl:j=i:=by omega
     rw [hf] at hg; cases hg; omega
   ·exact vsu
 ·obtain rfl:i=l.length:=by omega
  rw [List.take_length] at h0
  have hs:=smallC (w:=⟨w.w,[]⟩) (n:=nodesF l) (d:=depthF l) (b:=!fewF l)
  simp only [mA,Bool.not_not] at hs
  (repeat' first|refine vw ?_ ?_<;>intro hq|refine vz ?_|simp -implicitDefEqProofs only [go_sem,h0,mA])
  refine hs.use ?_
  have ha:(l.all fun f=>decide (f.ps.length<=4))=true:=by
   rw [List.all_eq_true]
   intro f hf
   obtain ⟨j,hj,rfl⟩:=List.mem_iff_getElem.1 hf
   exact dct (hps j _ hj (List.getElem?_eq_getElem hj))
  rw [ha,Bool.and_true]
  have hc:decide ((l.length:Int)<=8)=decide (l.length<=8):=decide_eq_decide.mpr (by omega)
  cases (decide (nodesF l<=400) && decide (depthF l<=30) && fewF l) with
  | false=>
   (repeat' first|refine vw ?_ ?_<;>intro hq|refine vz ?_|simp -implicitDefEqProofs only [go_sem])
   exact ret_bool rfl
  | true=>
   simp -implicitDefEqProofs only [go_sem,hLn,hc]
   exact ret_bool (by simp)
theorem checkN1C {w:WD} (s:ByteArray):GivesV (EE w) 99 [sA s] (.sc (.bool (!nameB s))):=by
 refine GivesV.of (fun _=>.sc _) (.cons _ _ (.sc _) .nil) 1 ?_
 refine of_99 rfl rfl rfl (by kernel_rfl) ?_
 simp -implicitDefEqProofs only [go_sem]
 refine (nameC s).use ?_
 (repeat' first|refine vw ?_ ?_<;>intro hq|refine vz ?_|simp -implicitDefEqProofs only [go_sem])
 exact ret_bool rfl
theorem any_not {l:List ByteArray}:l.any (fun s=>!nameB s)=!l.all nameB:=by
 rw [<-List.not_all_eq_any_not]
theorem checkFuncsC {w:WD} {L:AVal} {els:List AVal} {l:List Fc} (hL:IsD 3 L els) (hl:IsFcs l els) (hlen:els.length<=281474976710656) (hb:nodesF l<=1099511627776):
  GivesV (EE w) 79 [L] (.sc (.int .i64 (checkF nameB l))):=by
 have hS:=fun w:WD=>smallFuncsC (w:=w) hL hl hlen hb
 refine GivesV.of (fun _=>.sc _) (.cons _ _ (hL.wf hl.wf) .nil) 1 ?_
 have hll:=hl.len
 have hLn:=fun σ:AStore=>hL.lenN hll (σ:=σ)
 refine of_79 rfl rfl rfl (by kernel_rfl) ?_
 simp -implicitDefEqProofs only [go_sem,hLn]
 refine vlp (ι:=Nat) (fun i=>[(0,L),(5,L),(6,(.sc (.int .i64 (l.length)))),(7,(.sc (.int .i64 (i))))]) (fun i σ=>i<=l.length/\∀ (j:Nat) f,j < i->l[j]?=some f->formedF nameB f=true) (fun i=>l.length - i) (fun _=>rfl) 0 ?_ ?_ ?_
 ·exact vsu
 ·exact ⟨Nat.zero_le _,fun j f hj=>by omega⟩
 rintro i σ ⟨hi,hok⟩
 simp -implicitDefEqProofs only [go_sem]
 (refine vif ?_ ?_<;>intro hlt)
 ·obtain ⟨f,hf⟩:∃ f,l[i]?=some f:=⟨l[i]'(by omega),by simp⟩
  obtain ⟨e,he,hfe⟩:=hl.at' i f hf
  obtain ⟨c1,c2,c3⟩:=hfe.isA.facts
  have cc:=hfe.cellsOk
  have hsp:=fun a b c=>hfe.isA.splice3 (a:=a) (b:=b) (c:=c)
  have hw:=wrapS (i:=i) (by omega)
  have hfe':=hfe
  obtain ⟨SP,SB,eb,rfl,hP,hB,hbb,_,_,hp2,hb2⟩:=hfe'
  have cP:=hP.cells
  have iP:=hP.isCell
  have cB:=hB.cells
  have iB:=hB.isCell
  have bad:formedF nameB f=false->(l.all (formedF nameB))=false:=fun h=>by
   rw [List.all_eq_false]
   exact ⟨f,List.mem_of_getElem? hf,by simp [h]⟩
  have hbody:∀ (w:WD) (j:Nat) e,eb[j]?=some e->GivesV (EE w) 101 [e] (.sc (.bool (match f.body[j]? with|some x=>!formedS nameB x|none=>false))):=by
   intro w j e hj
   obtain ⟨x,hx,hxe⟩:=hbb.all hj
   rw [hx]
   exact formedS2C hxe fun w=>formedSC hxe
  have hFb:=containsFSC (w:=⟨w.w,[]⟩) hB (by omega) hbb.isA hbb.wf (g:=101) (fun w=>by kernel_rfl) _ hbody
  have eb1:decide (∃ j,j < eb.length/\(match f.body[j]? with|some x=>!formedS nameB x|none=>false)=true)=!formedSs nameB f.body:=by rw [formedSs_at,hbb.len,Bool.not_not]<;>rfl
  rw [eb1] at hFb
  have hFp:=containsFNC (w:=⟨w.w,[]⟩) hP (by omega) (g:=99) (fun w=>by kernel_rfl) (fun s=>!nameB s) (fun w s=>checkN1C s)
  rw [any_not] at hFp
  clear hbody eb1
  have hff:formedF nameB f=(nameB f.nm && f.ps.all nameB && formedSs nameB f.body):=rfl
  (repeat' first|refine vw ?_ ?_<;>intro hq|refine vz ?_|simp -implicitDefEqProofs only [go_sem,hL.idx he,c1,c2,c3,cc,hsp,cP,cB,iP,iB])
  refine (nameC f.nm).use ?_
  cases h1:nameB f.nm with
  | false=>
   (repeat' first|refine vw ?_ ?_<;>intro hq|refine vz ?_|simp -implicitDefEqProofs only [go_sem])
   exact ⟨_,rfl,by unfold checkF; rw [bad (by rw [hff,h1]; rfl)]; rfl⟩
  | true=>
  (repeat' first|refine vw ?_ ?_<;>intro hq|refine vz ?_|simp -implicitDefEqProofs only [go_sem,cP,cB,iP,iB])
  refine hFp.use ?_
  cases h2:f.ps.all nameB with
  | false=>
   (repeat' first|refine vw ?_ ?_<;>intro hq|refine vz ?_|simp -implicitDefEqProofs only [go_sem])
   exact ⟨_,rfl,by unfold checkF; rw [bad (by rw [hff,h1,h2]; rfl)]; rfl⟩
  | true=>
  (repeat' first|refine vw ?_ ?_<;>intro hq|refine vz ?_|simp -implicitDefEqProofs only [go_sem,cP,cB,iP,iB])
  refine hFb.use ?_
  cases h3:formedSs nameB f.body with
  | false=>
   (repeat' first|refine vw ?_ ?_<;>intro hq|refine vz ?_|simp -implicitDefEqProofs only [go_sem])
   exact ⟨_,rfl,by unfold checkF; rw [bad (by rw [hff,h1,h2,h3]; rfl)]; rfl⟩
  | true=>
  (repeat' first|refine vw ?_ ?_<;>intro hq|refine vz ?_|simp -implicitDefEqProofs only [go_sem,hw])
  refine ⟨i+1,vom,⟨vom,?_⟩,?_⟩
  ·intro j g hj hg
   rcases Nat.lt_or_ge j i with h'|h'
   ·exact hok j g h' hg
   ·obtain rfl:j=i:=by omega
    rw [hf] at hg; cases hg
    rw [hff,h1,h2,h3]; rfl
  ·exact vsu
 ·obtain rfl:i=l.length:=by omega
  have ha:l.all (formedF nameB)=true:=by
   rw [List.all_eq_true]
   intro f hf
   obtain ⟨j,hj,rfl⟩:=List.mem_iff_getElem.1 hf
   exact hok j _ hj (List.getElem?_eq_getElem hj)
  (repeat' first|refine vw ?_ ?_<;>intro hq|refine vz ?_|simp -implicitDefEqProofs only [go_sem])
  refine (hS _).use ?_
  unfold checkF
  rw [ha]
  cases smallF l with
  | false=>
   (repeat' first|refine vw ?_ ?_<;>intro hq|refine vz ?_|simp -implicitDefEqProofs only [go_sem])
   exact ⟨_,rfl,rfl⟩
  | true=>
   (repeat' first|refine vw ?_ ?_<;>intro hq|refine vz ?_|simp -implicitDefEqProofs only [go_sem])
   exact ⟨_,rfl,rfl⟩
/-- Old blocks are as they were. -/
def KeepS (σ σ':AStore):Prop:=σ.next<=σ'.next/\∀ b y,σ.get b=some y->σ'.get b=some y
theorem KeepS.refl (σ:AStore):KeepS σ σ:=⟨Nat.le_refl _,fun _ _ h=>h⟩
theorem KeepS.trans {a b c:AStore} (h:KeepS a b) (h':KeepS b c):KeepS a c:=⟨Nat.le_trans h.1 h'.1,fun x y hx=>h'.2 x y (h.2 x y hx)⟩
theorem KeepS.alloc (σ:AStore) (x:ABlk):KeepS σ (σ.alloc x):=⟨by rw [alloc_next]; omega,fun b y h=>get_alloc_old h⟩
theorem KeepS.set {a b:AStore} (h:KeepS a b) {i:Nat} (hi:a.next<=i) (x:ABlk):KeepS a (b.set i x):=
 ⟨by rw [set_next]; exact h.1,fun j y hj=>by
  have:=AStore.lt_of_get hj
  rw [AStore.get_set,if_neg (by omega)]; exact h.2 j y hj⟩
def Nm (m:List (ByteArray×AVal)) (g o:List ByteArray):Prop:=∀ k,(getM m k).map (·.2)=if k∈o then some (.sc (.bool (true))) else if k∈g then some (.sc (.bool (false))) else none
def Cm (q:List (ByteArray×AVal)) (l:List Fc):Prop:=∀ k,(getM q k).map (·.2)=(fcOf l k).map fun f=>(.sc (.int .i64 (f.ps.length)))
structure Sc (σ:AStore) (ps mn mc:Nat) (m q:List (ByteArray×AVal)):Prop where
 p:σ.get ps=some (.cells 2 [.agg [.map mn,.map mc]])
 n:∃ c,σ.get mn=some (.map (strM m) c)
 c:∃ c,σ.get mc=some (.map (strM q) c)
 ne:mn≠mc
theorem Sc.keep {σ σ':AStore} {ps mn mc:Nat} {m q:List (ByteArray×AVal)} (h:Sc σ ps mn mc m q) (hk:KeepS σ σ'):Sc σ' ps mn mc m q:=by
 obtain ⟨p,⟨c1,n⟩,⟨c2,c⟩,ne⟩:=h
 exact ⟨hk.2 _ _ p,⟨c1,hk.2 _ _ n⟩,⟨c2,hk.2 _ _ c⟩,ne⟩
theorem lk_strS {σ:AStore} {z:Value} {b:Nat} {k:Value} {ok:Bool}:aLookup .string z ok (.map b) (.sc k) σ=lkAt .string z ok k (σ.get b):=aLookup_map rfl
theorem lk_at {z:Value} {m:List (ByteArray×AVal)} {c:Nat} {k:ByteArray}:lkAt .string z true (.string k) (some (.map (strM m) c))=some (lkOut true z ((getM m k).map (·.2))):=by
 rw [lkAt_map,aFind_str]
 cases getM m k with
 | none=>rfl
 | some q=>rfl
theorem lk_nm {m:List (ByteArray×AVal)} {g o:List ByteArray} (h:Nm m g o) {c:Nat} {k:ByteArray}:lkAt .string (.bool false) true (.string k) (some (.map (strM m) c))=some (.tuple [(.sc (.bool (decide (k∈o)))),(.sc (.bool (decide (k∈g\/k∈o))))]):=by
 rw [lk_at,h k]
 by_cases h1:k∈o
 ·simp [h1,lkOut]
 ·by_cases h2:k∈g
  ·simp [h1,h2,lkOut]
  ·simp [h1,h2,lkOut,absV]
theorem lk_cm {q:List (ByteArray×AVal)} {l:List Fc} (h:Cm q l) {c:Nat} {k:ByteArray}:lkAt .string (.int .i64 0) true (.string k) (some (.map (strM q) c))=some (.tuple [(.sc (.int .i64 ((match fcOf l k with|some f=>(f.ps.length:Int)|none=>0)))),(.sc (.bool ((fcOf l k).isSome)))]):=by
 rw [lk_at,h k]
 cases fcOf l k<;>rfl
theorem expEs_eq {g o:List ByteArray} {l:List Fc}:∀ {xs:List Ex} {i:Nat} {x:Ex},xs[i]?=some x->expEs g o l (xs.take i)=0->expE g o l x≠0->expEs g o l xs=expE g o l x
  | [],i,x,h,_,_=>by simp at h
  | y :: xs, 0, x, h, _, hne => by
      simp at h; subst h
      unfold expEs
      split
      · rename_i h0; exact absurd h0 hne
      · rfl
  | y :: xs, i + 1, x, h, h0, hne => by
      simp only [List.take_succ_cons] at h0
      unfold expEs at h0 ⊢
      split at h0
      · exact expEs_eq (by simpa using h) h0 hne
      · rename_i hh; exact absurd h0 hh
theorem expEs_take {g o:List ByteArray} {l:List Fc}:∀ {xs:List Ex} {i:Nat} {x:Ex},xs[i]?=some x->expEs g o l (xs.take i)=0->expE g o l x=0->expEs g o l (xs.take (i+1))=0
  | [],i,x,h,_,_=>by simp at h
  | y :: xs, 0, x, h, _, h0 => by
      simp at h; subst h
      simp [expEs,h0]
  | y :: xs, i + 1, x, h, h1, h0 => by
      simp only [List.take_succ_cons] at h1 ⊢
      unfold expEs at h1 ⊢
      split at h1
      · exact expEs_take (by simpa using h) h1 h0
      · rename_i hh; exact absurd h1 hh
theorem expE_mk {g o : List ByteArray} {l : List Fc} {k i : Int} {nm : ByteArray} {xs : List Ex} : expE g o l (.mk k nm i xs) = if expEs g o l xs = 0 then (if k = 2 then (if nm ∈ g ∨ nm ∈ o then 0 else 90)
      else if k=19 then (match fcOf l nm with
        | none=>90
        | some f=>if f.ps.length=xs.length then 0 else 91)
      else 0) else expEs g o l xs:=by
  unfold expE
  by_cases h:expEs g o l xs=0
  · rw [if_pos h,h]; rfl
  · rw [if_neg h]
    split
    · rename_i hh; exact absurd hh h
    · rfl
theorem tExpStep {k i:Int} {nm:ByteArray} {xs:List Ex} {w:WD} {v:AVal} {g o:List ByteArray} {l:List Fc} (h:IsEx (.mk k nm i xs) v)
  (rec:∀ y∈xs,∀ (w:WD) (v:AVal) (σ:AStore) (ps mn mc:Nat) (m q:List (ByteArray×AVal)),IsEx y v->Sc σ ps mn mc m q->Nm m g o->Cm q l->ACalls (EE w) 55 [.ptr ps 0 0,v] σ fun e σ'=>e=.ret (.sc (.int .i64 (expE g o l y)))/\KeepS σ σ')
  {σ:AStore} {ps mn mc:Nat} {m q:List (ByteArray×AVal)} (hs:Sc σ ps mn mc m q) (hm:Nm m g o) (hq:Cm q l):
  ACalls (EE w) 55 [.ptr ps 0 0,v] σ fun e σ'=>e=.ret (.sc (.int .i64 (expE g o l (.mk k nm i xs))))/\KeepS σ σ':=by
 simp only [IsEx] at h
 obtain ⟨S,els,rfl,hS,hx,hk,hi,hn,hl⟩:=h
 have hlen:=hx.len
 have hSn:=fun σ:AStore=>hS.lenN hlen (σ:=σ)
 have kS:=hS.fit
 have cS:=hS.cells
 have iS:=hS.isCell
 obtain ⟨p1,⟨n1,p2⟩,⟨n2,p3⟩,pne⟩:=hs
 have b1:=AStore.lt_of_get p1
 have b2:=AStore.lt_of_get p2
 have b3:=AStore.lt_of_get p3
 refine of_55 rfl rfl rfl (by kernel_rfl) ?_
 simp -implicitDefEqProofs only [go_sem,kS,cS,iS,hSn]
 refine vlp (ι:=Nat) (fun j=>[(0,.ptr ps 0 0),(3,.ptr σ.next 0 0),(13,S),(14,(.sc (.int .i64 (xs.length)))),(15,(.sc (.int .i64 (j))))]) (fun j τ=>j<=xs.length/\KeepS σ τ/\τ.get σ.next=some (.cells 4 [.agg [(.sc (.int .i64 (k))),.sc (.string nm),(.sc (.int .i64 (i))),S]])/\expEs g o l (xs.take j)=0) (fun j=>xs.length - j) (fun _=>rfl) 0 ?_ ?_ ?_
 ·exact vsu
 ·exact ⟨Nat.zero_le _,KeepS.alloc _ _,by rw [AStore.get_alloc,if_pos rfl],by simp [expEs]⟩
 rintro j τ ⟨hj,hkp,hg,h0⟩
 simp -implicitDefEqProofs only [go_sem]
 (refine vif ?_ ?_<;>intro hlt)
 ·obtain ⟨x,hx1⟩:∃ x,xs[j]?=some x:=⟨xs[j]'(by omega),by simp⟩
  obtain ⟨e,he,hxe⟩:=hx.at hx1
  obtain ⟨c1,c2,c3⟩:=hxe.isA.facts
  have cc:=hxe.cellsOk
  have hsp:=fun a b c d=>hxe.splice (a:=a) (b:=b) (c:=c) (d:=d)
  have hw:=wrapS (i:=j) (by omega)
  (repeat' first|refine vw ?_ ?_<;>intro hq|refine vz ?_|simp -implicitDefEqProofs only [go_sem,hS.idx he,c1,c2,c3,cc,hsp])
  have hk2:∀ a b,KeepS σ ((τ.alloc a).set τ.next b):=fun a b=>(hkp.trans (KeepS.alloc τ a)).set (by have:=hkp.1; omega) b
  have hk3:∀ a b,KeepS τ ((τ.alloc a).set τ.next b):=fun a b=>(KeepS.alloc τ a).set (Nat.le_refl _) b
  refine (rec x (List.mem_of_getElem? hx1) _ e _ ps mn mc m q hxe ((⟨p1,⟨n1,p2⟩,⟨n2,p3⟩,pne⟩:Sc σ ps mn mc m q).keep (hk2 _ _)) hm hq).mono ?_
  rintro _ τ' ⟨rfl,hk4⟩
  by_cases h5:expE g o l x=0
  ·(repeat' first|refine vw ?_ ?_<;>intro hq|refine vz ?_|simp -implicitDefEqProofs only [go_sem,dct h5,hw])
   exact ⟨j+1,vom,⟨vom,(hk2 _ _).trans hk4,hk4.2 _ _ ((hk3 _ _).2 _ _ hg),expEs_take hx1 h0 h5⟩,vsu⟩
  ·(repeat' first|refine vw ?_ ?_<;>intro hq|refine vz ?_|simp -implicitDefEqProofs only [go_sem,dcf h5])
   refine ⟨?_,(hk2 _ _).trans hk4⟩
   have:=expEs_eq hx1 h0 h5
   rw [expE_mk,this,if_neg h5]
 ·obtain rfl:j=xs.length:=by omega
  rw [List.take_length] at h0
  have q1:=hkp.2 _ _ p1
  have q2:=hkp.2 _ _ p2
  have q3:=hkp.2 _ _ p3
  have hu:expE g o l (.mk k nm i xs)=if k=2 then (if nm∈g\/nm∈o then 0 else 90)
   else if k=19 then (match fcOf l nm with
    | none=>90
    | some f=>if f.ps.length=xs.length then 0 else 91)
   else 0:=by
   rw [expE_mk,if_pos h0]
  rw [hu]
  by_cases k2:k=2
  ·rw [if_pos k2]
   (repeat' first|refine vw ?_ ?_<;>intro hq|refine vz ?_|simp -implicitDefEqProofs only [go_sem,hg,dct k2])
   ((try (refine Z_seq ?_; (try simp -implicitDefEqProofs only [go_sem]))); refine Z_draw (by kernel_rfl) [0,1,2,3,4,5,6,7,8,9,10,11] [(11,2047),(10,511),(9,255),(8,255),(7,127),(6,63),(5,16),(4,0),(3,7),(2,3),(1,1),(0,0)] (by kernel_rfl) (by kernel_rfl) ?_)
   simp -implicitDefEqProofs only [go_sem,hg,q1,q2,lk_strS,lk_nm hm]
   by_cases h6:nm∈g\/nm∈o
   ·rw [if_pos h6]
    (try simp -implicitDefEqProofs only [go_sem,dct h6])
    (repeat' first|refine vw ?_ ?_<;>intro hq|refine vz ?_|simp -implicitDefEqProofs only [go_sem,dct h6])
    exact hkp
   ·rw [if_neg h6]
    (try simp -implicitDefEqProofs only [go_sem,dcf h6])
    (repeat' first|refine vw ?_ ?_<;>intro hq|refine vz ?_|simp -implicitDefEqProofs only [go_sem,dcf h6])
    exact hkp
  ·rw [if_neg k2]
   by_cases k3:k=19
   ·rw [if_pos k3]
    (repeat' first|refine vw ?_ ?_<;>intro hq|refine vz ?_|simp -implicitDefEqProofs only [go_sem,hg,dcf k2,dct k3])
    ((try (refine Z_seq ?_; (try simp -implicitDefEqProofs only [go_sem]))); refine Z_draw (by kernel_rfl) [0,1,2,3,4,5,6,7,8,9,10,11] [(11,2047),(10,511),(9,255),(8,255),(7,127),(6,63),(5,16),(4,0),(3,7),(2,3),(1,1),(0,0)] (by kernel_rfl) (by kernel_rfl) ?_)
    simp -implicitDefEqProofs only [go_sem,hg,q1,q3,lk_strS,lk_cm hq]
    cases hf:fcOf l nm with
    | none=>
     have hn0:(none:Option Fc).isSome=false:=rfl
     (try simp -implicitDefEqProofs only [go_sem,hn0])
     (repeat' first|refine vw ?_ ?_<;>intro hq|refine vz ?_|simp -implicitDefEqProofs only [go_sem,hn0])
     exact hkp
    | some f=>
     have hn0:(some f:Option Fc).isSome=true:=rfl
     by_cases h7:f.ps.length=xs.length
     ·have h7':(f.ps.length:Int)=(xs.length:Int):=by omega
      (try simp -implicitDefEqProofs only [go_sem,hn0,hg,hSn,dct h7'])
      (repeat' first|refine vw ?_ ?_<;>intro hq|refine vz ?_|simp -implicitDefEqProofs only [go_sem,hn0,hg,hSn,dct h7'])
      exact ⟨by rw [if_pos h7],hkp⟩
     ·have h7':¬ (f.ps.length:Int)=(xs.length:Int):=by omega
      (try simp -implicitDefEqProofs only [go_sem,hn0,hg,hSn,dcf h7'])
      (repeat' first|refine vw ?_ ?_<;>intro hq|refine vz ?_|simp -implicitDefEqProofs only [go_sem,hn0,hg,hSn,dcf h7'])
      exact ⟨by rw [if_neg h7],hkp⟩
   ·rw [if_neg k3]
    (repeat' first|refine vw ?_ ?_<;>intro hq|refine vz ?_|simp -implicitDefEqProofs only [go_sem,hg,dcf k2,dcf k3])
    exact hkp
theorem tExpC {g o:List ByteArray} {l:List Fc}:∀ {x:Ex} {w:WD} {v:AVal} {σ:AStore} {ps mn mc:Nat} {m q:List (ByteArray×AVal)},IsEx x v->Sc σ ps mn mc m q->Nm m g o->Cm q l->
  ACalls (EE w) 55 [.ptr ps 0 0,v] σ fun e σ'=>e=.ret (.sc (.int .i64 (expE g o l x)))/\KeepS σ σ'
 | .mk _ _ _ xs,_,_,_,_,_,_,_,_,h,hs,hm,hq=>tExpStep h (fun y hy _ _ _ _ _ _ _ _ h1 h2 h3 h4=>tExpC (x:=y) h1 h2 h3 h4) hs hm hq
termination_by x=>sizeOf x
decreasing_by have:=List.sizeOf_lt_of_mem hy; simp only [Ex.mk.sizeOf_spec]; omega
end Abs
namespace Abs
open Go
section
variable {E:Env} {n:Nat}
theorem ACallsM.unds {ds:List ADef} {f:FuncId} {args:List AVal} {m:Option AVal} {σ:AStore} {R:AEnd->Option AVal->AStore->Prop} (h:ACallsM {E with ds:=ds} f args m σ R):ACallsM E f args m σ R:=by
 intro ι H w args' u hR ha hm
 refine CallsDIn.mono (h ι H w args' u (hR.toDs ds) ha hm) ?_
 rintro e u' w' ⟨ι',H',σ',ae,m',h1,h2,h3,h4,h5⟩
 exact ⟨ι',H',σ',ae,m',h1,h2,h3.unds,h4,h5⟩
theorem aResults_unds {ds:List ADef} {a:AAct} {σ:AStore}:∀ rs:List ResultVar,aResults {E with ds:=ds} rs a σ=aResults E rs a σ
 | []=>rfl
 | .tmp x::rs=>by simp only [aResults,aResults_unds rs]
 | .cell x t::rs=>by simp only [aResults,aResults_unds rs]
theorem ALeaves.unds {fn:Func} {a:AAct} {R:AEnd->AStore->Prop} {ds0:List ADef}:∀ {l:List ADef} {m:Option AVal} {σ:AStore},ALeaves {E with ds:=ds0} fn a R l m σ->ALeaves E fn a R l m σ
  | [],none,σ,h=>by unfold ALeaves at h ⊢; unfold aResult at h ⊢; rw [aResults_unds] at h; exact h
  | [],some v,σ,h=>by unfold ALeaves at h ⊢; exact h
  | d :: l, m, σ, h => by
      unfold ALeaves at h ⊢
      split
      · rename_i b hb
        rw [hb] at h
        exact ⟨h.1,ALeaves.unds h.2⟩
      · rename_i g hg
        rw [hg] at h
        refine ⟨h.1,(ACallsM.unds h.2).mono ?_⟩
        intro e m' σ' hh
        cases e<;>cases m<;>first|exact ALeaves.unds hh|exact hh
      · rename_i x h1 h2
        split at h
        · rename_i b hb; exact absurd hb (h1 b)
        · rename_i b hb; exact absurd hb (h2 b)
        · exact h
theorem aEndD_unds {fn:Func} {R:AEnd->AStore->Prop} {ds0:List ADef} {ex:AExit} {a:AAct} {σ:AStore} (h:aEndD {E with ds:=ds0} fn R ex a σ):aEndD E fn R ex a σ:=by
 cases ex<;>first|exact ALeaves.unds h|exact h
theorem Top_mono {c:Code} {K K':APred} {e:Ev} {σ:AStore} (hk:∀ ex a σ,K ex a σ->K' ex a σ) (h:Top E n c K e σ):Top E n c K' e σ:=fun hc he=>(h hc he).mono hk
/-- One call is deferred; the rest is walked with it. -/
theorem Top_unds {Ed:List ADef->Env} (hEd:∀ ds,{E with ds:=ds}=Ed ds) {d:ADef} {fn:Func} {rs:List ResultVar} (hr:fn.results.toList=rs) {g:FuncId} {cap as':List AVal} (hd:d=⟨.func g,cap,as'⟩) (h0:E.ds=[]) (hfn:E.fns g=true) {R:AEnd->AStore->Prop} {c:Code} {e:Ev} {σ:AStore}
  (h:Z (Ed (d::E.ds)) n c (vFinD (Ed (d::E.ds)) rs g (as'++cap) R) e σ):Top (Ed (d::E.ds)) n c (aEndD E fn R) e σ:=by
 subst hd
 rw [<-hEd] at h ⊢
 refine Top_mono (fun ex a σ h=>aEndD_unds (ds0:=⟨.func g,cap,as'⟩::E.ds) h) ?_
 refine Top_fin1 (E:={E with ds:=⟨.func g,cap,as'⟩::E.ds}) hr (g:=g) ?_ hfn h
 show _::E.ds=_
 rw [h0]
end
end Abs
namespace Abs
open Go
section
variable {E:Env} {n:Nat}
/-- One call that recovers is deferred; the rest is walked with it. -/
theorem Top_undsR {Ed:List ADef->Env} (hEd:∀ ds,{E with ds:=ds}=Ed ds) {d:ADef} {fn:Func} {rs:List ResultVar} (hr:fn.results.toList=rs) {g:FuncId} {cap as':List AVal} (hd:d=⟨.func g,cap,as'⟩) (h0:E.ds=[]) (hfn:E.fns g=true) {R:AEnd->AStore->Prop} {c:Code} {e:Ev} {σ:AStore}
  (h:Z (Ed (d::E.ds)) n c (vFinR (Ed (d::E.ds)) rs g (as'++cap) R) e σ):Top (Ed (d::E.ds)) n c (aEndD E fn R) e σ:=by
 subst hd
 rw [<-hEd] at h ⊢
 refine Top_mono (fun ex a σ h=>aEndD_unds (ds0:=⟨.func g,cap,as'⟩::E.ds) h) ?_
 refine Top_finR (E:={E with ds:=⟨.func g,cap,as'⟩::E.ds}) hr (g:=g) ?_ hfn h
 show _::E.ds=_
 rw [h0]
end
theorem getM_append {a b:List (ByteArray×AVal)} {k:ByteArray}:getM (a++b) k=match getM a k with|some q=>some q|none=>(getM b k).map fun q=>(a.length+q.1,q.2):=by
 induction a with
 | nil=>
  show getM b k=(getM b k).map fun q=>(0+q.1,q.2)
  cases getM b k<;>simp
 | cons p a ih=>
  simp only [List.cons_append,getM]
  by_cases h:p.1=k
  ·simp [h]
  ·simp only [h,if_false,ih]
   cases getM a k with
   | some q=>rfl
   | none=>
    cases getM b k with
    | none=>rfl
    | some q=>simp; omega
theorem strM_append {a b:List (ByteArray×AVal)}:strM (a++b)=strM a++strM b:=List.map_append ..
theorem strM_length {a:List (ByteArray×AVal)}:(strM a).length=a.length:=List.length_map ..
def mkM (m:List (ByteArray×AVal)) (made:List ByteArray):List (ByteArray×AVal):=m++made.map fun k=>(k,(.sc (.bool (true))))
theorem mkM_snoc {m:List (ByteArray×AVal)} {made:List ByteArray} {k:ByteArray}:mkM m (made++[k])=mkM m made++[(k,(.sc (.bool (true))))]:=by
 simp [mkM]
theorem Nm.snoc {m:List (ByteArray×AVal)} {g o:List ByteArray} (h:Nm m g o) {k:ByteArray} (hk:¬ (k∈g\/k∈o)):Nm (m++[(k,(.sc (.bool (true))))]) g (o++[k]):=by
 intro j
 rw [getM_append]
 have hj:=h j
 by_cases e:k=j
 ·subst e
  have:getM m k=none:=by
   have h2:k ∉ o:=fun hc=>hk (.inr hc)
   have h3:k ∉ g:=fun hc=>hk (.inl hc)
   rw [if_neg h2,if_neg h3] at hj
   simpa using hj
  rw [this]
  simp [getM]
 ·have hn:(getM [(k,(.sc (.bool (true))))] j)=none:=by simp [getM,e]
  rw [hn]
  have hm:j∈o++[k] ↔ j∈o:=by simp [Ne.symm e]
  cases hg:getM m j with
  | none=>rw [hg] at hj; simpa [hm] using hj
  | some q=>rw [hg] at hj; simpa [hm] using hj
theorem Nm.none {m:List (ByteArray×AVal)} {g o:List ByteArray} (h:Nm m g o) {k:ByteArray} (hk:¬ (k∈g\/k∈o)):getM m k=none:=by
 have hj:=h k
 have h2:k ∉ o:=fun hc=>hk (.inr hc)
 have h3:k ∉ g:=fun hc=>hk (.inl hc)
 rw [if_neg h2,if_neg h3] at hj
 simpa using hj
theorem md_str {σ:AStore} {b:Nat} {k:Value}:aMapDel .string (.map b) (.sc k) σ=mdAt σ b .string k (σ.get b):=aMapDel_map rfl
theorem md_made {σ:AStore} {b c:Nat} {m rest:List (ByteArray×AVal)} {k:ByteArray} {v:AVal} (h:getM m k=none):mdAt σ b .string (.string k) (some (.map (strM (m++(k,v)::rest)) c))=some (σ.set b (.map (strM (m++rest)) c)):=by
 have hg:getM (m++(k,v)::rest) k=some (m.length,v):=by
  rw [getM_append,h]
  simp [getM]
 simp only [mdAt,aFind_str,hg,Option.map_some,Nat.zero_add]
 rw [strM_append,strM_append,<-strM_length (a:=m),List.eraseIdx_append_of_length_le (Nat.le_refl _)]
 simp [strM]
/-- All but one block is as it was. -/
def KeepM (mn:Nat) (σ σ':AStore):Prop:=σ.next<=σ'.next/\∀ b y,b≠mn->σ.get b=some y->σ'.get b=some y
theorem KeepM.refl (mn:Nat) (σ:AStore):KeepM mn σ σ:=⟨Nat.le_refl _,fun _ _ _ h=>h⟩
theorem KeepM.trans {mn:Nat} {a b c:AStore} (h:KeepM mn a b) (h':KeepM mn b c):KeepM mn a c:=⟨Nat.le_trans h.1 h'.1,fun x y hn hx=>h'.2 x y hn (h.2 x y hn hx)⟩
theorem KeepS.m {mn:Nat} {a b:AStore} (h:KeepS a b):KeepM mn a b:=⟨h.1,fun x y _ hx=>h.2 x y hx⟩
theorem KeepM.set {mn:Nat} {a b:AStore} (h:KeepM mn a b) (x:ABlk):KeepM mn a (b.set mn x):=
 ⟨by rw [set_next]; exact h.1,fun j y hn hj=>by rw [AStore.get_set,if_neg (by rintro ⟨rfl,_⟩; exact hn rfl)]; exact h.2 j y hn hj⟩
theorem allDC {w:WD} {σ:AStore} {b5 b2 ps mn mc:Nat} {v:AVal} {made:List ByteArray} {m q:List (ByteArray×AVal)} (h5:σ.get b5=some (.cells 1 [v])) (h2:σ.get b2=some (.cells 1 [.ptr ps 0 0])) (ho:Own σ 1 v (made.map sA)) (hs:Sc σ ps mn mc (mkM m made) q)
  (hn:∀ k∈made,getM m k=none) (hl:made.length<=400) (hne:∀ l,v≠.slice mn 0 l) (hb5:b5≠mn) (hb2:b2≠mn):
  ACallsD (EE w) 125 [.ptr b5 0 0,.ptr b2 0 0] σ fun e σ'=>(∃ r,e=.ret r)/\KeepM mn σ σ'/\∃ c,σ'.get mn=some (.map (strM m) c):=by
 obtain ⟨p1,⟨n1,p2⟩,⟨n2,p3⟩,pne⟩:=hs
 have pnp:ps≠mn:=by rintro rfl; rw [p1] at p2; cases p2
 have hlen:∀ τ:AStore,aLen (.slice 0) v τ=some (.sc (.int .i64 (made.length))):=fun τ=>by rw [ho.len,List.length_map]
 have of:=ho.fit
 have oc:=ho.cells
 have oi:=ho.isCell
 refine od_125 rfl rfl rfl (by decide) ?_
 simp -implicitDefEqProofs only [go_sem,h5,h2,hlen,of,oc,oi]
 refine vlp (ι:=Nat) (fun j=>[(0,.ptr b5 0 0),(1,.ptr b2 0 0),(4,v),(5,(.sc (.int .i64 (made.length)))),(6,(.sc (.int .i64 (j))))]) (fun j τ=>j<=made.length/\KeepM mn σ τ/\∃ c,τ.get mn=some (.map (strM (mkM m (made.drop j))) c)) (fun j=>made.length - j) (fun _=>rfl) 0 ?_ ?_ ?_
 ·exact vsu
 ·exact ⟨Nat.zero_le _,KeepM.refl _ _,n1,p2⟩
 rintro j τ ⟨hj,hkp,c,hg⟩
 simp -implicitDefEqProofs only [go_sem]
 (refine vif ?_ ?_<;>intro hlt)
 ·obtain ⟨bv,rfl,hgv⟩:∃ b,v=.slice b 0 made.length/\σ.get b=some (.cells 1 (made.map sA)):=by
   rcases ho with ⟨h,_⟩|⟨_,b,h,h'⟩
   ·rw [List.map_eq_nil_iff] at h; subst h; exact absurd hlt (by simp)
   ·exact ⟨b,by simpa using h,h'⟩
  have hbv:bv≠mn:=fun h=>hne made.length (by rw [h])
  have q1:=hkp.2 _ _ hbv hgv
  have q2:=hkp.2 _ _ hb2 h2
  have q3:=hkp.2 _ _ pnp p1
  have hw:=wrapS (i:=j) (by omega)
  have hlt':j < made.length:=by omega
  have hx:(made.map sA)[j]?=some (.sc (.string made[j])):=by simp [hlt',sA]
  have hd:made.drop j=made[j]::made.drop (j+1):=by rw [List.drop_eq_getElem_cons hlt']
  have hnn:=hn made[j] (List.getElem_mem hlt')
  have hix:(if 0<=(j:Int)/\(j:Int) < (made.length:Int) then some j else none)=some j:=if_pos ⟨vom,vom⟩
  rw [hd] at hg
  have hmd:∀ c,mdAt τ mn .string (.string made[j]) (some (.map (strM (mkM m (made[j]::made.drop (j+1)))) c))=some (τ.set mn (.map (strM (mkM m (made.drop (j+1)))) c)):=fun c=>md_made hnn
  (repeat' first|refine vw ?_ ?_<;>intro hq|refine vz ?_|simp -implicitDefEqProofs only [go_sem,q1,q2,q3,hix,hx,md_str,hg,hmd,hw])
  refine ⟨j+1,vom,⟨vom,hkp.set _,c,?_⟩,vsu⟩
  rw [AStore.get_set,if_pos ⟨rfl,by have:=hkp.1; have:=AStore.lt_of_get p2; omega⟩]
 ·obtain rfl:j=made.length:=by omega
  (repeat' first|refine vw ?_ ?_<;>intro hq|refine vz ?_|simp -implicitDefEqProofs only [go_sem])
  refine ⟨⟨_,rfl⟩,hkp,c,?_⟩
  rw [hg,List.drop_length]
  simp [mkM]
end Abs
end
