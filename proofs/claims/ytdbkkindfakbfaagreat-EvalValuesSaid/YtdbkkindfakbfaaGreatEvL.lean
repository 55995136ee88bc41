/-
  Functions of the program walked: each is shown to compute a plain function (EvL).
-/
import Derived.Test.YtdbkkindfakbfaaGreatEvG
import Derived.Test.YtdbkkindfakbfaaGreatT18
import Derived.Test.YtdbkkindfakbfaaGreatTF
import Derived.Test.YtdbkkindfakbfaaGreatT31
import Derived.Test.YtdbkkindfakbfaaGreatEvP
import Derived.Test.YtdbkkindfakbfaaGreatU1
import Derived.Test.YtdbkkindfakbfaaGreatT1
set_option linter.unusedSimpArgs false
set_option linter.unusedVariables false
set_option maxRecDepth 100000
set_option maxHeartbeats 16000000
set_option linter.unusedSectionVars false
noncomputable section
namespace Abs
open Go Go.Proofs
section
variable {E:Ex->Fr->Nat->RX} {A:List St->Fr->Nat->RS} {n0:Nat}
end
mutual
theorem formed_ok:∀ {x:Ex},formedB nameB x=true->fewE x=true->okG x=true
  | .mk k nm i zs, h, h2 => by
      simp only [formedB,Bool.and_eq_true] at h
      obtain ⟨⟨⟨ha,_⟩,_,hi⟩,hz⟩:=h
      simp only [fewE,Bool.and_eq_true] at h2
      simp only [okG,Bool.and_eq_true]
      exact ⟨⟨ha,h2.1,hi⟩,formeds_ok hz h2.2⟩
theorem formeds_ok:∀ {zs:List Ex},formedBs nameB zs=true->fewEs zs=true->okGs zs=true
  | [],_,_=>rfl
  | x :: xs, h, h2 => by
      simp only [formedBs,Bool.and_eq_true] at h
      simp only [fewEs,Bool.and_eq_true] at h2
      simp only [okGs,Bool.and_eq_true]
      exact ⟨formed_ok h.1 h2.1,formeds_ok h.2 h2.2⟩
end
mutual
theorem formedS_ok:∀ {x:St},formedS nameB x=true->fewS x=true->okS x=true
  | .mk k nm v b e, h, h2 => by
      simp only [formedS,Bool.and_eq_true] at h
      obtain ⟨⟨⟨⟨_,hv⟩,_⟩,hb⟩,he⟩:=h
      simp only [fewS,Bool.and_eq_true] at h2
      simp only [okS,Bool.and_eq_true]
      exact ⟨⟨formed_ok hv h2.1.1,formedSs_ok hb h2.1.2⟩,formedSs_ok he h2.2⟩
theorem formedSs_ok:∀ {zs:List St},formedSs nameB zs=true->fewSs zs=true->okSs zs=true
  | [],_,_=>rfl
  | x :: xs, h, h2 => by
      simp only [formedSs,Bool.and_eq_true] at h
      simp only [fewSs,Bool.and_eq_true] at h2
      simp only [okSs,Bool.and_eq_true]
      exact ⟨formedS_ok h.1 h2.1,formedSs_ok h.2 h2.2⟩
end
theorem checkE_ok {x:Ex} (h:checkE nameB x=0):formedB nameB x=true/\okG x=true:=by
 unfold checkE at h
 split at h
 ·rename_i h1
  split at h
  ·rename_i h2
   unfold smallE at h2
   simp only [Bool.and_eq_true] at h2
   exact ⟨h1,formed_ok h1 h2.2⟩
  ·cases h
 ·cases h
theorem checkF_ok {l:List Fc} (h:checkF nameB l=0):∀ f∈l,formedF nameB f=true/\f.ps.length<=4/\okSs f.body=true:=by
 unfold checkF at h
 split at h
 ·rename_i h1
  split at h
  ·rename_i h2
   unfold smallF at h2
   simp only [Bool.and_eq_true,List.all_eq_true,decide_eq_true_eq] at h1 h2
   intro f hf
   have a:=h1 f hf
   have b:=h2.1.1 f hf
   refine ⟨a,b.2,?_⟩
   unfold formedF at a
   simp only [Bool.and_eq_true] at a
   exact formedSs_ok a.2 b.1.2
  ·cases h
 ·cases h
theorem goF_nodup {g:List ByteArray}:∀ (r d:List Fc),(goF g d r).2=0->(d.map Fc.nm).Nodup->((d++r).map Fc.nm).Nodup
  | [],d,_,h=>by simpa using h
  | f :: r, d, h, hd => by
      rw [goF_cons] at h
      by_cases h0:fnE g d f=0
      · rw [if_pos h0] at h
        have hf:f.nm ∉ d.map Fc.nm:=by
          intro hm
          unfold fnE at h0
          rw [if_pos] at h0
          · cases h0
          · right
            obtain ⟨f',hf',he⟩:=List.mem_map.1 hm
            unfold fcOf
            rw [List.find?_isSome]
            exact ⟨f',hf',dct he⟩
        have:=goF_nodup r (d++[f]) h (by
          rw [List.map_append,List.nodup_append]
          refine ⟨hd,by simp,?_⟩
          intro a ha b hb hab
          simp only [List.map_cons,List.map_nil,List.mem_singleton] at hb
          subst hb; subst hab; exact hf ha)
        simpa using this
      · rw [if_neg h0] at h; exact absurd h h0
theorem expP_ok {x:Ex} {g:List ByteArray} {l:List Fc} (h:expP nameB x g l=0):formedB nameB x=true/\okG x=true/\(∀ f∈l,formedF nameB f=true/\f.ps.length<=4/\okSs f.body=true)/\(l.map Fc.nm).Nodup:=by
 rw [expP_if] at h
 split at h
 ·rename_i h1
  split at h
  ·rename_i h2
   have hc:checkF nameB l=0:=by
    unfold funcsP at h2
    split at h2
    ·assumption
    ·exact h2
   have hgo:(goF g [] l).2=0:=by
    unfold funcsP at h2
    rw [hc] at h2
    exact h2
   obtain ⟨a,b⟩:=checkE_ok h1
   exact ⟨a,b,checkF_ok hc,by simpa using goF_nodup l [] hgo (by simp)⟩
  ·rename_i h2; exact absurd h h2
 ·rename_i h1; exact absurd h h1
section
variable {g g':List ByteArray} (hg:∀ s,nameB s=true->(s∈g ↔ s∈g'))
include hg
end
def goodB (gl:List (ByteArray×Int)):Bool:=decide (gl.map (·.1)).Nodup && gl.all fun p=>decide (-2147483648<=p.2) && decide (p.2<=2147483648)
theorem goodB_iff {gl:List (ByteArray×Int)}:goodB gl=true ↔ (gl.map (·.1)).Nodup/\∀ p∈gl,-2147483648<=p.2/\p.2<=2147483648:=by
 unfold goodB
 simp only [Bool.and_eq_true,decide_eq_true_eq,List.all_eq_true]
theorem goodB_snoc {gl:List (ByteArray×Int)} {p:ByteArray×Int}:goodB (gl++[p])=true ↔ goodB gl=true/\p.1 ∉ gl.map (·.1)/\-2147483648<=p.2/\p.2<=2147483648:=by
 simp only [goodB_iff,List.map_append,List.map_cons,List.map_nil,List.nodup_append,List.mem_append,List.mem_singleton,List.nodup_cons,List.not_mem_nil,not_false_eq_true,List.nodup_nil,and_true,true_and]
 constructor
 ·rintro ⟨⟨h1,h2⟩,h3⟩
  exact ⟨⟨h1,fun q hq=>h3 q (.inl hq)⟩,fun hm=>h2 _ hm _ rfl rfl,h3 p (.inr rfl)⟩
 ·rintro ⟨⟨h1,h3⟩,h2,h4⟩
  refine ⟨⟨h1,fun a ha b hb hab=>?_⟩,fun q hq=>?_⟩
  ·subst hb; subst hab; exact h2 ha
  ·rcases hq with hq|rfl
   ·exact h3 q hq
   ·exact h4
theorem goodB_take {gl:List (ByteArray×Int)} (h:goodB gl=true) (j:Nat):goodB (gl.take j)=true:=by
 rw [goodB_iff] at h ⊢
 refine ⟨?_,fun p hp=>h.2 p (List.mem_of_mem_take hp)⟩
 rw [List.map_take]
 exact h.1.sublist (List.take_sublist _ _)
theorem bad_at {gl:List (ByteArray×Int)} {j:Nat} {p:ByteArray×Int} (hp:gl[j]?=some p) (h:p.1∈(gl.take j).map (·.1)\/p.2 > 2147483648\/p.2 < -2147483648):goodB gl=false:=by
 cases hg:goodB gl with
 | false=>rfl
 | true=>
  have:=goodB_take hg (j+1)
  rw [List.take_add_one,hp] at this
  obtain ⟨_,h2,h3⟩:=goodB_snoc.1 this
  rcases h with h|h|h
  ·exact absurd h h2
  ·omega
  ·omega
theorem gM_has {k:ByteArray}:∀ {l:List (ByteArray×Int)},k∈l.map (·.1)->∃ q,getM (gM l) k=some q
  | [],h=>by cases h
  | p :: l, h => by
      by_cases hk:p.1=k
      · exact ⟨_,by simp only [gM,List.map_cons,getM,if_pos hk]; rfl⟩
      · simp only [List.map_cons,List.mem_cons] at h
        obtain ⟨q,hq⟩:=gM_has (h.resolve_left (Ne.symm hk))
        simp only [gM] at hq
        exact ⟨(q.1+1,q.2),by simp only [gM,List.map_cons,getM,if_neg hk,hq]; rfl⟩
/-- What eval.run answers. -/
def earlyA (e:Int):AVal:=.tuple [(.sc (.int .i64 (0))),(.sc (.int .i64 (0))),(.sc (.int .i64 (e))),(.sc (.bool (true)))]
def runZ (x:Ex) (gl:List (ByteArray×Int)) (fs:List Fc):AVal:=
 if goodB gl=false then earlyA 2 else
 if expP nameB x (gl.map (·.1)) fs≠0 then earlyA (expP nameB x (gl.map (·.1)) fs) else runG ((evG fs (gval gl) 1000).1 x [] 0)
def runAll (x:Ex) (ns:List ByteArray) (vs:List Int) (fs:List Fc):AVal:=
 if ns.length≠vs.length then earlyA 2 else runZ x (ns.zip vs) fs
theorem runZC {w:WD} {x:Ex} {X N V L:AVal} {gl:List (ByteArray×Int)} {fs:List Fc} {els:List AVal} (hX:IsEx x X) (hN:IsD 1 N (gl.map fun p=>sA p.1)) (hV:IsD 1 V (gl.map fun p=>(.sc (.int .i64 (p.2)))))
  (hl:gl.length<=1000000) (hL:IsD 3 L els) (hF:IsFcs fs els) (hfl:els.length<=1000000) (hwf:goodB gl=true->expP nameB x (gl.map (·.1)) fs=0->okG x=true/\FnOk fs els) (hT:∀ w:WD,GivesV (EE w) 27 [X,N,L] (.sc (.int .i64 (expP nameB x (gl.map (·.1)) fs)))):
  Gives (EE w) 19 [X,N,V,L] fun v=>v=runZ x gl fs:=by
 refine Gives.of (fun _=>.sc _) (.cons _ _ hX.wf (.cons _ _ (hN.wf (WFs.map fun _=>.sc _)) (.cons _ _ (hV.wf (WFs.map fun _=>.sc _)) (.cons _ _ (hL.wf hF.wf) .nil)))) 2 ?_
 have hNn:=fun σ:AStore=>hN.lenN (by simp) (n:=gl.length) (σ:=σ)
 have hVn:=fun σ:AStore=>hV.lenN (by simp) (n:=gl.length) (σ:=σ)
 obtain ⟨k,nm,i,zs⟩:=x
 have hX0:=hX
 simp only [IsEx] at hX
 obtain ⟨S,es0,rfl,hS,_⟩:=hX
 have kS:=hS.fit
 have cS:=hS.cells
 have iS:=hS.isCell
 refine ot_19 rfl rfl rfl (by decide) ?_
 refine Top_seq0 (E:=EE ⟨w.w,[]⟩) (fn:=Tryz.f19) rfl rfl (Z_ofV ?_)
 simp -implicitDefEqProofs only [go_sem,kS,cS,iS]
 refine Top_seq0 (E:=EE ⟨w.w,[]⟩) (fn:=Tryz.f19) rfl rfl (Z_ofV ?_)
 (repeat' first|refine vw ?_ ?_<;>intro hq|refine vz ?_|simp -implicitDefEqProofs only [go_sem,hNn,hVn])
 refine Top_seq0 (E:=EE ⟨w.w,[]⟩) (fn:=Tryz.f19) rfl rfl (Z_ofV ?_)
 simp -implicitDefEqProofs only [go_sem]
 refine opsC.mono ?_
 rintro _ τ ⟨rfl,kO,b1,b2,hO⟩
 simp -implicitDefEqProofs only [go_sem]
 have hpm:8<=τ.next:=AStore.lt_of_get hO.m
 have hkk:∀ a b c:ABlk,KeepS τ (((τ.alloc a).alloc b).set (τ.next+1) c):=fun a b c=>((KeepS.alloc τ a).trans (KeepS.alloc _ b)).set (by omega) c
 have gm:∀ a b c:ABlk,(((τ.alloc a).alloc b).set (τ.next+1) c).get τ.next=some a:=fun a b c=>by
  rw [AStore.get_set,if_neg (by omega)]; exact get_alloc_old (by rw [AStore.get_alloc,if_pos rfl])
 have gp:∀ a b c:ABlk,(((τ.alloc a).alloc b).set (τ.next+1) c).get (τ.next+1)=some c:=fun a b c=>gss (by simp only [alloc_next]; omega)
 have hn1:∀ a b c:ABlk,(((τ.alloc a).alloc b).set (τ.next+1) c).next=τ.next+2:=fun a b c=>by simp only [set_next,alloc_next]
 have gm:=gm (.cells 4 [.agg [.map 5,.map 6,.map 7,(.sc (.int .i64 (0)))]]) (.cells 1 [.sc (.pointer none)]) (.cells 1 [.ptr τ.next 0 0])
 have gp:=gp (.cells 4 [.agg [.map 5,.map 6,.map 7,(.sc (.int .i64 (0)))]]) (.cells 1 [.sc (.pointer none)]) (.cells 1 [.ptr τ.next 0 0])
 have hn1:=hn1 (.cells 4 [.agg [.map 5,.map 6,.map 7,(.sc (.int .i64 (0)))]]) (.cells 1 [.sc (.pointer none)]) (.cells 1 [.ptr τ.next 0 0])
 have hkk:=hkk (.cells 4 [.agg [.map 5,.map 6,.map 7,(.sc (.int .i64 (0)))]]) (.cells 1 [.sc (.pointer none)]) (.cells 1 [.ptr τ.next 0 0])
 generalize hτ1:((τ.alloc (.cells 4 [.agg [.map 5,.map 6,.map 7,(.sc (.int .i64 (0)))]])).alloc (.cells 1 [.sc (.pointer none)])).set (τ.next+1) (.cells 1 [.ptr τ.next 0 0])=τ1 at gm gp hn1 hkk ⊢
 have g0:=hkk.2 0 _ (kO.2 0 (.cells 4 [.agg [(.sc (.int .i64 (k))),.sc (.string nm),(.sc (.int .i64 (i))),S]]) (by kernel_rfl))
 have g1:=hkk.2 1 _ (kO.2 1 (.cells 1 [(.sc (.int .i64 (0)))]) (by kernel_rfl))
 have g2:=hkk.2 2 _ (kO.2 2 (.cells 1 [(.sc (.int .i64 (0)))]) (by kernel_rfl))
 have g3:=hkk.2 3 _ (kO.2 3 (.cells 1 [(.sc (.int .i64 (0)))]) (by kernel_rfl))
 have g4:=hkk.2 4 _ (kO.2 4 (.cells 1 [(.sc (.bool (false)))]) (by kernel_rfl))
 have g6:=hkk.2 6 _ (kO.2 6 (.map [] 0) (by kernel_rfl))
 have g5:=hkk.2 5 _ (kO.2 5 (.map [] 0) (by kernel_rfl))
 have hO1:OpsM τ1 7 b1 b2:=⟨hkk.2 _ _ hO.m,hkk.2 _ _ hO.d,hkk.2 _ _ hO.r⟩
 have hpb1:b1≠τ.next:=by rintro rfl; exact absurd (AStore.lt_of_get hO.d) (Nat.lt_irrefl _)
 have hpb2:b2≠τ.next:=by rintro rfl; exact absurd (AStore.lt_of_get hO.r) (Nat.lt_irrefl _)
 clear hτ1 kO hO hkk
 have hb5:∀ b,(∃ l c,τ1.get b=some (.cells l c))->b≠5:=by rintro b ⟨l,c,h⟩ rfl; rw [g5] at h; cases h
 refine Top_seq0 (E:=EE ⟨w.w,[]⟩) (fn:=Tryz.f19) rfl rfl (Z_ofV ?_)
 simp -implicitDefEqProofs only [go_sem,hNn]
 refine vlp (ι:=Nat) (fun j=>[(1,N),(2,V),(3,L),(4,.ptr 0 0 0),(8,.ptr 1 0 0),(9,.ptr 2 0 0),(10,.ptr 3 0 0),(11,.ptr 4 0 0),(12,.ptr (τ.next+1) 0 0),(30,N),(31,(.sc (.int .i64 (gl.length)))),(32,(.sc (.int .i64 (j))))]) (fun j ρ=>j<=gl.length/\KeepM 5 τ1 ρ/\(∃ c,ρ.get 5=some (.map (strM (gM (gl.take j))) c))/\goodB (gl.take j)=true) (fun j=>gl.length - j) (fun _=>rfl) 0 ?_ ?_ ?_
 ·exact vsu
 ·exact ⟨Nat.zero_le _,KeepM.refl _ _,⟨0,g5⟩,rfl⟩
 ·rintro j ρ ⟨hj,kr,⟨c,q5⟩,hgd⟩
  have r12:=kr.2 _ _ (hb5 _ ⟨_,_,gp⟩) gp
  have rpm:=kr.2 _ _ (hb5 _ ⟨_,_,gm⟩) gm
  simp -implicitDefEqProofs only [go_sem]
  (refine vif ?_ ?_<;>intro hlt)
  ·obtain ⟨p,hp⟩:∃ p,gl[j]?=some p:=⟨gl[j]'(by omega),by simp⟩
   have e1:(gl.map fun p=>sA p.1)[j]?=some (sA p.1):=by rw [List.getElem?_map,hp]; rfl
   have e2:(gl.map fun p=>((.sc (.int .i64 (p.2))):AVal))[j]?=some (.sc (.int .i64 (p.2))):=by rw [List.getElem?_map,hp]; rfl
   have hw:=wrapS (i:=j) (by omega)
   have hcs:(sA p.1).cells=[.sc (.string p.1)]:=rfl
   have r1:=kr.2 _ _ (by decide) g1
   have r2:=kr.2 _ _ (by decide) g2
   have r3:=kr.2 _ _ (by decide) g3
   have r4:=kr.2 _ _ (by decide) g4
   by_cases hm:p.1∈(gl.take j).map (·.1)
   ·obtain ⟨q,hq⟩:=gM_has hm
    have hlo:lkAt .string (.int .i64 0) true (.string p.1) (some (.map (strM (gM (gl.take j))) c))=some (.tuple [q.2,(.sc (.bool (true)))]):=by rw [lk_at,hq]; rfl
    have hbad:=bad_at hp (.inl hm)
    (repeat' first|refine vw ?_ ?_<;>intro hq|refine vz ?_|simp -implicitDefEqProofs only [go_sem,hcs,hN.idx e1,hV.idx e2,r12,rpm,q5,lk_strS,hlo])
    have l1:=AStore.lt_of_get r1
    have l2:=AStore.lt_of_get r2
    have l3:=AStore.lt_of_get r3
    have l4:=AStore.lt_of_get r4
    simp -implicitDefEqProofs only [go_sem,r1,r2,r3,r4,l1,l2,l3,l4]
    rw [show Tryz.f19.results.toList=[.cell 8 2,.cell 9 3,.cell 10 32,.cell 11 4] from rfl]
    simp -implicitDefEqProofs only [go_sem,AStore.get_set,set_next,r1,r2,r3,r4,l1,l2,l3,l4]
    exact ⟨_,_,rfl,rfl,by unfold runZ; rw [if_pos hbad]; rfl⟩
   have hnm:getM (gM (gl.take j)) p.1=none:=getM_appG (v:=0) hm
   have hlo:lkAt .string (.int .i64 0) true (.string p.1) (some (.map (strM (gM (gl.take j))) c))=some (.tuple [(.sc (.int .i64 (0))),(.sc (.bool (false)))]):=by rw [lk_at,hnm]; rfl
   by_cases bh':p.2 > 2147483648
   ·have hbad:=bad_at hp (.inr (.inl bh'))
    (repeat' first|refine vw ?_ ?_<;>intro hq|refine vz ?_|simp -implicitDefEqProofs only [go_sem,hcs,hN.idx e1,hV.idx e2,r12,rpm,q5,lk_strS,hlo,dct bh'])
    have l1:=AStore.lt_of_get r1
    have l2:=AStore.lt_of_get r2
    have l3:=AStore.lt_of_get r3
    have l4:=AStore.lt_of_get r4
    simp -implicitDefEqProofs only [go_sem,r1,r2,r3,r4,l1,l2,l3,l4]
    rw [show Tryz.f19.results.toList=[.cell 8 2,.cell 9 3,.cell 10 32,.cell 11 4] from rfl]
    simp -implicitDefEqProofs only [go_sem,AStore.get_set,set_next,r1,r2,r3,r4,l1,l2,l3,l4]
    exact ⟨_,_,rfl,rfl,by unfold runZ; rw [if_pos hbad]; rfl⟩
   by_cases bl':p.2 < -2147483648
   ·have hbad:=bad_at hp (.inr (.inr bl'))
    (repeat' first|refine vw ?_ ?_<;>intro hq|refine vz ?_|simp -implicitDefEqProofs only [go_sem,hcs,hN.idx e1,hV.idx e2,r12,rpm,q5,lk_strS,hlo,dcf bh',dct bl'])
    have l1:=AStore.lt_of_get r1
    have l2:=AStore.lt_of_get r2
    have l3:=AStore.lt_of_get r3
    have l4:=AStore.lt_of_get r4
    simp -implicitDefEqProofs only [go_sem,r1,r2,r3,r4,l1,l2,l3,l4]
    rw [show Tryz.f19.results.toList=[.cell 8 2,.cell 9 3,.cell 10 32,.cell 11 4] from rfl]
    simp -implicitDefEqProofs only [go_sem,AStore.get_set,set_next,r1,r2,r3,r4,l1,l2,l3,l4]
    exact ⟨_,_,rfl,rfl,by unfold runZ; rw [if_pos hbad]; rfl⟩
   (repeat' first|refine vw ?_ ?_<;>intro hq|refine vz ?_|simp -implicitDefEqProofs only [go_sem,hcs,hN.idx e1,hV.idx e2,r12,rpm,q5,lk_strS,hlo,dcf bh',dcf bl'])
   ((try (refine Z_seq ?_; (try simp -implicitDefEqProofs only [go_sem]))); refine Z_draw (by kernel_rfl) [0,1,2,3,4,5,6,7,8,9] [(9,511),(8,224),(7,96),(6,0),(5,0),(4,0),(3,7),(2,3),(1,1),(0,0)] (by kernel_rfl) (by kernel_rfl) ?_)
   have b5:=AStore.lt_of_get q5
   simp -implicitDefEqProofs only [go_sem,hcs,hV.idx e2,r12,rpm,q5,ms_str,ms_new hnm]
   (repeat' first|refine vw ?_ ?_<;>intro hq|refine vz ?_|simp -implicitDefEqProofs only [go_sem,hw])
   have:gl.take (j+1)=gl.take j++[p]:=by rw [List.take_add_one,hp]; rfl
   refine ⟨j+1,vom,⟨by omega,(kr.set _),⟨c+1,?_⟩,by rw [this]; exact goodB_snoc.2 ⟨hgd,hm,by omega,by omega⟩⟩,vsu⟩
   rw [gss b5,this]
   simp only [gM,List.map_append,List.map_cons,List.map_nil]
  ·obtain rfl:j=gl.length:=by omega
   rw [List.take_length] at q5 hgd
   have hb:=(goodB_iff.1 hgd).2
   have r0:=kr.2 _ _ (by decide) g0
   have r1:=kr.2 _ _ (by decide) g1
   have r2:=kr.2 _ _ (by decide) g2
   have r3:=kr.2 _ _ (by decide) g3
   have r4:=kr.2 _ _ (by decide) g4
   have g6':=kr.2 _ _ (by decide) g6
   have hnr:τ.next+1 < ρ.next:=AStore.lt_of_get r12
   have rpm:=kr.2 _ _ (hb5 _ ⟨_,_,gm⟩) gm
   have hOρ:OpsM ρ 7 b1 b2:=⟨kr.2 _ _ (by decide) hO1.m,kr.2 _ _ (hb5 _ ⟨_,_,hO1.d⟩) hO1.d,kr.2 _ _ (hb5 _ ⟨_,_,hO1.r⟩) hO1.r⟩
   (repeat' first|refine vw ?_ ?_<;>intro hq|refine vz ?_|simp -implicitDefEqProofs only [go_sem])
   refine Top_seq0 (E:=EE ⟨w.w,[]⟩) (fn:=Tryz.f19) rfl rfl (Z_ofV ?_)
   simp -implicitDefEqProofs only [go_sem,r0]
   refine (hT ⟨w.w,[]⟩).use ?_
   by_cases hte:expP nameB (.mk k nm i zs) (gl.map (·.1)) fs=0
   rotate_left
   ·(repeat' first|refine vw ?_ ?_<;>intro hq|refine vz ?_|simp -implicitDefEqProofs only [go_sem,dcf hte])
    have l1:=AStore.lt_of_get r1
    have l2:=AStore.lt_of_get r2
    have l3:=AStore.lt_of_get r3
    have l4:=AStore.lt_of_get r4
    simp -implicitDefEqProofs only [go_sem,r1,r2,r3,r4,l1,l2,l3,l4]
    rw [show Tryz.f19.results.toList=[.cell 8 2,.cell 9 3,.cell 10 32,.cell 11 4] from rfl]
    simp -implicitDefEqProofs only [go_sem,AStore.get_set,set_next,r1,r2,r3,r4,l1,l2,l3,l4]
    exact ⟨_,_,rfl,rfl,by unfold runZ; rw [if_neg (by rw [hgd]; decide),if_pos hte]; rfl⟩
   obtain ⟨hok,hfs⟩:=hwf hgd hte
   have hrz:runZ (.mk k nm i zs) gl fs=runG ((evG fs (gval gl) 1000).1 (.mk k nm i zs) [] 0):=by
    unfold runZ
    rw [if_neg (by rw [hgd]; decide),if_neg (by rw [hte]; decide)]
   rw [hte]
   (repeat' first|refine vw ?_ ?_<;>intro hq|refine vz ?_|simp -implicitDefEqProofs only [go_sem])
   refine Top_seq0 (E:=EE ⟨w.w,[]⟩) (fn:=Tryz.f19) rfl rfl (Z_ofV ?_)
   have hfe:=hfs.d.len
   have hLn:=fun σ:AStore=>hL.lenN hfe (σ:=σ)
   (repeat' first|refine vw ?_ ?_<;>intro hq|refine vz ?_|simp -implicitDefEqProofs only [go_sem,hLn])
   refine vlp (ι:=Nat) (fun j=>[(4,.ptr 0 0 0),(8,.ptr 1 0 0),(9,.ptr 2 0 0),(10,.ptr 3 0 0),(11,.ptr 4 0 0),(12,.ptr (τ.next+1) 0 0),(78,L),(79,(.sc (.int .i64 (fs.length)))),(80,(.sc (.int .i64 (j))))]) (fun j μ=>j<=fs.length/\KeepM 6 ρ μ/\∃ c,μ.get 6=some (.map (strM (fnM (fs.take j) (els.take j))) c)) (fun j=>fs.length - j) (fun _=>rfl) 0 ?_ ?_ ?_
   ·exact vsu
   ·exact ⟨Nat.zero_le _,KeepM.refl _ _,0,g6'⟩
   have hb6:∀ b,(∃ l c,ρ.get b=some (.cells l c))->b≠6:=by rintro b ⟨l,c,h⟩ rfl; rw [g6'] at h; cases h
   rintro j μ ⟨hj,kμ,c6,q6⟩
   have r12:=kμ.2 _ _ (hb6 _ ⟨_,_,r12⟩) r12
   have rpm:=kμ.2 _ _ (hb6 _ ⟨_,_,rpm⟩) rpm
   simp -implicitDefEqProofs only [go_sem]
   (refine vif ?_ ?_<;>intro hlt)
   ·obtain ⟨f,hf⟩:∃ f,fs[j]?=some f:=⟨fs[j]'(by omega),by simp⟩
    obtain ⟨e,he,hfe⟩:=hfs.d.at' j f hf
    obtain ⟨c1,c2,c3⟩:=hfe.isA.facts
    have cc:=hfe.cellsOk
    have hsp:=fun a b c=>hfe.isA.splice3 (a:=a) (b:=b) (c:=c)
    have hfe':=hfe
    obtain ⟨SP,SB,eb,rfl,hP,hB,_⟩:=hfe'
    have cP:=hP.cells
    have iP:=hP.isCell
    have cB:=hB.cells
    have iB:=hB.isCell
    have kP:=hP.fit
    have kB:=hB.fit
    have hw:=wrapS (i:=j) (by omega)
    have hnm:getM (fnM (fs.take j) (els.take j)) f.nm=none:=fnM_none (by
     intro hm
     rw [List.map_take] at hm
     obtain ⟨q,hq,hee⟩:=List.mem_take_iff_getElem.1 hm
     have h1:(fs.map Fc.nm)[j]'(by simp; omega)=f.nm:=by
      have:(fs.map Fc.nm)[j]?=some f.nm:=by rw [List.getElem?_map,hf]; rfl
      rw [List.getElem?_eq_getElem (by simp; omega)] at this
      exact Option.some.inj this
     have:=(List.getElem_inj hfs.u (h₀:=by simp at hq ⊢; omega) (h₁:=by simp; omega)).1 (hee.trans h1.symm)
     simp at hq; omega)
    have l6:=AStore.lt_of_get q6
    have lpm:=AStore.lt_of_get rpm
    have nn1:(6=μ.next)=False:=eq_false (by omega)
    have nn2:(τ.next=μ.next)=False:=eq_false (by omega)
    have nn3:(τ.next+1=μ.next)=False:=eq_false (by have:=AStore.lt_of_get r12; omega)
    (repeat' first|refine vw ?_ ?_<;>intro hq|refine vz ?_|simp -implicitDefEqProofs only [go_sem,hL.idx he,c1,c2,c3,cc,hsp,cP,iP,cB,iB,kP,kB])
    ((try (refine Z_seq ?_; (try simp -implicitDefEqProofs only [go_sem]))); refine Z_draw (by kernel_rfl) [0,1,2,3,4,5,6,7] [(7,127),(6,0),(5,16),(4,0),(3,7),(2,3),(1,1),(0,0)] (by kernel_rfl) (by kernel_rfl) ?_)
    simp -implicitDefEqProofs only [go_sem,r12,rpm,q6,ms_str,ms_new hnm,nn1,nn2,nn3,if_false,kP,kB,cP,iP,cB,iB]
    (repeat' first|refine vw ?_ ?_<;>intro hq|refine vz ?_|simp -implicitDefEqProofs only [go_sem,hw])
    have kk:∀ a b,KeepM 6 ρ ((μ.alloc a).set μ.next b):=fun a b=>kμ.trans ((KeepS.alloc μ a).set (Nat.le_refl _) b).m
    refine ⟨j+1,vom,⟨vom,(kk _ _).set _,c6+1,?_⟩,vsu⟩
    rw [gss (by rw [set_next,alloc_next]; omega),fnM_snoc hf he]
   ·obtain rfl:j=fs.length:=by omega
    rw [List.take_length,List.take_of_length_le (by omega)] at q6
    have r0:=kμ.2 _ _ (by decide) r0
    have r1:=kμ.2 _ _ (by decide) r1
    have r2:=kμ.2 _ _ (by decide) r2
    have r3:=kμ.2 _ _ (by decide) r3
    have r4:=kμ.2 _ _ (by decide) r4
    have hMc:Mg μ τ.next 5 6 7 b1 b2 0 gl fs els:=⟨rpm,⟨c,kμ.2 _ _ (by decide) q5⟩,⟨c6,q6⟩,⟨kμ.2 _ _ (by decide) hOρ.m,kμ.2 _ _ (hb6 _ ⟨_,_,hOρ.d⟩) hOρ.d,kμ.2 _ _ (hb6 _ ⟨_,_,hOρ.r⟩) hOρ.r⟩,vom,vom,vom,hpb1,hpb2⟩
    have hnr:τ.next+1 < μ.next:=AStore.lt_of_get r12
    (repeat' first|refine vw ?_ ?_<;>intro hq|refine vz ?_|simp -implicitDefEqProofs only [go_sem])
    refine Top_dfr1 (E:=EE ⟨w.w,[]⟩) (Ed:=fun ds=>EE ⟨w.w,ds⟩) (fun _=>rfl) rfl rfl ?_
    simp -implicitDefEqProofs only [go_sem]
    refine ⟨⟨.func 28,[.ptr (τ.next+1) 0 0,.ptr 1 0 0,.ptr 2 0 0,.ptr 3 0 0,.ptr 4 0 0],[]⟩,rfl,?_⟩
    refine Top_undsR (rs:=[.cell 8 2,.cell 9 3,.cell 10 32,.cell 11 4]) (E:=EE ⟨w.w,[]⟩) (Ed:=fun ds=>EE ⟨w.w,ds⟩) (fun _=>rfl) rfl (g:=28) (cap:=[.ptr (τ.next+1) 0 0,.ptr 1 0 0,.ptr 2 0 0,.ptr 3 0 0,.ptr 4 0 0]) (as':=[]) rfl rfl rfl (Z_ofV ?_)
    simp -implicitDefEqProofs only [go_sem,r12,r0]
    refine ((evGC (gval_inG hb) hfs 1000).1 _ (w:=⟨w.w,_⟩) hX0 hok hMc (.inl ⟨rfl,rfl⟩) (fun p hp=>by cases hp) (by decide) (by decide)).mono ?_
    rintro _ ρ1 ⟨rfl,_,kp,_,_,mm⟩
    have s1:=kp.2 _ _ (by omega) r1
    have s2:=kp.2 _ _ (by omega) r2
    have s3:=kp.2 _ _ (by omega) r3
    have s4:=kp.2 _ _ (by omega) r4
    have s12:=kp.2 _ _ (by omega) r12
    have mm':ρ1.get τ.next=some (.cells 4 [.agg [.map 5,.map 6,.map 7,(.sc (.int .i64 (((evG fs (gval gl) 1000).1 (.mk k nm i zs) [] 0).n)))]]):=mm
    have l1:=AStore.lt_of_get s1
    have l2:=AStore.lt_of_get s2
    have l3:=AStore.lt_of_get s3
    have l4:=AStore.lt_of_get s4
    have nt1:¬ (τ.next=1):=by omega
    have nt2:¬ (τ.next=2):=by omega
    have nt3:¬ (τ.next=3):=by omega
    have nt4:¬ (τ.next=4):=by omega
    have np1:¬ (τ.next+1=1):=by omega
    have np2:¬ (τ.next+1=2):=by omega
    have np3:¬ (τ.next+1=3):=by omega
    have np4:¬ (τ.next+1=4):=by omega
    clear mm
    generalize (evG fs (gval gl) 1000).1 (.mk k nm i zs) [] 0=p at mm' hrz ⊢
    by_cases he:p.e=0
    ·rw [if_pos he]
     (repeat' first|refine vw ?_ ?_<;>intro hq|refine vz ?_|simp -implicitDefEqProofs only [go_sem,s1,l1])
     ((try (refine Z_seq ?_; (try simp -implicitDefEqProofs only [go_sem]))); refine Z_draw (by kernel_rfl) [0,1,2,3,4,5,6,7,8] [(8,255),(7,127),(6,63),(5,1),(4,14),(3,6),(2,2),(1,0),(0,0)] (by kernel_rfl) (by kernel_rfl) ?_)
     simp -implicitDefEqProofs only [go_sem,s1,s2,s3,s4,s12,mm',l1,l2,l3,l4,nt1,nt2,nt3,nt4,np1,np2,np3,np4]
     (repeat' first|refine vw ?_ ?_<;>intro hq|refine vz ?_|simp -implicitDefEqProofs only [go_sem])
     refine run1NG.mono ?_
     rintro _ _ _ ⟨⟨_,rfl⟩,rfl,rfl⟩
     show dRd _ _
     simp -implicitDefEqProofs only [go_sem,s1,s2,s3,s4,l1,l2,l3,l4]
     exact ⟨_,_,rfl,rfl,by rw [hrz]; unfold runG; rw [if_pos he,he]⟩
    ·rw [if_neg he]
     refine (run1PG s12 mm' ⟨_,s1⟩ ⟨_,s2⟩ ⟨_,s3⟩ ⟨_,s4⟩ (by decide) (by decide) (by decide) (by decide) (by decide) (by decide)).mono ?_
     rintro _ _ ρ2 ⟨⟨_,rfl⟩,rfl,q1,q2,q3,q4⟩
     show dRd _ _
     simp -implicitDefEqProofs only [go_sem,q1,q2,q3,q4]
     exact ⟨_,_,rfl,rfl,by rw [hrz]; unfold runG; rw [if_neg he]⟩
def quadA (q:Int×Int×Int×Bool):AVal:=.tuple [(.sc (.int .i64 (q.1))),(.sc (.int .i64 (q.2.1))),(.sc (.int .i64 (q.2.2.1))),(.sc (.bool (q.2.2.2)))]
def qOf (p:RX):Int×Int×Int×Bool:=(if p.e=0 then p.v else 0,p.n,p.e,false)
def run4 (x:Ex) (ns:List ByteArray) (vs:List Int) (fs:List Fc):Int×Int×Int×Bool:=
 if ns.length≠vs.length then (0,0,2,true) else
 if goodB (ns.zip vs)=false then (0,0,2,true) else
 if expP nameB x ns fs≠0 then (0,0,expP nameB x ns fs,true) else qOf ((evG fs (gval (ns.zip vs)) 1000).1 x [] 0)
theorem runAll_quad {x:Ex} {ns:List ByteArray} {vs:List Int} {fs:List Fc}:runAll x ns vs fs=quadA (run4 x ns vs fs):=by
 unfold runAll run4
 split
 ·rfl
 rename_i h
 have hl:ns.length=vs.length:=by omega
 have e:(ns.zip vs).map (·.1)=ns:=List.map_fst_zip (by omega)
 unfold runZ
 rw [e]
 split
 ·rfl
 split
 ·rfl
 ·rfl
theorem zip_fst {ns:List ByteArray} {vs:List Int} (h:ns.length=vs.length):((ns.zip vs).map fun p=>sA p.1)=ns.map sA:=by
 rw [show (fun p:ByteArray×Int=>sA p.1)=sA ∘ (·.1) from rfl,<-List.map_map,List.map_fst_zip (by omega)]
theorem zip_snd {ns:List ByteArray} {vs:List Int} (h:ns.length=vs.length):((ns.zip vs).map fun p=>((.sc (.int .i64 (p.2))):AVal))=vs.map fun v=>(.sc (.int .i64 (v))):=by
 rw [show (fun p:ByteArray×Int=>((.sc (.int .i64 (p.2))):AVal))=(fun v=>(.sc (.int .i64 (v)))) ∘ (·.2) from rfl,<-List.map_map,List.map_snd_zip (by omega)]
section
variable {w:WD} {x:Ex} {X N V L:AVal} {ns:List ByteArray} {vs:List Int} {fs:List Fc} {els:List AVal} (hX:IsEx x X) (hxb:nodesE x<=1099511627776) (hN:IsD 1 N (ns.map sA)) (hV:IsD 1 V (vs.map fun v=>(.sc (.int .i64 (v)))))
 (hl:ns.length<=1000000) (hlv:vs.length<=1000000) (hL:IsD 3 L els) (hF:IsFcs fs els) (hfl:els.length<=1000000) (hfb:nodesF fs<=1099511627776)
include hX hxb hN hV hl hlv hL hF hfl hfb
theorem runAllC:GivesV (EE w) 19 [X,N,V,L] (quadA (run4 x ns vs fs)):=by
 rw [<-runAll_quad]
 by_cases hlen:ns.length=vs.length
 ·intro σ
  have hz:(ns.zip vs).map (·.1)=ns:=List.map_fst_zip (by omega)
  have hr:=runZC (w:=w) (gl:=ns.zip vs) hX (by rw [zip_fst hlen]; exact hN) (by rw [zip_snd hlen]; exact hV) (by rw [List.length_zip]; omega) hL hF hfl (fs:=fs) (fun _ h=>by
   obtain ⟨_,a,b,c⟩:=expP_ok h
   exact ⟨a,hF,fun f hf=>(b f hf).2.1,fun f hf=>(b f hf).2.2,c⟩) (fun w=>by rw [hz]; exact tExpTC hX hxb hL hF (by omega) hfb hN (by omega)) σ
  refine hr.mono ?_
  rintro e σ' ⟨rfl,v,rfl,rfl⟩
  unfold runAll
  rw [if_neg (not_not_intro hlen)]
  exact ⟨rfl,rfl⟩
 ·unfold runAll
  rw [if_pos hlen]
  have hNn:=fun σ:AStore=>hN.lenN (by simp) (n:=ns.length) (σ:=σ)
  have hVn:=fun σ:AStore=>hV.lenN (by simp) (n:=vs.length) (σ:=σ)
  have hne:¬ ((ns.length:Int)=vs.length):=by omega
  refine GivesV.of (fun _=>.sc _) (.cons _ _ hX.wf (.cons _ _ (hN.wf (wf_sA _)) (.cons _ _ (hV.wf (WFs.map fun _=>.sc _)) (.cons _ _ (hL.wf hF.wf) .nil)))) 2 ?_
  obtain ⟨k,nm,i,zs⟩:=x
  simp only [IsEx] at hX
  obtain ⟨S,es0,rfl,hS,_⟩:=hX
  have kS:=hS.fit
  have cS:=hS.cells
  have iS:=hS.isCell
  refine ot_19 rfl rfl rfl (by decide) ?_
  refine Top_seq0 (E:=EE ⟨w.w,[]⟩) (fn:=Tryz.f19) rfl rfl (Z_ofV ?_)
  simp -implicitDefEqProofs only [go_sem,kS,cS,iS]
  refine Top_seq0 (E:=EE ⟨w.w,[]⟩) (fn:=Tryz.f19) rfl rfl (Z_ofV ?_)
  (repeat' first|refine vw ?_ ?_<;>intro hq|refine vz ?_|simp -implicitDefEqProofs only [go_sem,hNn,hVn,dcf hne])
  rw [show Tryz.f19.results.toList=[.cell 8 2,.cell 9 3,.cell 10 32,.cell 11 4] from rfl]
  show dRd _ _
  simp -implicitDefEqProofs only [go_sem]
  exact ⟨_,rfl,rfl⟩
theorem valueGC:GivesV (EE w) 7 [X,N,V,L] (.tuple [(.sc (.int .i64 ((run4 x ns vs fs).1))),(.sc (.int .i64 ((run4 x ns vs fs).2.2.1)))]):=by
 have hrun:=runAllC (w:=⟨w.w,[]⟩) hX hxb hN hV hl hlv hL hF hfl hfb
 refine GivesV.of (fun _=>.sc _) (.cons _ _ hX.wf (.cons _ _ (hN.wf (wf_sA _)) (.cons _ _ (hV.wf (WFs.map fun _=>.sc _)) (.cons _ _ (hL.wf hF.wf) .nil)))) 2 ?_
 generalize run4 x ns vs fs=q at hrun ⊢
 obtain ⟨k,nm,i,zs⟩:=x
 simp only [IsEx] at hX
 obtain ⟨S,es0,rfl,hS,_⟩:=hX
 have kS:=hS.fit
 have cS:=hS.cells
 have iS:=hS.isCell
 refine of_7 rfl rfl rfl (by kernel_rfl) ?_
 simp -implicitDefEqProofs only [go_sem,kS,cS,iS]
 refine hrun.use ?_
 unfold quadA
 (repeat' first|refine vw ?_ ?_<;>intro hq|refine vz ?_|simp -implicitDefEqProofs only [go_sem])
 exact ⟨_,rfl,rfl⟩
theorem stepsGC:GivesV (EE w) 9 [X,N,V,L] (.tuple [(.sc (.int .i64 (if (run4 x ns vs fs).2.2.2=true then 0 else (run4 x ns vs fs).2.1))),(.sc (.int .i64 (if (run4 x ns vs fs).2.2.2=true then (run4 x ns vs fs).2.2.1 else 0)))]):=by
 have hrun:=runAllC (w:=⟨w.w,[]⟩) hX hxb hN hV hl hlv hL hF hfl hfb
 refine GivesV.of (fun _=>.sc _) (.cons _ _ hX.wf (.cons _ _ (hN.wf (wf_sA _)) (.cons _ _ (hV.wf (WFs.map fun _=>.sc _)) (.cons _ _ (hL.wf hF.wf) .nil)))) 2 ?_
 generalize run4 x ns vs fs=q at hrun ⊢
 obtain ⟨k,nm,i,zs⟩:=x
 simp only [IsEx] at hX
 obtain ⟨S,es0,rfl,hS,_⟩:=hX
 have kS:=hS.fit
 have cS:=hS.cells
 have iS:=hS.isCell
 obtain ⟨q1,q2,q3,q4⟩:=q
 refine of_9 rfl rfl rfl (by kernel_rfl) ?_
 simp -implicitDefEqProofs only [go_sem,kS,cS,iS]
 refine hrun.use ?_
 unfold quadA
 simp -implicitDefEqProofs only [go_sem]
 cases q4 with
 | true=>
  (repeat' first|refine vw ?_ ?_<;>intro hq|refine vz ?_|simp -implicitDefEqProofs only [go_sem])
  exact ⟨_,rfl,rfl⟩
 | false=>
  (repeat' first|refine vw ?_ ?_<;>intro hq|refine vz ?_|simp -implicitDefEqProofs only [go_sem])
  exact ⟨_,rfl,rfl⟩
end
def beyond10 (x:Ex) (g:List ByteArray) (vs:List Int) (l:List Fc):Bool:=decide (partsE x 5000 < 0) || (longB g 200 || (decide ((200:Int) < vs.length) || greatF 5000 l 5000))
section
variable {w:WD} {x:Ex} {X N V L:AVal} {ns:List ByteArray} {vs:List Int} {fs:List Fc} {els:List AVal} (hX:IsEx x X) (hN:IsD 1 N (ns.map sA)) (hV:IsD 1 V (vs.map fun v=>(.sc (.int .i64 (v)))))
 (hl:ns.length<=281474976710656) (hs:∀ s∈ns,s.size<=281474976710656) (hL:IsD 3 L els) (hF:IsFcs fs els) (hfl:els.length<=281474976710656)
include hX hN hV hl hs hL hF hfl
theorem beyond10C:GivesV (EE w) 6 [X,.agg [N,V],L] (.sc (.bool (beyond10 x ns vs fs))):=by
 obtain ⟨c1,c2,c3⟩:=hX.isA.facts
 have cc:=hX.cellsOk
 have hfit:X.fit=true:=by obtain ⟨cs,rfl,_⟩:=hX.isA; rfl
 have kN:=hN.fit
 have cN:=hN.cells
 have iN:=hN.isCell
 have kV:=hV.fit
 have cV:=hV.cells
 have iV:=hV.isCell
 have hVn:=fun σ:AStore=>hV.lenN (by simp) (n:=vs.length) (σ:=σ)
 refine GivesV.of (fun _=>.sc _) (.cons _ _ hX.wf (.cons _ _ (.agg _ (.cons _ _ (hN.wf (wf_sA _)) (.cons _ _ (hV.wf (WFs.map fun _=>.sc _)) .nil))) (.cons _ _ (hL.wf hF.wf) .nil))) 2 ?_
 refine of_6 rfl rfl rfl (by kernel_rfl) ?_
 simp -implicitDefEqProofs only [go_sem,c1,c2,c3,cc,hfit,kN,cN,iN,kV,cV,iV]
 (repeat' first|refine vw ?_ ?_<;>intro hq|refine vz ?_|simp -implicitDefEqProofs only [go_sem,c1,c2,c3,cc,hfit,kN,cN,iN,kV,cV,iV])
 refine (greatC hX (by omega) (by omega)).use ?_
 unfold beyond10
 by_cases h1:partsE x 5000 < 0
 ·(repeat' first|refine vw ?_ ?_<;>intro hq|refine vz ?_|simp -implicitDefEqProofs only [go_sem,dct h1])
  exact ⟨_,rfl,rfl⟩
 ·(repeat' first|refine vw ?_ ?_<;>intro hq|refine vz ?_|simp -implicitDefEqProofs only [go_sem,dcf h1,kN,cN,iN,kV,cV,iV])
  refine (longC (most:=200) hN hl hs (by omega)).use ?_
  cases h2:longB ns 200 with
  | true=>
   (repeat' first|refine vw ?_ ?_<;>intro hq|refine vz ?_|simp -implicitDefEqProofs only [go_sem,h2])
   exact ⟨_,rfl,rfl⟩
  | false=>
   by_cases h3:(200:Int) < vs.length
   ·(repeat' first|refine vw ?_ ?_<;>intro hq|refine vz ?_|simp -implicitDefEqProofs only [go_sem,h2,hVn,dct h3,kN,cN,iN,kV,cV,iV])
    exact ⟨_,rfl,rfl⟩
   ·(repeat' first|refine vw ?_ ?_<;>intro hq|refine vz ?_|simp -implicitDefEqProofs only [go_sem,h2,hVn,dcf h3,kN,cN,iN,kV,cV,iV])
    refine (greatFC (most:=5000) hL hF hfl (by omega)).use ?_
    (repeat' first|refine vw ?_ ?_<;>intro hq|refine vz ?_|simp -implicitDefEqProofs only [go_sem])
    exact ⟨_,rfl,rfl⟩
end
theorem beyond10_not {x:Ex} {g:List ByteArray} {vs:List Int} {l:List Fc} (h:beyond10 x g vs l=false):nodesE x<=5000/\g.length<=200/\vs.length<=200/\nodesF l<=5000/\l.length<=5000:=by
 unfold beyond10 at h
 simp only [Bool.or_eq_false_iff,decide_eq_false_iff_not] at h
 obtain ⟨a,b,c,d⟩:=h
 obtain ⟨e1,e2,e3,e4,_⟩:=beyond_not (x:=x) (g:=g) (l:=l) (by
  unfold beyondB
  simp only [Bool.or_eq_false_iff,decide_eq_false_iff_not]
  exact ⟨a,b,d⟩)
 exact ⟨e1,e2,vom,e3,e4⟩
theorem app_d0 {σ:AStore} {sz bytes:Nat} {xs:List AVal} (hx:xs≠[]) (hb:xs.length*bytes<=140737488355328) (h1:sz≠0) (h2:bytes≠0):
  aAppend sz bytes (.data sz true []) xs σ=some (.slice σ.next 0 xs.length,σ.alloc (.cells sz xs)):=by
 have hl:¬ xs.length=0:=by cases xs<;>simp_all
 simp only [aAppend,aAppend0,if_neg hl]
 simp [aElems,h1,h2,hb]
end Abs
end
