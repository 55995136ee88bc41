/-
  Functions of the program walked: each is shown to compute a plain function (U1).
-/
import Derived.Test.YtdbkkindfakbfaaGreatT8
set_option linter.unusedSimpArgs false
set_option linter.unusedVariables false
set_option maxRecDepth 100000
set_option maxHeartbeats 16000000
noncomputable section
namespace Abs
open Go Go.Proofs
theorem IsD.take {sz:Nat} {x:AVal} {els:List AVal} (h:IsD sz x els) {k:Nat} (hk:k < els.length):∃ y,(∀ σ:AStore,aSlice sz x none (some (.sc (.int .i64 (k)))) σ=some y)/\IsD sz y (els.take k):=by
 rcases h with ⟨rfl,a,c,rfl⟩|⟨t,rfl⟩
 ·cases hk
 ·refine ⟨.data sz (t && k==els.length) (els.take k),fun σ=>?_,.inr ⟨_,rfl⟩⟩
  have h1:(k:Int)<=(els.length:Int):=by omega
  simp [aSlice,aBounds,optInt,h1]
mutual
def partsE:Ex->Int->Int
 | .mk _ nm _ zs,left=>partsEs zs (left - 1 - nm.size)
def partsEs:List Ex->Int->Int
 | [],left=>left
 | x::xs,left=>if 0<=left then partsEs xs (partsE x left) else left
end
mutual
def allS1:St->Int->Int
 | .mk _ nm v b e,left=>allS e (allS b (partsE v (left - 1 - nm.size)))
def allS:List St->Int->Int
 | [],left=>left
 | x::xs,left=>if 0<=left then allS xs (allS1 x left) else left
end
mutual
theorem partsE_le:∀ (x:Ex) (l:Int),partsE x l<=l
  | .mk _ nm _ zs,l=>by have:=partsEs_le zs (l - 1 - nm.size); simp only [partsE]; omega
theorem partsEs_le:∀ (xs:List Ex) (l:Int),partsEs xs l<=l
  | [],l=>Int.le_refl _
  | x :: xs, l => by
      have h1:=partsE_le x l
      have h2:=partsEs_le xs (partsE x l)
      simp only [partsEs]; split<;>omega
end
mutual
theorem allS1_le:∀ (x:St) (l:Int),allS1 x l<=l
  | .mk _ nm v b e, l => by
      have h1:=partsE_le v (l - 1 - nm.size)
      have h2:=allS_le b (partsE v (l - 1 - nm.size))
      have h3:=allS_le e (allS b (partsE v (l - 1 - nm.size)))
      simp only [allS1]; omega
theorem allS_le:∀ (xs:List St) (l:Int),allS xs l<=l
  | [],l=>Int.le_refl _
  | x :: xs, l => by
      have h1:=allS1_le x l
      have h2:=allS_le xs (allS1 x l)
      simp only [allS]; split<;>omega
end
mutual
theorem partsE_nodes:∀ (x:Ex) (l:Int),0<=partsE x l->partsE x l+nodesE x<=l
  | .mk _ nm _ zs, l, h => by
      simp only [partsE] at h ⊢
      have:=partsEs_nodes zs (l - 1 - nm.size) h
      simp only [nodesE]; omega
theorem partsEs_nodes:∀ (xs:List Ex) (l:Int),0<=partsEs xs l->partsEs xs l+nodesEs xs<=l
  | [],l,h=>by simp [partsEs,nodesEs]
  | x :: xs, l, h => by
      simp only [partsEs] at h ⊢
      split at h
      · rename_i hl
        rw [if_pos hl]
        have h1:=partsEs_nodes xs (partsE x l) h
        have h2:=partsEs_le xs (partsE x l)
        have h3:=partsE_nodes x l (by omega)
        simp only [nodesEs]; omega
      · omega
end
mutual
theorem allS1_nodes:∀ (x:St) (l:Int),0<=allS1 x l->allS1 x l+nodesS x<=l
  | .mk _ nm v b e, l, h => by
      simp only [allS1] at h ⊢
      have h1:=allS_nodes e _ h
      have h2:=allS_le e (allS b (partsE v (l - 1 - nm.size)))
      have h3:=allS_nodes b _ (by omega:0<=allS b (partsE v (l - 1 - nm.size)))
      have h4:=allS_le b (partsE v (l - 1 - nm.size))
      have h5:=partsE_nodes v (l - 1 - nm.size) (by omega)
      simp only [nodesS]; omega
theorem allS_nodes:∀ (xs:List St) (l:Int),0<=allS xs l->allS xs l+nodesSs xs<=l
  | [],l,h=>by simp [allS,nodesSs]
  | x :: xs, l, h => by
      simp only [allS] at h ⊢
      split at h
      · rename_i hl
        rw [if_pos hl]
        have h1:=allS_nodes xs (allS1 x l) h
        have h2:=allS_le xs (allS1 x l)
        have h3:=allS1_nodes x l (by omega)
        simp only [nodesSs]; omega
      · omega
end
theorem partsEs_neg {xs:List Ex} {l:Int} (h:¬ 0<=l):partsEs xs l=l:=by
 cases xs with
 | nil=>rfl
 | cons x xs=>simp only [partsEs,if_neg h]
theorem allS_neg {xs:List St} {l:Int} (h:¬ 0<=l):allS xs l=l:=by
 cases xs with
 | nil=>rfl
 | cons x xs=>simp only [allS,if_neg h]
theorem partsEs_take {xs:List Ex} {j:Nat} {x:Ex} {l r:Int} (h:xs[j]?=some x) (h0:partsEs xs l=partsEs (xs.drop j) r) (hr:0<=r):partsEs xs l=partsEs (xs.drop (j+1)) (partsE x r):=by
 obtain ⟨hj,he⟩:=List.getElem?_eq_some_iff.1 h
 rw [h0,List.drop_eq_getElem_cons hj,he,partsEs,if_pos hr]
theorem allS_take {xs:List St} {j:Nat} {x:St} {l r:Int} (h:xs[j]?=some x) (h0:allS xs l=allS (xs.drop j) r) (hr:0<=r):allS xs l=allS (xs.drop (j+1)) (allS1 x r):=by
 obtain ⟨hj,he⟩:=List.getElem?_eq_some_iff.1 h
 rw [h0,List.drop_eq_getElem_cons hj,he,allS,if_pos hr]
theorem partsStep {k i:Int} {nm:ByteArray} {xs:List Ex} {w:WD} {v:AVal} {left:Int} (h:IsEx (.mk k nm i xs) v) (h1:-4611686018427387904<=left) (h2:left<=1099511627776)
  (rec:∀ y∈xs,∀ (w:WD) (v:AVal) (left:Int),IsEx y v->-4611686018427387904<=left->left<=1099511627776->GivesV (EE w) 24 [v,(.sc (.int .i64 (left)))] (.sc (.int .i64 (partsE y left)))):
  GivesV (EE w) 24 [v,(.sc (.int .i64 (left)))] (.sc (.int .i64 (partsE (.mk k nm i xs) left))):=by
 have hwf:=h.wf
 simp only [IsEx] at h
 obtain ⟨S,els,rfl,hS,hx,hk,hi,hn,hl⟩:=h
 have hlen:=hx.len
 have hSn:=fun σ:AStore=>hS.lenN hlen (σ:=σ)
 have kS:=hS.fit
 have cS:=hS.cells
 have iS:=hS.isCell
 refine GivesV.of (fun _=>.sc _) (.cons _ _ hwf (.cons _ _ (.sc _) .nil)) 1 ?_
 refine of_24 rfl rfl rfl (by kernel_rfl) ?_
 simp -implicitDefEqProofs only [go_sem,kS,cS,iS]
 have g0:(empty.alloc (.cells 4 [.agg [(.sc (.int .i64 (k))),.sc (.string nm),(.sc (.int .i64 (i))),S]])).get 0=some (.cells 4 [.agg [(.sc (.int .i64 (k))),.sc (.string nm),(.sc (.int .i64 (i))),S]]):=by rw [AStore.get_alloc]; rfl
 generalize empty.alloc (.cells 4 [.agg [(.sc (.int .i64 (k))),.sc (.string nm),(.sc (.int .i64 (i))),S]])=τ at g0 ⊢
 have w1:IntKind.i64.wrap (left - 1)=left - 1:=wrap64 (by omega) (by omega)
 have w2:IntKind.i64.wrap (left - 1 - (nm.size:Int))=left - 1 - (nm.size:Int):=wrap64 (by omega) (by omega)
 (repeat' first|refine vw ?_ ?_<;>intro hq|refine vz ?_|simp -implicitDefEqProofs only [go_sem,g0,w1,w2])
 refine vlp (ι:=Int×Nat) (fun p=>[(1,(.sc (.int .i64 (p.1)))),(2,.ptr 0 0 0),(5,(.sc (.int .i64 (p.2))))]) (fun p τ=>p.2<=xs.length/\τ.get 0=some (.cells 4 [.agg [(.sc (.int .i64 (k))),.sc (.string nm),(.sc (.int .i64 (i))),S]])/\p.1<=left/\partsEs xs (left - 1 - (nm.size:Int))=partsEs (xs.drop p.2) p.1) (fun p=>xs.length - p.2) (fun _=>rfl) (left - 1 - (nm.size:Int),0) ?_ ?_ ?_
 ·exact vsu
 ·exact ⟨Nat.zero_le _,g0,vom,rfl⟩
 clear g0 w1 w2
 rintro ⟨r,j⟩ τ ⟨hj,g0,hr,h0⟩
 simp only at hj hr h0
 by_cases hc:j < xs.length/\0<=r
 ·have hlt:(j:Int) < (xs.length:Int):=by omega
  have hr0:(0:Int)<=r:=hc.2
  obtain ⟨x,hx1⟩:∃ x,xs[j]?=some x:=⟨xs[j]'(by omega),by simp⟩
  obtain ⟨e,he,hxe⟩:=hx.at hx1
  obtain ⟨d1,d2,d3⟩:=hxe.isA.facts
  have dc:=hxe.cellsOk
  have hw:=wrapS (i:=j) (by omega)
  simp -implicitDefEqProofs only [go_sem,g0,hSn,kS,cS,iS,dct hlt,dct hr0]
  (repeat' first|refine vw ?_ ?_<;>intro hq|refine vz ?_|simp -implicitDefEqProofs only [go_sem,g0,hSn,kS,cS,iS,dct hlt,dct hr0,hS.idx he,d1,d2,d3,dc])
  refine (rec x (List.mem_of_getElem? hx1) _ e r hxe (by omega) (by omega)).use ?_
  have hle:=partsE_le x r
  (repeat' first|refine vw ?_ ?_<;>intro hq|refine vz ?_|simp -implicitDefEqProofs only [go_sem,hw])
  exact ⟨(partsE x r,j+1),vom,⟨vom,g0,vom,partsEs_take hx1 h0 hr0⟩,vsu⟩
 ·have hres:partsE (.mk k nm i xs) left=r:=by
   simp only [partsE]
   rw [h0]
   by_cases hr0:0<=r
   ·obtain rfl:j=xs.length:=by omega
    rw [List.drop_length]; rfl
   ·exact partsEs_neg hr0
  rw [hres]
  simp -implicitDefEqProofs only [go_sem,g0,hSn]
  (repeat' first|refine vw ?_ ?_<;>intro hq|refine vz ?_|simp -implicitDefEqProofs only [go_sem,g0,hSn])
  all_goals exact ⟨_,rfl,rfl⟩
theorem partsC:∀ {x:Ex} {w:WD} {v:AVal} {left:Int},IsEx x v->-4611686018427387904<=left->left<=1099511627776->GivesV (EE w) 24 [v,(.sc (.int .i64 (left)))] (.sc (.int .i64 (partsE x left)))
 | .mk _ _ _ xs,_,_,_,h,h1,h2=>partsStep h h1 h2 fun x hx _ _ _ h h1 h2=>partsC (x:=x) h h1 h2
termination_by x=>sizeOf x
decreasing_by have:=List.sizeOf_lt_of_mem hx; simp only [Ex.mk.sizeOf_spec]; omega
theorem allLStep {xs:List St} {w:WD} {L:AVal} {els:List AVal} {left:Int} (hL:IsD 8 L els) (hx:IsSts xs els) (hlen:els.length<=281474976710656) (h2:left<=1099511627776)
  (rec:∀ x∈xs,∀ (ys:List St),(∀ k nm v b e,x=.mk k nm v b e->ys=b\/ys=e)->∀ (w:WD) (L:AVal) (els:List AVal) (left:Int),IsD 8 L els->IsSts ys els->els.length<=281474976710656->left<=1099511627776->
   GivesV (EE w) 25 [L,(.sc (.int .i64 (left)))] (.sc (.int .i64 (allS ys left)))):GivesV (EE w) 25 [L,(.sc (.int .i64 (left)))] (.sc (.int .i64 (allS xs left))):=by
 have hln:=hx.len
 have hLn:=fun σ:AStore=>hL.lenN hln (σ:=σ)
 refine GivesV.of (fun _=>.sc _) (.cons _ _ (hL.wf hx.wf) (.cons _ _ (.sc _) .nil)) 1 ?_
 refine of_25 rfl rfl rfl (by kernel_rfl) ?_
 simp -implicitDefEqProofs only [go_sem]
 refine vlp (ι:=Int×Nat) (fun p=>[(0,L),(1,(.sc (.int .i64 (p.1)))),(5,(.sc (.int .i64 (p.2))))]) (fun p τ=>p.2<=xs.length/\p.1<=left/\allS xs left=allS (xs.drop p.2) p.1) (fun p=>xs.length - p.2) (fun _=>rfl) (left,0) ?_ ?_ ?_
 ·exact vsu
 ·exact ⟨Nat.zero_le _,Int.le_refl _,rfl⟩
 rintro ⟨r,j⟩ τ ⟨hj,hr,h0⟩
 simp only at hj hr h0
 by_cases hc:j < xs.length/\0<=r
 ·have hlt:(j:Int) < (xs.length:Int):=by omega
  have hr0:(0:Int)<=r:=hc.2
  obtain ⟨x,hx1⟩:∃ x,xs[j]?=some x:=⟨xs[j]'(by omega),by simp⟩
  obtain ⟨e,he,hxe⟩:=hx.at hx1
  have hmem:=List.mem_of_getElem? hx1
  have hst:=allS_take hx1 h0 hr0
  obtain ⟨k,nm,v,body,els'⟩:=x
  simp only [IsSt] at hxe
  obtain ⟨SA,SB,SE,ea,eb,ee,rfl,hA',ha,hB,hb',hE,hee,h1,h2,h3,h4,h5,h6,h7,h8⟩:=hxe
  have hvx:=ex_of hA' ha h2 h3 h5 h6
  have kA:=hA'.fit
  have cA:=hA'.cells
  have iA:=hA'.isCell
  have kB:=hB.fit
  have cB:=hB.cells
  have iB:=hB.isCell
  have kE:=hE.fit
  have cE:=hE.cells
  have iE:=hE.isCell
  have w1:IntKind.i64.wrap (r - 1)=r - 1:=wrap64 (by omega) (by omega)
  have w2:IntKind.i64.wrap (r - 1 - (nm.size:Int))=r - 1 - (nm.size:Int):=wrap64 (by omega) (by omega)
  have hw:=wrapS (i:=j) (by omega)
  have l1:=partsE_le v (r - 1 - nm.size)
  have l2:=allS_le body (partsE v (r - 1 - nm.size))
  have l3:=allS_le els' (allS body (partsE v (r - 1 - nm.size)))
  simp -implicitDefEqProofs only [go_sem,hLn,dct hlt,dct hr0]
  (repeat' first|refine vw ?_ ?_<;>intro hq|refine vz ?_|simp -implicitDefEqProofs only [go_sem,hLn,dct hlt,dct hr0])
  ((try (refine Z_seq ?_; (try simp -implicitDefEqProofs only [go_sem]))); refine Z_draw (by kernel_rfl) [0,1,2,3,4,5,6,7,8,9,10,11,12,13,14,15] [(15,32767),(14,16383),(13,8160),(12,3968),(11,1920),(10,896),(9,384),(8,0),(7,0),(6,32),(5,0),(4,15),(3,7),(2,3),(1,0),(0,0)] (by kernel_rfl) (by kernel_rfl) ?_)
  simp -implicitDefEqProofs only [go_sem,hL.idx he,kA,cA,iA,kB,cB,iB,kE,cE,iE,w1,w2]
  refine (partsC hvx (by omega) (by omega)).useD ?_
  simp -implicitDefEqProofs only [go_sem]
  (repeat' first|refine vw ?_ ?_<;>intro hq|refine vz ?_|simp -implicitDefEqProofs only [go_sem,hL.idx he,kA,cA,iA,kB,cB,iB,kE,cE,iE])
  refine (rec _ hmem body (fun _ _ _ _ _ h=>by cases h; exact .inl rfl) _ SB eb _ hB hb' h7 (by omega)).use ?_
  (repeat' first|refine vw ?_ ?_<;>intro hq|refine vz ?_|simp -implicitDefEqProofs only [go_sem,hL.idx he,kA,cA,iA,kB,cB,iB,kE,cE,iE])
  refine (rec _ hmem els' (fun _ _ _ _ _ h=>by cases h; exact .inr rfl) _ SE ee _ hE hee h8 (by omega)).use ?_
  (repeat' first|refine vw ?_ ?_<;>intro hq|refine vz ?_|simp -implicitDefEqProofs only [go_sem,hw])
  exact ⟨(allS els' (allS body (partsE v (r - 1 - nm.size))),j+1),vom,⟨vom,vom,by rw [hst]; rfl⟩,vsu⟩
 ·have hres:allS xs left=r:=by
   rw [h0]
   by_cases hr0:0<=r
   ·obtain rfl:j=xs.length:=by omega
    rw [List.drop_length]; rfl
   ·exact allS_neg hr0
  rw [hres]
  simp -implicitDefEqProofs only [go_sem,hLn]
  (repeat' first|refine vw ?_ ?_<;>intro hq|refine vz ?_|simp -implicitDefEqProofs only [go_sem,hLn])
  all_goals exact ⟨_,rfl,rfl⟩
theorem allLC:∀ {N:Nat} {xs:List St} {w:WD} {L:AVal} {els:List AVal} {left:Int},nodesSs xs<=N->IsD 8 L els->IsSts xs els->els.length<=281474976710656->left<=1099511627776->GivesV (EE w) 25 [L,(.sc (.int .i64 (left)))] (.sc (.int .i64 (allS xs left)))
  | 0, xs, w, L, els, left, hN, hL, hx, hl, h2 => allLStep hL hx hl h2 fun x hx => by
      obtain ⟨j,hj⟩:=List.getElem?_of_mem hx
      have h1:=nodesS_at hj
      obtain ⟨k,nm,v,b,e⟩:=x
      have:=nodesE_pos v
      simp only [nodesS] at h1
      omega
  | N + 1, xs, w, L, els, left, hN, hL, hx, hl, h2 => allLStep hL hx hl h2 fun x hx ys hy w L els left hL' hx' hl' h2' => by
      obtain ⟨j,hj⟩:=List.getElem?_of_mem hx
      have h1:=nodesS_at hj
      obtain ⟨k,nm,v,b,e⟩:=x
      have:=nodesE_pos v
      simp only [nodesS] at h1
      rcases hy _ _ _ _ _ rfl with rfl|rfl
      · exact allLC (N:=N) (by omega) hL' hx' hl' h2'
      · exact allLC (N:=N) (by omega) hL' hx' hl' h2'
theorem greatC {x:Ex} {w:WD} {v:AVal} {most:Int} (h:IsEx x v) (h1:0<=most) (h2:most<=1099511627776):GivesV (EE w) 16 [v,(.sc (.int .i64 (most)))] (.sc (.bool (decide (partsE x most < 0)))):=by
 obtain ⟨c1,c2,c3⟩:=h.isA.facts
 have cc:=h.cellsOk
 have hfit:v.fit=true:=by obtain ⟨cs,rfl,_⟩:=h.isA; rfl
 refine GivesV.of (fun _=>.sc _) (.cons _ _ h.wf (.cons _ _ (.sc _) .nil)) 1 ?_
 refine of_16 rfl rfl rfl (by kernel_rfl) ?_
 simp -implicitDefEqProofs only [go_sem,c1,c2,c3,cc,hfit]
 have g0:(empty.alloc (.cells 4 [v])).get 0=some (.cells 4 [v]):=by rw [AStore.get_alloc]; rfl
 generalize empty.alloc (.cells 4 [v])=τ at g0 ⊢
 (repeat' first|refine vw ?_ ?_<;>intro hq|refine vz ?_|simp -implicitDefEqProofs only [go_sem,g0,c1,c2,c3,cc,hfit])
 refine (partsC h (by omega) h2).use ?_
 (repeat' first|refine vw ?_ ?_<;>intro hq|refine vz ?_|simp -implicitDefEqProofs only [go_sem])
 exact ⟨_,rfl,rfl⟩
def sumL (l:List ByteArray):Nat:=(l.map fun s=>s.size).sum
def longB (l:List ByteArray) (most:Nat):Bool:=decide (most < sumL l) || decide (most < l.length)
theorem sumL_take {l:List ByteArray} {j:Nat} {s:ByteArray} (h:l[j]?=some s):sumL (l.take (j+1))=sumL (l.take j)+s.size:=by
 obtain ⟨hj,he⟩:=List.getElem?_eq_some_iff.1 h
 rw [List.take_succ_eq_append_getElem hj,he]
 simp [sumL]
theorem sumL_le {l:List ByteArray} {j:Nat}:sumL (l.take j)<=sumL l:=by
 have:sumL l=sumL (l.take j)+sumL (l.drop j):=by
  conv=>lhs; rw [<-List.take_append_drop j l]
  simp only [sumL,List.map_append,List.sum_append]
 omega
theorem longC {w:WD} {A:AVal} {l:List ByteArray} {most:Nat} (hA:IsD 1 A (l.map sA)) (la:l.length<=281474976710656) (hs:∀ s∈l,s.size<=281474976710656) (hm:most<=1099511627776):
  GivesV (EE w) 17 [A,(.sc (.int .i64 (most)))] (.sc (.bool (longB l most))):=by
 have hAn:∀ σ:AStore,aLen (.slice 0) A σ=some (.sc (.int .i64 (l.length))):=fun σ=>by have:=hA.len (σ:=σ); rwa [List.length_map] at this
 refine GivesV.of (fun _=>.sc _) (.cons _ _ (hA.wf (wf_sA _)) (.cons _ _ (.sc _) .nil)) 1 ?_
 refine of_17 rfl rfl rfl (by kernel_rfl) ?_
 simp -implicitDefEqProofs only [go_sem]
 refine vlp (ι:=Nat) (fun j=>[(0,A),(1,(.sc (.int .i64 (most)))),(5,(.sc (.int .i64 (sumL (l.take j))))),(6,(.sc (.int .i64 (j))))]) (fun j _=>j<=l.length/\(sumL (l.take j)<=most+281474976710656)) (fun j=>l.length - j) (fun _=>rfl) 0 ?_ ?_ ?_
 ·exact vsu
 ·exact ⟨Nat.zero_le _,by simp [sumL]⟩
 rintro j τ ⟨hj,h0⟩
 by_cases hc:j < l.length/\sumL (l.take j)<=most
 ·have hlt:(j:Int) < (l.length:Int):=by omega
  have hle:(sumL (l.take j):Int)<=(most:Int):=by omega
  obtain ⟨x,hx⟩:∃ x,l[j]?=some x:=⟨l[j]'(by omega),by simp⟩
  have hx':(l.map sA)[j]?=some (.sc (.string x)):=by rw [List.getElem?_map,hx]; rfl
  have hw:=wrapS (i:=j) (by omega)
  have hxs:=hs x (List.mem_of_getElem? hx)
  have htk:=sumL_take hx
  have w1:IntKind.i64.wrap ((sumL (l.take j):Int)+(x.size:Int))=(sumL (l.take (j+1)):Int):=by rw [wrap64 (by omega) (by omega),htk]; omega
  simp -implicitDefEqProofs only [go_sem,hAn,dct hlt,dct hle]
  (repeat' first|refine vw ?_ ?_<;>intro hq|refine vz ?_|simp -implicitDefEqProofs only [go_sem,hAn,dct hlt,dct hle,hA.idx hx',w1,hw])
  exact ⟨j+1,vom,⟨vom,vom⟩,vsu⟩
 ·have hsl:=sumL_le (l:=l) (j:=j)
  have hres:longB l most=(decide ((most:Int) < (sumL (l.take j):Int)) || decide ((most:Int) < (l.length:Int))):=by
   unfold longB
   by_cases hj2:j < l.length
   ·have h3:most < sumL (l.take j):=by omega
    rw [dct (show most < sumL l by omega),dct (show (most:Int) < (sumL (l.take j):Int) by omega)]; rfl
   ·obtain rfl:j=l.length:=by omega
    rw [List.take_length]
    congr 1
    ·exact decide_eq_decide.2 (by omega)
    ·exact decide_eq_decide.2 (by omega)
  rw [hres]
  by_cases hj2:(j:Int) < (l.length:Int)
  ·have h3:¬ (sumL (l.take j):Int)<=(most:Int):=by omega
   have h4:(most:Int) < (sumL (l.take j):Int):=by omega
   simp -implicitDefEqProofs only [go_sem,hAn,dct hj2,dcf h3,dct h4]
   (repeat' first|refine vw ?_ ?_<;>intro hq|refine vz ?_|simp -implicitDefEqProofs only [go_sem,hAn,dct hj2,dcf h3,dct h4])
   exact ⟨_,rfl,rfl⟩
  ·by_cases h4:(most:Int) < (sumL (l.take j):Int)
   ·simp -implicitDefEqProofs only [go_sem,hAn,dcf hj2,dct h4]
    (repeat' first|refine vw ?_ ?_<;>intro hq|refine vz ?_|simp -implicitDefEqProofs only [go_sem,hAn,dcf hj2,dct h4])
    exact ⟨_,rfl,rfl⟩
   ·simp -implicitDefEqProofs only [go_sem,hAn,dcf hj2,dcf h4]
    (repeat' first|refine vw ?_ ?_<;>intro hq|refine vz ?_|simp -implicitDefEqProofs only [go_sem,hAn,dcf hj2,dcf h4])
    exact ⟨_,rfl,rfl⟩
def greatF (most:Nat):List Fc->Int->Bool
 | [],left=>decide (left < 0)
 | f::fs,left=>if 0<=left then (longB f.ps most || greatF most fs (allS f.body (left - 1 - f.nm.size))) else true
theorem greatF_neg {most:Nat} {fs:List Fc} {l:Int} (h:¬ 0<=l):greatF most fs l=true:=by
 cases fs with
 | nil=>exact dct (by omega)
 | cons x xs=>simp only [greatF,if_neg h]
theorem greatF_nodes {most:Nat}:∀ {fs:List Fc} {l:Int},greatF most fs l=false->0<=l/\nodesF fs+fs.length<=l/\∀ f∈fs,f.ps.length<=most/\sumL f.ps<=most
  | [], l, h => by
      simp only [greatF,decide_eq_false_iff_not] at h
      exact ⟨by omega,by simp [nodesF]; omega,by simp⟩
  | f :: fs, l, h => by
      simp only [greatF] at h
      split at h
      · rename_i hl
        simp only [Bool.or_eq_false_iff] at h
        obtain ⟨h1,h2⟩:=h
        obtain ⟨a,b,c⟩:=greatF_nodes h2
        have d:=allS_nodes f.body _ a
        have e:nodesF (f::fs)=nodesSs f.body+nodesF fs:=by simp [nodesF]
        refine ⟨hl,by rw [e,List.length_cons]; omega,?_⟩
        intro x hx
        rcases List.mem_cons.1 hx with rfl|hx
        · simp only [longB,Bool.or_eq_false_iff,decide_eq_false_iff_not] at h1
          omega
        · exact c x hx
      · cases h
theorem greatF_take {most:Nat} {fs:List Fc} {j:Nat} {f:Fc} {l r:Int} (h:fs[j]?=some f) (h0:greatF most fs l=greatF most (fs.drop j) r) (hr:0<=r):greatF most fs l=(longB f.ps most || greatF most (fs.drop (j+1)) (allS f.body (r - 1 - f.nm.size))):=by
 obtain ⟨hj,he⟩:=List.getElem?_eq_some_iff.1 h
 rw [h0,List.drop_eq_getElem_cons hj,he,greatF,if_pos hr]
theorem greatFC {fs:List Fc} {w:WD} {L:AVal} {els:List AVal} {most:Nat} (hL:IsD 3 L els) (hl:IsFcs fs els) (hlen:els.length<=281474976710656) (hm:most<=1099511627776):
  GivesV (EE w) 18 [L,(.sc (.int .i64 (most)))] (.sc (.bool (greatF most fs most))):=by
 have hll:=hl.len
 have hLn:=fun σ:AStore=>hL.lenN hll (σ:=σ)
 refine GivesV.of (fun _=>.sc _) (.cons _ _ (hL.wf hl.wf) (.cons _ _ (.sc _) .nil)) 1 ?_
 refine of_18 rfl rfl rfl (by kernel_rfl) ?_
 simp -implicitDefEqProofs only [go_sem]
 refine vlp (ι:=Int×Nat) (fun p=>[(0,L),(1,(.sc (.int .i64 (most)))),(5,(.sc (.int .i64 (p.1)))),(6,(.sc (.int .i64 (p.2))))]) (fun p τ=>p.2<=fs.length/\p.1<=most/\greatF most fs most=greatF most (fs.drop p.2) p.1) (fun p=>fs.length - p.2) (fun _=>rfl) ((most:Int),0) ?_ ?_ ?_
 ·exact vsu
 ·exact ⟨Nat.zero_le _,Int.le_refl _,rfl⟩
 rintro ⟨r,j⟩ τ ⟨hj,hr,h0⟩
 simp only at hj hr h0
 by_cases hc:j < fs.length/\0<=r
 ·have hlt:(j:Int) < (fs.length:Int):=by omega
  have hr0:(0:Int)<=r:=hc.2
  obtain ⟨f,hf⟩:∃ f,fs[j]?=some f:=⟨fs[j]'(by omega),by simp⟩
  obtain ⟨e,he,hfe⟩:=hl.at' j f hf
  obtain ⟨SP,SB,eb,rfl,hP,hB,hb',h1,h2,h3,h4⟩:=hfe
  have hst:=greatF_take hf h0 hr0
  have kP:=hP.fit
  have cP:=hP.cells
  have iP:=hP.isCell
  have kB:=hB.fit
  have cB:=hB.cells
  have iB:=hB.isCell
  have w1:IntKind.i64.wrap (r - 1)=r - 1:=wrap64 (by omega) (by omega)
  have w2:IntKind.i64.wrap (r - 1 - (f.nm.size:Int))=r - 1 - (f.nm.size:Int):=wrap64 (by omega) (by omega)
  have hw:=wrapS (i:=j) (by omega)
  have l1:=allS_le f.body (r - 1 - f.nm.size)
  simp -implicitDefEqProofs only [go_sem,hLn,dct hlt,dct hr0]
  (repeat' first|refine vw ?_ ?_<;>intro hq|refine vz ?_|simp -implicitDefEqProofs only [go_sem,hLn,dct hlt,dct hr0,hL.idx he,kP,cP,iP,kB,cB,iB])
  refine (longC hP h3 h2 hm).use ?_
  cases hlo:longB f.ps most with
  | true=>
   rw [hlo] at hst
   rw [hst]
   (repeat' first|refine vw ?_ ?_<;>intro hq|refine vz ?_|simp -implicitDefEqProofs only [go_sem,hlo])
   exact ⟨_,rfl,rfl⟩
  | false=>
   rw [hlo] at hst
   (repeat' first|refine vw ?_ ?_<;>intro hq|refine vz ?_|simp -implicitDefEqProofs only [go_sem,hlo])
   ((try (refine Z_seq ?_; (try simp -implicitDefEqProofs only [go_sem]))); refine Z_draw (by kernel_rfl) [0,1,2,3,4,5,6,7,8,9,10,11,12,13,14,15] [(15,32767),(14,16383),(13,8160),(12,3968),(11,1920),(10,896),(9,384),(8,0),(7,0),(6,32),(5,0),(4,15),(3,7),(2,3),(1,0),(0,0)] (by kernel_rfl) (by kernel_rfl) ?_)
   simp -implicitDefEqProofs only [go_sem,hL.idx he,kP,cP,iP,kB,cB,iB,w1,w2]
   refine (allLC (Nat.le_refl _) hB hb' h4 (by omega)).useD ?_
   simp -implicitDefEqProofs only [go_sem]
   (repeat' first|refine vw ?_ ?_<;>intro hq|refine vz ?_|simp -implicitDefEqProofs only [go_sem,hw])
   exact ⟨(allS f.body (r - 1 - f.nm.size),j+1),vom,⟨vom,vom,by rw [hst]; rfl⟩,vsu⟩
 ·have hres:greatF most fs most=decide (r < 0):=by
   rw [h0]
   by_cases hr0:0<=r
   ·obtain rfl:j=fs.length:=by omega
    rw [List.drop_length]; rfl
   ·rw [greatF_neg hr0]; exact (dct (by omega)).symm
  rw [hres]
  simp -implicitDefEqProofs only [go_sem,hLn]
  (repeat' first|refine vw ?_ ?_<;>intro hq|refine vz ?_|simp -implicitDefEqProofs only [go_sem,hLn])
  all_goals exact ⟨_,rfl,rfl⟩
def beyondB (x:Ex) (g:List ByteArray) (l:List Fc):Bool:=decide (partsE x 5000 < 0) || (longB g 200 || greatF 5000 l 5000)
theorem beyond_not {x:Ex} {g:List ByteArray} {l:List Fc} (h:beyondB x g l=false):nodesE x<=5000/\g.length<=200/\nodesF l<=5000/\l.length<=5000/\∀ f∈l,f.ps.length<=5000:=by
 unfold beyondB at h
 simp only [Bool.or_eq_false_iff,decide_eq_false_iff_not] at h
 obtain ⟨h1,h2,h3⟩:=h
 obtain ⟨a,b,c⟩:=greatF_nodes h3
 have d:=partsE_nodes x 5000 (by omega)
 have e:=partsE_le x 5000
 simp only [longB,Bool.or_eq_false_iff,decide_eq_false_iff_not] at h2
 exact ⟨vom,vom,vom,vom,fun f hf=>(c f hf).1⟩
end Abs
end
