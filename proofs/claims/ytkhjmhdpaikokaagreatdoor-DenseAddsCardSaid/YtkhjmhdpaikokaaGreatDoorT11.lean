/-
  Functions of the program walked: each is shown to compute a plain function (T11).
-/
import Derived.Test.YtkhjmhdpaikokaaGreatDoorT1
set_option linter.unusedSimpArgs false
set_option linter.unusedVariables false
set_option maxRecDepth 100000
set_option maxHeartbeats 16000000
noncomputable section
namespace Abs
open Go Go.Proofs
theorem checkExpC {w:WD} {x:Ex} {v:AVal} (h:IsEx x v) (hb:nodesE x<=1099511627776):GivesV (EE w) 131 [v] (.sc (.int .i64 (checkE nameB x))):=by
 have hwf:=h.wf
 obtain ⟨c1,c2,c3⟩:=h.isA.facts
 have cc:=h.cellsOk
 have hfit:v.fit=true:=by obtain ⟨cs,rfl,_⟩:=h.isA; rfl
 have hF:=fun w:WD=>formedC (w:=w) h
 have hZ:=fun w:WD=>expSizeC (w:=w) h hb
 refine GivesV.of gWF (.cons _ _ hwf .nil) 1 ?_
 refine of_131 rfl rfl rfl (by kernel_rfl) ?_
 simp -implicitDefEqProofs only [go_sem,hfit,c1,c2,c3,cc]
 refine (hF _).use ?_
 unfold checkE
 cases formedB nameB x with
 | false=>
  (repeat' first|refine vw ?_ ?_<;>intro hq|refine vz ?_|simp -implicitDefEqProofs only [go_sem])
  exact ⟨_,rfl,rfl⟩
 | true=>
  (repeat' first|refine vw ?_ ?_<;>intro hq|refine vz ?_|simp -implicitDefEqProofs only [go_sem,c1,c2,c3])
  refine (hZ _).use ?_
  simp -implicitDefEqProofs only [go_sem]
  refine smallC.use ?_
  have e1:(decide (nodesE x<=400) && decide (depthE x<=30) && !!fewE x)=smallE x:=by unfold smallE; rw [Bool.not_not]
  rw [e1]
  cases smallE x with
  | false=>
   (repeat' first|refine vw ?_ ?_<;>intro hq|refine vz ?_|simp -implicitDefEqProofs only [go_sem])
   exact ⟨_,rfl,rfl⟩
  | true=>
   (repeat' first|refine vw ?_ ?_<;>intro hq|refine vz ?_|simp -implicitDefEqProofs only [go_sem])
   exact ⟨_,rfl,rfl⟩
/-- Functions side by side. -/
structure IsFcs (l:List Fc) (els:List AVal):Prop where
 len:els.length=l.length
 at':∀ (j:Nat) f,l[j]?=some f->∃ e,els[j]?=some e/\IsFc f e
theorem IsFcs.all {l:List Fc} {els:List AVal} (h:IsFcs l els) {e:AVal} {j:Nat} (he:els[j]?=some e):∃ x,l[j]?=some x/\IsFc x e:=by
 have hj:j < l.length:=by
  rw [<-h.len]
  rcases Nat.lt_or_ge j els.length with h'|h'
  ·exact h'
  ·rw [List.getElem?_eq_none h'] at he; cases he
 obtain ⟨x,hx⟩:∃ x,l[j]?=some x:=⟨l[j],by simp [hj]⟩
 obtain ⟨e',h1,h2⟩:=h.at' j x hx
 rw [he] at h1; cases h1
 exact ⟨x,hx,h2⟩
theorem IsFcs.wf {l:List Fc} {els:List AVal} (h:IsFcs l els):WFs 0 els:=WFs.of fun e he=>by
 obtain ⟨j,hj,rfl⟩:=List.mem_iff_getElem.1 he
 obtain ⟨x,_,h2⟩:=h.all (List.getElem?_eq_getElem hj)
 exact h2.wf
theorem IsD.lenN {sz:Nat} {x:AVal} {els:List AVal} (h:IsD sz x els) {n:Nat} (hn:els.length=n) {σ:AStore}:aLen (.slice 0) x σ=some (.sc (.int .i64 n)):=by rw [<-hn]; exact h.len
theorem fc_nil {fs:List Fc} {els:List AVal} (h:IsFcs fs els) (h0:fs.length<=0):fs=[]/\els=[]:=by
 have h1:fs=[]:=List.length_eq_zero_iff.1 (by omega)
 subst h1
 exact ⟨rfl,List.length_eq_zero_iff.1 (by have:=h.len; simpa using this)⟩
theorem smallFuncs0C {w:WD} {L:AVal} (hL:IsD 3 L []):GivesV (EE w) 88 [L] (.sc (.bool (true))):=by
 refine GivesV.of gWF (.cons _ _ (hL.wf .nil) .nil) 1 ?_
 have hLn:∀ σ:AStore,aLen (.slice 0) L σ=some (.sc (.int .i64 (0))):=fun σ=>hL.len (σ:=σ)
 refine of_88 rfl rfl rfl (by kernel_rfl) ?_
 simp -implicitDefEqProofs only [go_sem,hLn]
 (try (repeat' first|refine vw ?_ ?_<;>intro hq|refine vz ?_|simp -implicitDefEqProofs only [go_sem,hLn]))
 have g0:(empty.alloc (.cells 3 [mA 0 0 false])).get 0=some (.cells 3 [mA 0 0 false]):=by rw [AStore.get_alloc]; rfl
 refine vlp (ι:=Unit) (fun _=>[(0,L),(3,.ptr 0 0 0),(9,L),(10,(.sc (.int .i64 (0)))),(11,(.sc (.int .i64 (0))))]) (fun _ σ=>σ.get 0=some (.cells 3 [mA 0 0 false])) (fun _=>0) (fun _=>rfl) () ?_ ?_ ?_
 ·exact vsu
 ·exact g0
 rintro _ σ g0
 have e0:decide ((0:Int) < 0)=false:=rfl
 simp -implicitDefEqProofs only [go_sem,e0]
 (repeat' first|refine vw ?_ ?_<;>intro hq|refine vz ?_|simp -implicitDefEqProofs only [go_sem,e0,g0,mA,hLn])
 refine (smallC (n:=0) (d:=0) (b:=false)).use ?_
 have e1:decide ((0:Int)<=8)=true:=rfl
 simp -implicitDefEqProofs only [go_sem,hLn,e1]
 (try (repeat' first|refine vw ?_ ?_<;>intro hq|refine vz ?_|simp -implicitDefEqProofs only [go_sem,hLn,e1]))
 exact ret_bool rfl
theorem checkFuncsC {w:WD} {L:AVal} {els:List AVal} {l:List Fc} (hL:IsD 3 L els) (hl:IsFcs l els) (hlen:els.length<=281474976710656) (hb:l.length<=0):
  GivesV (EE w) 45 [L] (.sc (.int .i64 (checkF nameB l))):=by
 obtain ⟨rfl,rfl⟩:=fc_nil hl hb
 rw [show checkF nameB []=0 from rfl]
 refine GivesV.of gWF (.cons _ _ (hL.wf .nil) .nil) 1 ?_
 have hLn:∀ σ:AStore,aLen (.slice 0) L σ=some (.sc (.int .i64 (0))):=fun σ=>hL.len (σ:=σ)
 refine of_45 rfl rfl rfl (by kernel_rfl) ?_
 simp -implicitDefEqProofs only [go_sem,hLn]
 (try (repeat' first|refine vw ?_ ?_<;>intro hq|refine vz ?_|simp -implicitDefEqProofs only [go_sem,hLn]))
 refine vlp (ι:=Unit) (fun _=>[(0,L),(5,L),(6,(.sc (.int .i64 (0)))),(7,(.sc (.int .i64 (0))))]) (fun _ σ=>True) (fun _=>0) (fun _=>rfl) () ?_ ?_ ?_
 ·exact vsu
 ·trivial
 rintro _ σ _
 have e0:decide ((0:Int) < 0)=false:=rfl
 simp -implicitDefEqProofs only [go_sem,e0]
 (repeat' first|refine vw ?_ ?_<;>intro hq|refine vz ?_|simp -implicitDefEqProofs only [go_sem,e0,hLn])
 refine (smallFuncs0C hL).use ?_
 (repeat' first|refine vw ?_ ?_<;>intro hq|refine vz ?_|simp -implicitDefEqProofs only [go_sem])
 exact ⟨_,rfl,rfl⟩
/-- Old blocks are as they were. -/
def KeepS (σ σ':AStore):Prop:=σ.next<=σ'.next/\∀ b y,σ.get b=some y->σ'.get b=some y
theorem KeepS.refl (σ:AStore):KeepS σ σ:=⟨Nat.le_refl _,fun _ _ h=>h⟩
theorem KeepS.trans {a b c:AStore} (h:KeepS a b) (h':KeepS b c):KeepS a c:=⟨Nat.le_trans h.1 h'.1,fun x y hx=>h'.2 x y (h.2 x y hx)⟩
theorem KeepS.alloc (σ:AStore) (x:ABlk):KeepS σ (σ.alloc x):=⟨by rw [alloc_next]; omega,fun b y h=>get_alloc_old h⟩
theorem KeepS.set {a b:AStore} (h:KeepS a b) {i:Nat} (hi:a.next<=i) (x:ABlk):KeepS a (b.set i x):=
 ⟨by rw [set_next]; exact h.1,fun j y hj=>by
  have:=AStore.lt_of_get hj
  rw [AStore.get_set,if_neg (by omega)]; exact h.2 j y hj⟩
def Nm (m:List (ByteArray×AVal)) (g o:List ByteArray):Prop:=∀ k,(getM m k).map (·.2)=if k∈o then some (.sc (.bool (true))) else if k∈g then some (.sc (.bool (false))) else none
def Cm (q:List (ByteArray×AVal)) (l:List Fc):Prop:=∀ k,(getM q k).map (·.2)=(fcOf l k).map fun f=>(.sc (.int .i64 (f.ps.length)))
structure Sc (σ:AStore) (ps mn mc:Nat) (m q:List (ByteArray×AVal)):Prop where
 p:σ.get ps=some (.cells 2 [.agg [.map mn,.map mc]])
 n:∃ c,σ.get mn=some (.map (strM m) c)
 c:∃ c,σ.get mc=some (.map (strM q) c)
 ne:mn≠mc
theorem Sc.keep {σ σ':AStore} {ps mn mc:Nat} {m q:List (ByteArray×AVal)} (h:Sc σ ps mn mc m q) (hk:KeepS σ σ'):Sc σ' ps mn mc m q:=by
 obtain ⟨p,⟨c1,n⟩,⟨c2,c⟩,ne⟩:=h
 exact ⟨hk.2 _ _ p,⟨c1,hk.2 _ _ n⟩,⟨c2,hk.2 _ _ c⟩,ne⟩
theorem lk_strS {σ:AStore} {z:Value} {b:Nat} {k:Value} {ok:Bool}:aLookup .string z ok (.map b) (.sc k) σ=lkAt .string z ok k (σ.get b):=aLookup_map rfl
theorem lk_at {z:Value} {m:List (ByteArray×AVal)} {c:Nat} {k:ByteArray}:lkAt .string z true (.string k) (some (.map (strM m) c))=some (lkOut true z ((getM m k).map (·.2))):=by
 rw [lkAt_map,aFind_str]
 cases getM m k with
 | none=>rfl
 | some q=>rfl
theorem lk_nm {m:List (ByteArray×AVal)} {g o:List ByteArray} (h:Nm m g o) {c:Nat} {k:ByteArray}:lkAt .string (.bool false) true (.string k) (some (.map (strM m) c))=some (.tuple [(.sc (.bool (decide (k∈o)))),(.sc (.bool (decide (k∈g\/k∈o))))]):=by
 rw [lk_at,h k]
 by_cases h1:k∈o
 ·simp [h1,lkOut]
 ·by_cases h2:k∈g
  ·simp [h1,h2,lkOut]
  ·simp [h1,h2,lkOut,absV]
theorem lk_cm {q:List (ByteArray×AVal)} {l:List Fc} (h:Cm q l) {c:Nat} {k:ByteArray}:lkAt .string (.int .i64 0) true (.string k) (some (.map (strM q) c))=some (.tuple [(.sc (.int .i64 ((match fcOf l k with|some f=>(f.ps.length:Int)|none=>0)))),(.sc (.bool ((fcOf l k).isSome)))]):=by
 rw [lk_at,h k]
 cases fcOf l k<;>rfl
theorem expEs_eq {g o:List ByteArray} {l:List Fc}:∀ {xs:List Ex} {i:Nat} {x:Ex},xs[i]?=some x->expEs g o l (xs.take i)=0->expE g o l x≠0->expEs g o l xs=expE g o l x
  | [],i,x,h,_,_=>by simp at h
  | y :: xs, 0, x, h, _, hne => by
      simp at h; subst h
      unfold expEs
      split
      · rename_i h0; exact absurd h0 hne
      · rfl
  | y :: xs, i + 1, x, h, h0, hne => by
      simp only [List.take_succ_cons] at h0
      unfold expEs at h0 ⊢
      split at h0
      · exact expEs_eq (by simpa using h) h0 hne
      · rename_i hh; exact absurd h0 hh
theorem expEs_take {g o:List ByteArray} {l:List Fc}:∀ {xs:List Ex} {i:Nat} {x:Ex},xs[i]?=some x->expEs g o l (xs.take i)=0->expE g o l x=0->expEs g o l (xs.take (i+1))=0
  | [],i,x,h,_,_=>by simp at h
  | y :: xs, 0, x, h, _, h0 => by
      simp at h; subst h
      simp [expEs,h0]
  | y :: xs, i + 1, x, h, h1, h0 => by
      simp only [List.take_succ_cons] at h1 ⊢
      unfold expEs at h1 ⊢
      split at h1
      · exact expEs_take (by simpa using h) h1 h0
      · rename_i hh; exact absurd h1 hh
theorem expE_mk {g o : List ByteArray} {l : List Fc} {k i : Int} {nm : ByteArray} {xs : List Ex} : expE g o l (.mk k nm i xs) = if expEs g o l xs = 0 then (if k = 2 then (if nm ∈ g ∨ nm ∈ o then 0 else 90)
      else if k=19 then (match fcOf l nm with
        | none=>90
        | some f=>if f.ps.length=xs.length then 0 else 91)
      else 0) else expEs g o l xs:=by
  unfold expE
  by_cases h:expEs g o l xs=0
  · rw [if_pos h,h]; rfl
  · rw [if_neg h]
    split
    · rename_i hh; exact absurd hh h
    · rfl
theorem tExpStep {k i:Int} {nm:ByteArray} {xs:List Ex} {w:WD} {v:AVal} {g o:List ByteArray} {l:List Fc} (h:IsEx (.mk k nm i xs) v)
  (rec:∀ y∈xs,∀ (w:WD) (v:AVal) (σ:AStore) (ps mn mc:Nat) (m q:List (ByteArray×AVal)),IsEx y v->Sc σ ps mn mc m q->Nm m g o->Cm q l->ACalls (EE w) 132 [.ptr ps 0 0,v] σ fun e σ'=>e=.ret (.sc (.int .i64 (expE g o l y)))/\KeepS σ σ')
  {σ:AStore} {ps mn mc:Nat} {m q:List (ByteArray×AVal)} (hs:Sc σ ps mn mc m q) (hm:Nm m g o) (hq:Cm q l):
  ACalls (EE w) 132 [.ptr ps 0 0,v] σ fun e σ'=>e=.ret (.sc (.int .i64 (expE g o l (.mk k nm i xs))))/\KeepS σ σ':=by
 simp only [IsEx] at h
 obtain ⟨S,els,rfl,hS,hx,hk,hi,hn,hl⟩:=h
 have hlen:=hx.len
 have hSn:=fun σ:AStore=>hS.lenN hlen (σ:=σ)
 have kS:=hS.fit
 have cS:=hS.cells
 have iS:=hS.isCell
 obtain ⟨p1,⟨n1,p2⟩,⟨n2,p3⟩,pne⟩:=hs
 have b1:=AStore.lt_of_get p1
 have b2:=AStore.lt_of_get p2
 have b3:=AStore.lt_of_get p3
 refine of_132 rfl rfl rfl (by kernel_rfl) ?_
 simp -implicitDefEqProofs only [go_sem,kS,cS,iS,hSn]
 refine vlp (ι:=Nat) (fun j=>[(0,.ptr ps 0 0),(3,.ptr σ.next 0 0),(13,S),(14,(.sc (.int .i64 (xs.length)))),(15,(.sc (.int .i64 (j))))]) (fun j τ=>j<=xs.length/\KeepS σ τ/\τ.get σ.next=some (.cells 4 [.agg [(.sc (.int .i64 (k))),.sc (.string nm),(.sc (.int .i64 (i))),S]])/\expEs g o l (xs.take j)=0) (fun j=>xs.length - j) (fun _=>rfl) 0 ?_ ?_ ?_
 ·exact vsu
 ·exact ⟨Nat.zero_le _,KeepS.alloc _ _,by rw [AStore.get_alloc,if_pos rfl],by simp [expEs]⟩
 rintro j τ ⟨hj,hkp,hg,h0⟩
 simp -implicitDefEqProofs only [go_sem]
 (refine vif ?_ ?_<;>intro hlt)
 ·obtain ⟨x,hx1⟩:∃ x,xs[j]?=some x:=⟨xs[j]'(by omega),by simp⟩
  obtain ⟨e,he,hxe⟩:=hx.at hx1
  obtain ⟨c1,c2,c3⟩:=hxe.isA.facts
  have cc:=hxe.cellsOk
  have hsp:=fun a b c d=>hxe.splice (a:=a) (b:=b) (c:=c) (d:=d)
  have hw:=wrapS (i:=j) (by omega)
  (repeat' first|refine vw ?_ ?_<;>intro hq|refine vz ?_|simp -implicitDefEqProofs only [go_sem,hS.idx he,c1,c2,c3,cc,hsp])
  have hk2:∀ a b,KeepS σ ((τ.alloc a).set τ.next b):=fun a b=>(hkp.trans (KeepS.alloc τ a)).set (by have:=hkp.1; omega) b
  have hk3:∀ a b,KeepS τ ((τ.alloc a).set τ.next b):=fun a b=>(KeepS.alloc τ a).set (Nat.le_refl _) b
  refine (rec x (List.mem_of_getElem? hx1) _ e _ ps mn mc m q hxe ((⟨p1,⟨n1,p2⟩,⟨n2,p3⟩,pne⟩:Sc σ ps mn mc m q).keep (hk2 _ _)) hm hq).mono ?_
  rintro _ τ' ⟨rfl,hk4⟩
  by_cases h5:expE g o l x=0
  ·(repeat' first|refine vw ?_ ?_<;>intro hq|refine vz ?_|simp -implicitDefEqProofs only [go_sem,dct h5,hw])
   exact ⟨j+1,vom,⟨vom,(hk2 _ _).trans hk4,hk4.2 _ _ ((hk3 _ _).2 _ _ hg),expEs_take hx1 h0 h5⟩,vsu⟩
  ·(repeat' first|refine vw ?_ ?_<;>intro hq|refine vz ?_|simp -implicitDefEqProofs only [go_sem,dcf h5])
   refine ⟨?_,(hk2 _ _).trans hk4⟩
   have:=expEs_eq hx1 h0 h5
   rw [expE_mk,this,if_neg h5]
 ·obtain rfl:j=xs.length:=by omega
  rw [List.take_length] at h0
  have q1:=hkp.2 _ _ p1
  have q2:=hkp.2 _ _ p2
  have q3:=hkp.2 _ _ p3
  have hu:expE g o l (.mk k nm i xs)=if k=2 then (if nm∈g\/nm∈o then 0 else 90)
   else if k=19 then (match fcOf l nm with
    | none=>90
    | some f=>if f.ps.length=xs.length then 0 else 91)
   else 0:=by
   rw [expE_mk,if_pos h0]
  rw [hu]
  by_cases k2:k=2
  ·rw [if_pos k2]
   (repeat' first|refine vw ?_ ?_<;>intro hq|refine vz ?_|simp -implicitDefEqProofs only [go_sem,hg,dct k2])
   ((try (refine Z_seq ?_; (try simp -implicitDefEqProofs only [go_sem]))); refine Z_draw (by kernel_rfl) [0,1,2,3,4,5,6,7,8,9,10,11] [(11,2047),(10,511),(9,255),(8,255),(7,127),(6,63),(5,16),(4,0),(3,7),(2,3),(1,1),(0,0)] (by kernel_rfl) (by kernel_rfl) ?_)
   simp -implicitDefEqProofs only [go_sem,hg,q1,q2,lk_strS,lk_nm hm]
   by_cases h6:nm∈g\/nm∈o
   ·rw [if_pos h6]
    (try simp -implicitDefEqProofs only [go_sem,dct h6])
    (repeat' first|refine vw ?_ ?_<;>intro hq|refine vz ?_|simp -implicitDefEqProofs only [go_sem,dct h6])
    exact hkp
   ·rw [if_neg h6]
    (try simp -implicitDefEqProofs only [go_sem,dcf h6])
    (repeat' first|refine vw ?_ ?_<;>intro hq|refine vz ?_|simp -implicitDefEqProofs only [go_sem,dcf h6])
    exact hkp
  ·rw [if_neg k2]
   by_cases k3:k=19
   ·rw [if_pos k3]
    (repeat' first|refine vw ?_ ?_<;>intro hq|refine vz ?_|simp -implicitDefEqProofs only [go_sem,hg,dcf k2,dct k3])
    ((try (refine Z_seq ?_; (try simp -implicitDefEqProofs only [go_sem]))); refine Z_draw (by kernel_rfl) [0,1,2,3,4,5,6,7,8,9,10,11] [(11,2047),(10,511),(9,255),(8,255),(7,127),(6,63),(5,16),(4,0),(3,7),(2,3),(1,1),(0,0)] (by kernel_rfl) (by kernel_rfl) ?_)
    simp -implicitDefEqProofs only [go_sem,hg,q1,q3,lk_strS,lk_cm hq]
    cases hf:fcOf l nm with
    | none=>
     have hn0:(none:Option Fc).isSome=false:=rfl
     (try simp -implicitDefEqProofs only [go_sem,hn0])
     (repeat' first|refine vw ?_ ?_<;>intro hq|refine vz ?_|simp -implicitDefEqProofs only [go_sem,hn0])
     exact hkp
    | some f=>
     have hn0:(some f:Option Fc).isSome=true:=rfl
     by_cases h7:f.ps.length=xs.length
     ·have h7':(f.ps.length:Int)=(xs.length:Int):=by omega
      (try simp -implicitDefEqProofs only [go_sem,hn0,hg,hSn,dct h7'])
      (repeat' first|refine vw ?_ ?_<;>intro hq|refine vz ?_|simp -implicitDefEqProofs only [go_sem,hn0,hg,hSn,dct h7'])
      exact ⟨by rw [if_pos h7],hkp⟩
     ·have h7':¬ (f.ps.length:Int)=(xs.length:Int):=by omega
      (try simp -implicitDefEqProofs only [go_sem,hn0,hg,hSn,dcf h7'])
      (repeat' first|refine vw ?_ ?_<;>intro hq|refine vz ?_|simp -implicitDefEqProofs only [go_sem,hn0,hg,hSn,dcf h7'])
      exact ⟨by rw [if_neg h7],hkp⟩
   ·rw [if_neg k3]
    (repeat' first|refine vw ?_ ?_<;>intro hq|refine vz ?_|simp -implicitDefEqProofs only [go_sem,hg,dcf k2,dcf k3])
    exact hkp
theorem tExpC {g o:List ByteArray} {l:List Fc}:∀ {x:Ex} {w:WD} {v:AVal} {σ:AStore} {ps mn mc:Nat} {m q:List (ByteArray×AVal)},IsEx x v->Sc σ ps mn mc m q->Nm m g o->Cm q l->
  ACalls (EE w) 132 [.ptr ps 0 0,v] σ fun e σ'=>e=.ret (.sc (.int .i64 (expE g o l x)))/\KeepS σ σ'
 | .mk _ _ _ xs,_,_,_,_,_,_,_,_,h,hs,hm,hq=>tExpStep h (fun y hy _ _ _ _ _ _ _ _ h1 h2 h3 h4=>tExpC (x:=y) h1 h2 h3 h4) hs hm hq
termination_by x=>sizeOf x
decreasing_by have:=List.sizeOf_lt_of_mem hy; simp only [Ex.mk.sizeOf_spec]; omega
section
variable {E:Env} {n:Nat}
theorem ACallsM.unds {ds:List ADef} {f:FuncId} {args:List AVal} {m:Option AVal} {σ:AStore} {R:AEnd->Option AVal->AStore->Prop} (h:ACallsM {E with ds:=ds} f args m σ R):ACallsM E f args m σ R:=by
 intro ι H w args' u hR ha hm
 refine CallsDIn.mono (h ι H w args' u (hR.toDs ds) ha hm) ?_
 rintro e u' w' ⟨ι',H',σ',ae,m',h1,h2,h3,h4,h5⟩
 exact ⟨ι',H',σ',ae,m',h1,h2,h3.unds,h4,h5⟩
theorem aResults_unds {ds:List ADef} {a:AAct} {σ:AStore}:∀ rs:List ResultVar,aResults {E with ds:=ds} rs a σ=aResults E rs a σ
 | []=>rfl
 | .tmp x::rs=>by simp only [aResults,aResults_unds rs]
 | .cell x t::rs=>by simp only [aResults,aResults_unds rs]
theorem ALeaves.unds {fn:Func} {a:AAct} {R:AEnd->AStore->Prop} {ds0:List ADef}:∀ {l:List ADef} {m:Option AVal} {σ:AStore},ALeaves {E with ds:=ds0} fn a R l m σ->ALeaves E fn a R l m σ
  | [],none,σ,h=>by unfold ALeaves at h ⊢; unfold aResult at h ⊢; rw [aResults_unds] at h; exact h
  | [],some v,σ,h=>by unfold ALeaves at h ⊢; exact h
  | d :: l, m, σ, h => by
      unfold ALeaves at h ⊢
      split
      · rename_i b hb
        rw [hb] at h
        exact ⟨h.1,ALeaves.unds h.2⟩
      · rename_i g hg
        rw [hg] at h
        refine ⟨h.1,(ACallsM.unds h.2).mono ?_⟩
        intro e m' σ' hh
        cases e<;>cases m<;>first|exact ALeaves.unds hh|exact hh
      · rename_i x h1 h2
        split at h
        · rename_i b hb; exact absurd hb (h1 b)
        · rename_i b hb; exact absurd hb (h2 b)
        · exact h
theorem aEndD_unds {fn:Func} {R:AEnd->AStore->Prop} {ds0:List ADef} {ex:AExit} {a:AAct} {σ:AStore} (h:aEndD {E with ds:=ds0} fn R ex a σ):aEndD E fn R ex a σ:=by
 cases ex<;>first|exact ALeaves.unds h|exact h
theorem Top_mono {c:Code} {K K':APred} {e:Ev} {σ:AStore} (hk:∀ ex a σ,K ex a σ->K' ex a σ) (h:Top E n c K e σ):Top E n c K' e σ:=fun hc he=>(h hc he).mono hk
end
end Abs
namespace Abs
open Go Go.Proofs
theorem getM_append {a b:List (ByteArray×AVal)} {k:ByteArray}:getM (a++b) k=match getM a k with|some q=>some q|none=>(getM b k).map fun q=>(a.length+q.1,q.2):=by
 induction a with
 | nil=>
  show getM b k=(getM b k).map fun q=>(0+q.1,q.2)
  cases getM b k<;>simp
 | cons p a ih=>
  simp only [List.cons_append,getM]
  by_cases h:p.1=k
  ·simp [h]
  ·simp only [h,if_false,ih]
   cases getM a k with
   | some q=>rfl
   | none=>
    cases getM b k with
    | none=>rfl
    | some q=>simp; omega
theorem strM_append {a b:List (ByteArray×AVal)}:strM (a++b)=strM a++strM b:=List.map_append ..
theorem Nm.none {m:List (ByteArray×AVal)} {g o:List ByteArray} (h:Nm m g o) {k:ByteArray} (hk:¬ (k∈g\/k∈o)):getM m k=none:=by
 have hj:=h k
 have h2:k ∉ o:=fun hc=>hk (.inr hc)
 have h3:k ∉ g:=fun hc=>hk (.inl hc)
 rw [if_neg h2,if_neg h3] at hj
 simpa using hj
/-- All but one block is as it was. -/
def KeepM (mn:Nat) (σ σ':AStore):Prop:=σ.next<=σ'.next/\∀ b y,b≠mn->σ.get b=some y->σ'.get b=some y
theorem KeepM.refl (mn:Nat) (σ:AStore):KeepM mn σ σ:=⟨Nat.le_refl _,fun _ _ _ h=>h⟩
theorem KeepM.trans {mn:Nat} {a b c:AStore} (h:KeepM mn a b) (h':KeepM mn b c):KeepM mn a c:=⟨Nat.le_trans h.1 h'.1,fun x y hn hx=>h'.2 x y hn (h.2 x y hn hx)⟩
theorem KeepS.m {mn:Nat} {a b:AStore} (h:KeepS a b):KeepM mn a b:=⟨h.1,fun x y _ hx=>h.2 x y hx⟩
theorem KeepM.set {mn:Nat} {a b:AStore} (h:KeepM mn a b) (x:ABlk):KeepM mn a (b.set mn x):=
 ⟨by rw [set_next]; exact h.1,fun j y hn hj=>by rw [AStore.get_set,if_neg (by rintro ⟨rfl,_⟩; exact hn rfl)]; exact h.2 j y hn hj⟩
theorem ms_new {σ:AStore} {b c:Nat} {m:List (ByteArray×AVal)} {k:ByteArray} {v:AVal} (h:getM m k=none):msAt σ b .string (.string k) v (some (.map (strM m) c))=some (σ.set b (.map (strM (m++[(k,v)])) (c+1))):=by
 simp only [msAt,aFind_str,h,Option.map_none,Option.map_some]
 rw [strM_append]; rfl
theorem ms_same {σ:AStore} {b c i:Nat} {m:List (ByteArray×AVal)} {k:ByteArray} {v:AVal} (h:getM m k=some (i,v)):msAt σ b .string (.string k) v (some (.map (strM m) c))=some (σ.set b (.map (strM m) c)):=by
 have hm:=getM_some h
 simp only [msAt,aFind_str,h,Option.map_some,Nat.zero_add]
 have:(strM m).set i (.sc (.string k),v)=strM m:=by
  apply List.ext_getElem?
  intro j
  rw [List.getElem?_set]
  split
  ·rename_i he
   subst he
   have h2:(strM m)[i]?=some (.sc (.string k),v):=by simp [strM,hm]
   rw [h2]
   have h3:=(List.getElem?_eq_some_iff.1 h2).1
   rw [if_pos h3]
  ·rfl
 rw [this]
/-- The names that are given, in a map. -/
structure GM (m:List (ByteArray×AVal)) (g:List ByteArray):Prop where
 nm:Nm m g []
 f:∀ p∈m,p.2=(.sc (.bool (false)))
 nd:(m.map (·.1)).Nodup
theorem GM.nil:GM [] []:=⟨fun k=>by simp [getM],(fun _ h=>by cases h),by simp⟩
theorem GM.old {m:List (ByteArray×AVal)} {g:List ByteArray} (h:GM m g) {k:ByteArray} (hk:k∈g):GM m (g++[k])/\∃ i,getM m k=some (i,(.sc (.bool (false)))):=by
 constructor
 ·refine ⟨fun j=>?_,h.f,h.nd⟩
  rw [h.nm j]
  have:j∈g++[k] ↔ j∈g:=by
   simp only [List.mem_append,List.mem_singleton]
   exact ⟨fun h=>h.elim id (fun h=>h ▸ hk),.inl⟩
  simp only [this]
 ·have:=h.nm k
  rw [if_neg (by simp),if_pos hk] at this
  cases hg:getM m k with
  | none=>rw [hg] at this; cases this
  | some q=>rw [hg] at this; simp only [Option.map_some,Option.some.injEq] at this; exact ⟨q.1,by rw [<-this]⟩
theorem GM.new {m:List (ByteArray×AVal)} {g:List ByteArray} (h:GM m g) {k:ByteArray} (hk:k ∉ g):GM (m++[(k,(.sc (.bool (false))))]) (g++[k])/\getM m k=none:=by
 have hn:getM m k=none:=h.nm.none (by simpa using hk)
 refine ⟨⟨fun j=>?_,?_,?_⟩,hn⟩
 ·rw [getM_append]
  have hj:=h.nm j
  rw [if_neg (by simp)] at hj ⊢
  by_cases e:k=j
  ·subst e
   rw [hn]
   simp [getM]
  ·have h1:getM [(k,(.sc (.bool (false))))] j=none:=by simp [getM,e]
   have h2:j∈g++[k] ↔ j∈g:=by simp [Ne.symm e]
   rw [h1]
   cases hg:getM m j with
   | none=>rw [hg] at hj; simpa [h2] using hj
   | some q=>rw [hg] at hj; simpa [h2] using hj
 ·intro p hp
  rcases List.mem_append.1 hp with hp|hp
  ·exact h.f p hp
  ·rw [List.mem_singleton.1 hp]
 ·rw [List.map_append,List.nodup_append]
  refine ⟨h.nd,by simp,?_⟩
  intro a ha b hb
  simp only [List.map_cons,List.map_nil,List.mem_singleton] at hb
  subst hb
  rintro rfl
  obtain ⟨p,hp,rfl⟩:=List.mem_map.1 ha
  exact getM_none.1 hn p.2 hp
theorem givenC {w:WD} {S:AVal} {g:List ByteArray} {σ:AStore} (hS:IsD 1 S (g.map sA)) (hl:g.length<=281474976710656):
  ACalls (EE w) 152 [S] σ fun e σ'=>∃ ps mn mc m,e=.ret (.ptr ps 0 0)/\KeepS σ σ'/\σ.next<=ps/\σ.next<=mn/\σ.next<=mc/\Sc σ' ps mn mc m []/\GM m g:=by
 have hSn:∀ σ:AStore,aLen (.slice 0) S σ=some (.sc (.int .i64 (g.length))):=fun σ=>by have:=hS.len (σ:=σ); rwa [List.length_map] at this
 have kS:=hS.fit
 have cS:=hS.cells
 have iS:=hS.isCell
 refine of_152 rfl rfl rfl (by kernel_rfl) ?_
 simp -implicitDefEqProofs only [go_sem,kS,cS,iS,hSn]
 refine vlp (ι:=Nat) (fun j=>[(3,.ptr (σ.next+1+1) 0 0),(10,S),(11,(.sc (.int .i64 (g.length)))),(12,(.sc (.int .i64 (j))))]) (fun j τ=>j<=g.length/\σ.next+3<=τ.next/\KeepS σ τ/\τ.get (σ.next+1+1)=some (.cells 2 [.agg [.map σ.next,.map (σ.next+1)]])/\(∃ c,τ.get (σ.next+1)=some (.map (strM []) c))/\∃ m,GM m (g.take j)/\∃ c,τ.get σ.next=some (.map (strM m) c)) (fun j=>g.length - j) (fun _=>rfl) 0 ?_ ?_ ?_
 ·exact vsu
 ·refine ⟨Nat.zero_le _,by simp only [alloc_next]; omega,((KeepS.alloc σ _).trans (KeepS.alloc _ _)).trans (KeepS.alloc _ _),?_,⟨0,?_⟩,[],by simpa using GM.nil,0,?_⟩
  ·rw [AStore.get_alloc,if_pos (show σ.next+1+1=((σ.alloc _).alloc _).next from rfl)]
  ·exact get_alloc_old (by rw [AStore.get_alloc,if_pos (show σ.next+1=(σ.alloc _).next from rfl)]; rfl)
  ·exact get_alloc_old (get_alloc_old (by rw [AStore.get_alloc,if_pos rfl]; rfl))
 rintro j τ ⟨hj,hn,hk,s1,⟨c2,s2⟩,m,hG,c1,s3⟩
 simp -implicitDefEqProofs only [go_sem]
 (refine vif ?_ ?_<;>intro hlt)
 ·obtain ⟨p,hp⟩:∃ p,g[j]?=some p:=⟨g[j]'(by omega),by simp⟩
  have he:(g.map sA)[j]?=some (.sc (.string p)):=by rw [List.getElem?_map,hp]; rfl
  have hw:=wrapS (i:=j) (by omega)
  have htk:g.take (j+1)=g.take j++[p]:=by
   obtain ⟨hj,he⟩:=List.getElem?_eq_some_iff.1 hp
   rw [List.take_succ_eq_append_getElem hj,he]
  by_cases hpg:p∈g.take j
  ·obtain ⟨hG',i,hgi⟩:=hG.old hpg
   (repeat' first|refine vw ?_ ?_<;>intro hq|refine vz ?_|simp -implicitDefEqProofs only [go_sem,hS.idx he,s1,s3,ms_str,ms_same hgi,hw])
   refine ⟨j+1,vom,⟨by omega,by rw [set_next]; exact hn,hk.set (Nat.le_refl _) _,?_,⟨c2,?_⟩,m,by rw [htk]; exact hG',c1,?_⟩,vsu⟩
   ·rw [AStore.get_set,if_neg (by omega)]; exact s1
   ·rw [AStore.get_set,if_neg (by omega)]; exact s2
   ·rw [AStore.get_set,if_pos ⟨rfl,by omega⟩]
  ·obtain ⟨hG',hgn⟩:=hG.new hpg
   (repeat' first|refine vw ?_ ?_<;>intro hq|refine vz ?_|simp -implicitDefEqProofs only [go_sem,hS.idx he,s1,s3,ms_str,ms_new hgn,hw])
   refine ⟨j+1,vom,⟨by omega,by rw [set_next]; exact hn,hk.set (Nat.le_refl _) _,?_,⟨c2,?_⟩,_,by rw [htk]; exact hG',c1+1,?_⟩,vsu⟩
   ·rw [AStore.get_set,if_neg (by omega)]; exact s1
   ·rw [AStore.get_set,if_neg (by omega)]; exact s2
   ·rw [AStore.get_set,if_pos ⟨rfl,by omega⟩]
 ·obtain rfl:j=g.length:=by omega
  rw [List.take_length] at hG
  (repeat' first|refine vw ?_ ?_<;>intro hq|refine vz ?_|simp -implicitDefEqProofs only [go_sem])
  exact ⟨_,_,_,m,rfl,hk,vom,Nat.le_refl _,vom,⟨s1,⟨c1,s3⟩,⟨c2,s2⟩,vom⟩,hG⟩
theorem Cm.nil:Cm [] []:=fun k=>rfl
theorem checkedC {w:WD} {L S:AVal} {els:List AVal} {fs:List Fc} {g:List ByteArray} {σ:AStore} (hL:IsD 3 L els) (hl:IsFcs fs els) (hlen:els.length<=281474976710656) (hb:fs.length<=0)
  (hS:IsD 1 S (g.map sA)) (hg:g.length<=281474976710656):
  ACalls (EE w) 130 [L,S] σ fun e σ'=>∃ p,e=.ret (.tuple [p,(.sc (.int .i64 ((funcsP nameB fs g).1))),(.sc (.int .i64 ((funcsP nameB fs g).2)))])/\KeepS σ σ'/\
   ((funcsP nameB fs g).2=0->∃ ps mn mc m q,p=.ptr ps 0 0/\Sc σ' ps mn mc m q/\Nm m g []/\Cm q fs):=by
 have hC:=fun w:WD=>checkFuncsC (w:=w) hL hl hlen hb
 obtain ⟨rfl,rfl⟩:=fc_nil hl hb
 have hLn:∀ σ:AStore,aLen (.slice 0) L σ=some (.sc (.int .i64 (0))):=fun σ=>hL.len (σ:=σ)
 have kS:=hS.fit
 have cS:=hS.cells
 have iS:=hS.isCell
 have kL:=hL.fit
 have cL:=hL.cells
 have iL:=hL.isCell
 rw [show funcsP nameB [] g=(0,0) from rfl]
 rw [show checkF nameB []=0 from rfl] at hC
 refine of_130 rfl rfl rfl (by kernel_rfl) ?_
 simp -implicitDefEqProofs only [go_sem,kS,cS,iS,kL,cL,iL]
 refine (hC _).use ?_
 (repeat' first|refine vw ?_ ?_<;>intro hq|refine vz ?_|simp -implicitDefEqProofs only [go_sem])
 refine (givenC hS hg).mono ?_
 rintro _ τ0 ⟨ps,mn,mc,m,rfl,k0,n1,n2,n3,s0,hG⟩
 (repeat' first|refine vw ?_ ?_<;>intro hq|refine vz ?_|simp -implicitDefEqProofs only [go_sem,hLn])
 refine vlp (ι:=Unit) (fun _=>[(8,.ptr ps 0 0),(19,L),(20,(.sc (.int .i64 (0)))),(21,(.sc (.int .i64 (0))))]) (fun _ τ=>KeepS σ τ/\Sc τ ps mn mc m []) (fun _=>0) (fun _=>rfl) () ?_ ?_ ?_
 ·exact vsu
 ·exact ⟨k0,s0⟩
 rintro _ τ ⟨hk,hs⟩
 have e0:decide ((0:Int) < 0)=false:=rfl
 simp -implicitDefEqProofs only [go_sem,e0]
 (repeat' first|refine vw ?_ ?_<;>intro hq|refine vz ?_|simp -implicitDefEqProofs only [go_sem,e0])
 exact ⟨.ptr ps 0 0,rfl,hk,fun _=>⟨ps,mn,mc,m,[],rfl,hs,hG.nm,Cm.nil⟩⟩
theorem expP_if {x:Ex} {g:List ByteArray} {l:List Fc}:expP nameB x g l=if checkE nameB x=0 then (if (funcsP nameB l g).2=0 then expE g [] l x else (funcsP nameB l g).2) else checkE nameB x:=by
 unfold expP
 by_cases h:checkE nameB x=0
 ·rw [if_pos h,h]
  by_cases h2:(funcsP nameB l g).2=0
  ·rw [if_pos h2]
   show (match (funcsP nameB l g).2 with|0=>_|e=>e)=_
   rw [h2]; rfl
  ·rw [if_neg h2]
   show (match (funcsP nameB l g).2 with|0=>_|e=>e)=_
   split
   ·rename_i hh; exact absurd hh h2
   ·rfl
 ·rw [if_neg h]
  split
  ·rename_i hh; exact absurd hh h
  ·rfl
theorem tFuncsC {w:WD} {L S:AVal} {els:List AVal} {fs:List Fc} {g:List ByteArray} (hL:IsD 3 L els) (hl:IsFcs fs els) (hlen:els.length<=281474976710656) (hb:fs.length<=0)
  (hS:IsD 1 S (g.map sA)) (hg:g.length<=281474976710656):
  GivesV (EE w) 95 [L,S] (.tuple [(.sc (.int .i64 ((funcsP nameB fs g).1))),(.sc (.int .i64 ((funcsP nameB fs g).2)))]):=by
 refine GivesV.of gWF (.cons _ _ (hL.wf hl.wf) (.cons _ _ (hS.wf (wf_sA _)) .nil)) 2 ?_
 refine of_95 rfl rfl rfl (by kernel_rfl) ?_
 simp -implicitDefEqProofs only [go_sem]
 refine (checkedC hL hl hlen hb hS hg).mono ?_
 rintro _ σ' ⟨p,rfl,k1,k2⟩
 (repeat' first|refine vw ?_ ?_<;>intro hq|refine vz ?_|simp -implicitDefEqProofs only [go_sem])
 exact ⟨_,rfl,rfl⟩
theorem tExpTC {w:WD} {X L S:AVal} {x:Ex} {els:List AVal} {fs:List Fc} {g:List ByteArray} (hX:IsEx x X) (hxb:nodesE x<=1099511627776) (hL:IsD 3 L els) (hl:IsFcs fs els) (hlen:els.length<=281474976710656) (hb:fs.length<=0)
  (hS:IsD 1 S (g.map sA)) (hg:g.length<=281474976710656):
  GivesV (EE w) 96 [X,S,L] (.sc (.int .i64 (expP nameB x g fs))):=by
 obtain ⟨c1,c2,c3⟩:=hX.isA.facts
 have cc:=hX.cellsOk
 have hfit:X.fit=true:=by obtain ⟨cs,rfl,_⟩:=hX.isA; rfl
 have hE:=fun w:WD=>checkExpC (w:=w) hX hxb
 rw [expP_if]
 refine GivesV.of gWF (.cons _ _ hX.wf (.cons _ _ (hS.wf (wf_sA _)) (.cons _ _ (hL.wf hl.wf) .nil))) 2 ?_
 refine of_96 rfl rfl rfl (by kernel_rfl) ?_
 simp -implicitDefEqProofs only [go_sem,c1,c2,c3,cc,hfit]
 have g0:(empty.alloc (.cells 4 [X])).get 0=some (.cells 4 [X]):=by rw [AStore.get_alloc]; rfl
 generalize empty.alloc (.cells 4 [X])=τ at g0 ⊢
 refine (hE _).use ?_
 by_cases hz:checkE nameB x=0
 ·rw [if_pos hz]
  (repeat' first|refine vw ?_ ?_<;>intro hq|refine vz ?_|simp -implicitDefEqProofs only [go_sem,dct hz])
  refine (checkedC hL hl hlen hb hS hg).mono ?_
  rintro _ σ' ⟨p,rfl,k1,k2⟩
  have g1:=k1.2 _ _ g0
  by_cases hy:(funcsP nameB fs g).2=0
  ·obtain ⟨ps,mn,mc,m,q,rfl,hs,hm,hq⟩:=k2 hy
   rw [if_pos hy]
   (repeat' first|refine vw ?_ ?_<;>intro hq|refine vz ?_|simp -implicitDefEqProofs only [go_sem,dct hy,g1,c1,c2,c3,cc,hfit])
   refine (tExpC hX hs hm hq).mono ?_
   rintro _ τ' ⟨rfl,k3⟩
   (repeat' first|refine vw ?_ ?_<;>intro hq|refine vz ?_|simp -implicitDefEqProofs only [go_sem])
   exact ⟨_,rfl,rfl⟩
  ·rw [if_neg hy]
   (repeat' first|refine vw ?_ ?_<;>intro hq|refine vz ?_|simp -implicitDefEqProofs only [go_sem,dcf hy])
   exact ⟨_,rfl,rfl⟩
 ·rw [if_neg hz]
  (repeat' first|refine vw ?_ ?_<;>intro hq|refine vz ?_|simp -implicitDefEqProofs only [go_sem,dcf hz])
  exact ⟨_,rfl,rfl⟩
theorem GivesV.lent {E:Env} (hG:∀ g,WF 0 (E.G g)) {f:FuncId} {args:List AVal} {x:Value} (h:GivesV E f args (.sc x)) (σ:AStore) {M:Nat} {bs:List Nat} {args1:List AVal} (hz:mapO (frz (σ.only bs) M) args1=some args):
  ACalls E f args1 σ fun e σ'=>σ'=σ/\e=.ret (.sc x):=by
 refine (ACalls.pureT hG (N:=1) (h empty) ?_ σ hz).mono ?_
 ·rintro e σ0 ⟨rfl,rfl⟩
  exact ⟨.ret (.sc x),rfl,rfl⟩
 ·rintro e σ' ⟨h1,e0,σ0,⟨rfl,rfl⟩,h3⟩
  cases h3
  exact ⟨h1,rfl⟩
mutual
/-- Scalars, records and data. -/
inductive Dat:AVal->Prop
 | sc (v:Value):Dat (.sc v)
 | agg (cs:List AVal) (h:Dats cs):Dat (.agg cs)
 | data (sz:Nat) (t:Bool) (els:List AVal) (h:Dats els):Dat (.data sz t els)
inductive Dats:List AVal->Prop
 | nil:Dats []
 | cons (v:AVal) (vs:List AVal) (h:Dat v) (hs:Dats vs):Dats (v::vs)
end
mutual
theorem Dat.frz {σ:AStore}:∀ {v:AVal},Dat v->∃ N,∀ M,N<=M->Abs.frz σ M v=some v
  | _,.sc v=>⟨1,fun M h=>by obtain ⟨M,rfl⟩:∃ k,M=k+1:=⟨M - 1,vom⟩; rfl⟩
  | _, .agg cs h => by
      obtain ⟨N,hN⟩:=Dats.frz (σ:=σ) h
      refine ⟨N+1,fun M hM=>?_⟩
      obtain ⟨M,rfl⟩:∃ k,M=k+1:=⟨M - 1,vom⟩
      rw [frz_agg,hN M (by omega)]; rfl
  | _, .data sz t els h => by
      obtain ⟨N,hN⟩:=Dats.frz (σ:=σ) h
      refine ⟨N+1,fun M hM=>?_⟩
      obtain ⟨M,rfl⟩:∃ k,M=k+1:=⟨M - 1,vom⟩
      rw [frz_data,hN M (by omega)]; rfl
theorem Dats.frz {σ:AStore}:∀ {vs:List AVal},Dats vs->∃ N,∀ M,N<=M->mapO (Abs.frz σ M) vs=some vs
  | _,.nil=>⟨0,fun _ _=>rfl⟩
  | _, .cons v vs h hs => by
      obtain ⟨N1,h1⟩:=Dat.frz (σ:=σ) h
      obtain ⟨N2,h2⟩:=Dats.frz (σ:=σ) hs
      refine ⟨N1+N2,fun M hM=>?_⟩
      rw [mapO_cons',h1 M (by omega),h2 M (by omega)]; rfl
end
theorem IsD.dat {sz:Nat} {x:AVal} {els:List AVal} (h:IsD sz x els) (hw:Dats els):Dat x:=by
 rcases h with ⟨rfl,a,c,rfl⟩|⟨t,rfl⟩
 ·exact .sc _
 ·exact .data _ _ _ hw
mutual
theorem IsEx.dat:∀ {x:Ex} {v:AVal},IsEx x v->Dat v
  | .mk k nm i zs, v, h => by
      simp only [IsEx] at h
      obtain ⟨S,els,rfl,hS,hs,_⟩:=h
      exact .agg _ (.cons _ _ (.sc _) (.cons _ _ (.sc _) (.cons _ _ (.sc _) (.cons _ _ (hS.dat (IsExs.dat hs)) .nil))))
theorem IsExs.dat:∀ {zs:List Ex} {els:List AVal},IsExs zs els->Dats els
  | [],els,h=>by simp only [IsExs] at h; subst h; exact .nil
  | x :: xs, els, h => by
      simp only [IsExs] at h
      obtain ⟨e,es,rfl,h1,h⟩:=h
      exact .cons _ _ (IsEx.dat h1) (IsExs.dat h)
end
mutual
theorem IsSt.dat:∀ {x:St} {v:AVal},IsSt x v->Dat v
  | .mk k nm w body els, v, h => by
      simp only [IsSt] at h
      obtain ⟨SA,SB,SE,ea,eb,ee,rfl,hA,ha,hB,hb,hE,he,_⟩:=h
      exact .agg _ (.cons _ _ (.sc _) (.cons _ _ (.sc _) (.cons _ _ (.sc _) (.cons _ _ (.sc _) (.cons _ _ (.sc _) (.cons _ _ (hA.dat (IsExs.dat ha)) (.cons _ _ (hB.dat (IsSts.dat hb)) (.cons _ _ (hE.dat (IsSts.dat he)) .nil))))))))
theorem IsSts.dat:∀ {zs:List St} {els:List AVal},IsSts zs els->Dats els
  | [],els,h=>by simp only [IsSts] at h; subst h; exact .nil
  | x :: xs, els, h => by
      simp only [IsSts] at h
      obtain ⟨e,es,rfl,h1,h⟩:=h
      exact .cons _ _ (IsSt.dat h1) (IsSts.dat h)
end
theorem dats_sA:∀ l:List ByteArray,Dats (l.map sA)
 | []=>.nil
 | x::l=>.cons _ _ (.sc _) (dats_sA l)
theorem IsFc.dat {f:Fc} {w:AVal} (h:IsFc f w):Dat w:=by
 obtain ⟨SP,SB,eb,rfl,hP,hB,hb,_⟩:=h
 exact .agg _ (.cons _ _ (.sc _) (.cons _ _ (hP.dat (dats_sA _)) (.cons _ _ (hB.dat (IsSts.dat hb)) .nil)))
theorem Dats.of:∀ {l:List AVal},(∀ x∈l,Dat x)->Dats l
 | [],_=>.nil
 | x::l,h=>.cons x l (h x (by simp)) (Dats.of fun y hy=>h y (by simp [hy]))
theorem IsFcs.dat {l:List Fc} {els:List AVal} (h:IsFcs l els):Dats els:=Dats.of fun e he=>by
 obtain ⟨j,hj,rfl⟩:=List.mem_iff_getElem.1 he
 obtain ⟨x,_,h2⟩:=h.all (List.getElem?_eq_getElem hj)
 exact h2.dat
end Abs
end
