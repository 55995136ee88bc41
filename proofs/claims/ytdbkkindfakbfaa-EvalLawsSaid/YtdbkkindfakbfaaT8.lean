/-
  Functions of the program walked: each is shown to compute a plain function (T8).
-/
import Derived.Test.YtdbkkindfakbfaaT1
noncomputable section
namespace Abs
set_option linter.unusedSimpArgs false
set_option linter.unusedVariables false
set_option maxRecDepth 100000
set_option maxHeartbeats 16000000
open Go Go.Proofs
def IsA (n:Nat) (e:AVal):Prop:=∃ cs,e=.agg cs/\cs.length=n
theorem IsA.facts {n:Nat} {e:AVal} (h:IsA n e):(AVal.cells e).length=n/\List.take n (AVal.cells e)=AVal.cells e/\AVal.agg (AVal.cells e)=e:=by
 obtain ⟨cs,rfl,hl⟩:=h
 exact ⟨hl,List.take_of_length_le (by show cs.length<=n; omega),rfl⟩
theorem IsEx.isA {x:Ex} {e:AVal} (h:IsEx x e):IsA 4 e:=by
 cases x with
 | mk k nm i xs=>
  simp only [IsEx] at h
  obtain ⟨S,els,rfl,_⟩:=h
  exact ⟨_,rfl,rfl⟩
theorem nodesEs_take:∀ {l:List Ex} {i:Nat} {x:Ex},l[i]?=some x->nodesEs (l.take (i+1))=nodesEs (l.take i)+nodesE x
  | [],i,x,h=>by simp at h
  | y::l,0,x,h=>by simp at h; subst h; simp [nodesEs]
  | y :: l, i + 1, x, h => by
      have:=nodesEs_take (l:=l) (i:=i) (x:=x) (by simpa using h)
      simp only [List.take_succ_cons,nodesEs] at this ⊢
      omega
theorem nodesEs_le:∀ {l:List Ex} {i:Nat},nodesEs (l.take i)<=nodesEs l
  | [],i=>by simp
  | y::l,0=>by simp [nodesEs]
  | y :: l, i + 1 => by
      have:=nodesEs_le (l:=l) (i:=i)
      simp only [List.take_succ_cons,nodesEs] at this ⊢
      omega
theorem IsEx.cellsOk {x:Ex} {e:AVal} (h:IsEx x e):(AVal.cells e).all AVal.isCell=true:=by
 cases x with
 | mk k nm i l=>
  simp only [IsEx] at h
  obtain ⟨S,els,rfl,hS,_⟩:=h
  show ([(.sc (.int .i64 (k))),AVal.sc (.string nm),(.sc (.int .i64 (i))),S].all AVal.isCell)=true
  simp only [List.all_cons,List.all_nil,hS.isCell,isCell_int,isCell_str,Bool.and_self]
theorem IsA.splice {e:AVal} (h:IsA 4 e) {a b c d:AVal}:spliceL [a,b,c,d] 0 (AVal.cells e)=AVal.cells e:=by
 obtain ⟨cs,rfl,hl⟩:=h
 match cs,hl with
 | [p,q,r,s],_=>rfl
theorem IsEx.splice {x:Ex} {e:AVal} (h:IsEx x e) {a b c d:AVal}:spliceL [a,b,c,d] 0 (AVal.cells e)=AVal.cells e:=h.isA.splice
theorem IsSt.cellsOk {x:St} {e:AVal} (h:IsSt x e):(AVal.cells e).all AVal.isCell=true:=by
 cases x with
 | mk k nm v b els=>
  simp only [IsSt] at h
  obtain ⟨SA,SB,SE,ea,eb,ee,rfl,hA,ha,hB,hb,hE,he,_⟩:=h
  show ([(.sc (.int .i64 (k))),AVal.sc (.string nm),(.sc (.int .i64 (v.k))),AVal.sc (.string v.nm),(.sc (.int .i64 (v.i))),SA,SB,SE].all AVal.isCell)=true
  simp only [List.all_cons,List.all_nil,hA.isCell,hB.isCell,hE.isCell,isCell_int,isCell_str,Bool.and_self]
theorem ex_of {v:Ex} {SA:AVal} {ea:List AVal} (hA:IsD 4 SA ea) (ha:IsExs v.args ea) (h1:in64 v.k) (h2:in64 v.i) (h3:v.nm.size<=281474976710656) (h4:ea.length<=281474976710656):
  IsEx v (.agg [(.sc (.int .i64 (v.k))),.sc (.string v.nm),(.sc (.int .i64 (v.i))),SA]):=by
 cases v with
 | mk k nm i l=>
  simp only [IsEx]
  exact ⟨SA,ea,rfl,hA,ha,h1,h2,h3,h4⟩
theorem IsFc.isA {f:Fc} {e:AVal} (h:IsFc f e):IsA 3 e:=by
 obtain ⟨SP,SB,eb,rfl,_⟩:=h
 exact ⟨_,rfl,rfl⟩
theorem IsFc.cellsOk {f:Fc} {e:AVal} (h:IsFc f e):(AVal.cells e).all AVal.isCell=true:=by
 obtain ⟨SP,SB,eb,rfl,hP,hB,_⟩:=h
 show ([AVal.sc (.string f.nm),SP,SB].all AVal.isCell)=true
 simp only [List.all_cons,List.all_nil,hP.isCell,hB.isCell,isCell_str,Bool.and_self]
theorem IsA.splice3 {e:AVal} (h:IsA 3 e) {a b c:AVal}:spliceL [a,b,c] 0 (AVal.cells e)=AVal.cells e:=by
 obtain ⟨cs,rfl,hl⟩:=h
 match cs,hl with
 | [a,b,c],_=>rfl
/-- Functions side by side. -/
structure IsFcs (l:List Fc) (els:List AVal):Prop where
 len:els.length=l.length
 at':∀ (j:Nat) f,l[j]?=some f->∃ e,els[j]?=some e/\IsFc f e
theorem IsFcs.all {l:List Fc} {els:List AVal} (h:IsFcs l els) {e:AVal} {j:Nat} (he:els[j]?=some e):∃ x,l[j]?=some x/\IsFc x e:=by
 have hj:j < l.length:=by
  rw [<-h.len]
  rcases Nat.lt_or_ge j els.length with h'|h'
  ·exact h'
  ·rw [List.getElem?_eq_none h'] at he; cases he
 obtain ⟨x,hx⟩:∃ x,l[j]?=some x:=⟨l[j],by simp [hj]⟩
 obtain ⟨e',h1,h2⟩:=h.at' j x hx
 rw [he] at h1; cases h1
 exact ⟨x,hx,h2⟩
theorem IsFcs.wf {l:List Fc} {els:List AVal} (h:IsFcs l els):WFs 0 els:=WFs.of fun e he=>by
 obtain ⟨j,hj,rfl⟩:=List.mem_iff_getElem.1 he
 obtain ⟨x,_,h2⟩:=h.all (List.getElem?_eq_getElem hj)
 exact h2.wf
theorem IsD.lenN {sz:Nat} {x:AVal} {els:List AVal} (h:IsD sz x els) {n:Nat} (hn:els.length=n) {σ:AStore}:aLen (.slice 0) x σ=some (.sc (.int .i64 n)):=by rw [<-hn]; exact h.len
/-- Old blocks are as they were. -/
def KeepS (σ σ':AStore):Prop:=σ.next<=σ'.next/\∀ b y,σ.get b=some y->σ'.get b=some y
theorem KeepS.trans {a b c:AStore} (h:KeepS a b) (h':KeepS b c):KeepS a c:=⟨Nat.le_trans h.1 h'.1,fun x y hx=>h'.2 x y (h.2 x y hx)⟩
theorem KeepS.alloc (σ:AStore) (x:ABlk):KeepS σ (σ.alloc x):=⟨by rw [alloc_next]; omega,fun b y h=>get_alloc_old h⟩
theorem KeepS.set {a b:AStore} (h:KeepS a b) {i:Nat} (hi:a.next<=i) (x:ABlk):KeepS a (b.set i x):=
 ⟨by rw [set_next]; exact h.1,fun j y hj=>by
  have:=AStore.lt_of_get hj
  rw [AStore.get_set,if_neg (by omega)]; exact h.2 j y hj⟩
theorem lk_strS {σ:AStore} {z:Value} {b:Nat} {k:Value} {ok:Bool}:aLookup .string z ok (.map b) (.sc k) σ=lkAt .string z ok k (σ.get b):=aLookup_map rfl
theorem lk_at {z:Value} {m:List (ByteArray×AVal)} {c:Nat} {k:ByteArray}:lkAt .string z true (.string k) (some (.map (strM m) c))=some (lkOut true z ((getM m k).map (·.2))):=by
 rw [lkAt_map,aFind_str]
 cases getM m k with
 | none=>rfl
 | some q=>rfl
end Abs
namespace Abs
set_option linter.unusedSimpArgs false
set_option linter.unusedVariables false
set_option maxRecDepth 100000
set_option maxHeartbeats 16000000
open Go
section
variable {E:Env} {n:Nat}
theorem ACallsM.unds {ds:List ADef} {f:FuncId} {args:List AVal} {m:Option AVal} {σ:AStore} {R:AEnd->Option AVal->AStore->Prop} (h:ACallsM {E with ds:=ds} f args m σ R):ACallsM E f args m σ R:=by
 intro ι H w args' u hR ha hm
 refine CallsDIn.mono (h ι H w args' u (hR.toDs ds) ha hm) ?_
 rintro e u' w' ⟨ι',H',σ',ae,m',h1,h2,h3,h4,h5⟩
 exact ⟨ι',H',σ',ae,m',h1,h2,h3.unds,h4,h5⟩
theorem aResults_unds {ds:List ADef} {a:AAct} {σ:AStore}:∀ rs:List ResultVar,aResults {E with ds:=ds} rs a σ=aResults E rs a σ
 | []=>rfl
 | .tmp x::rs=>by simp only [aResults,aResults_unds rs]
 | .cell x t::rs=>by simp only [aResults,aResults_unds rs]
theorem ALeaves.unds {fn:Func} {a:AAct} {R:AEnd->AStore->Prop} {ds0:List ADef}:∀ {l:List ADef} {m:Option AVal} {σ:AStore},ALeaves {E with ds:=ds0} fn a R l m σ->ALeaves E fn a R l m σ
  | [],none,σ,h=>by unfold ALeaves at h ⊢; unfold aResult at h ⊢; rw [aResults_unds] at h; exact h
  | [],some v,σ,h=>by unfold ALeaves at h ⊢; exact h
  | d :: l, m, σ, h => by
      unfold ALeaves at h ⊢
      split
      · rename_i b hb
        rw [hb] at h
        exact ⟨h.1,ALeaves.unds h.2⟩
      · rename_i g hg
        rw [hg] at h
        refine ⟨h.1,(ACallsM.unds h.2).mono ?_⟩
        intro e m' σ' hh
        cases e<;>cases m<;>first|exact ALeaves.unds hh|exact hh
      · rename_i x h1 h2
        split at h
        · rename_i b hb; exact absurd hb (h1 b)
        · rename_i b hb; exact absurd hb (h2 b)
        · exact h
theorem aEndD_unds {fn:Func} {R:AEnd->AStore->Prop} {ds0:List ADef} {ex:AExit} {a:AAct} {σ:AStore} (h:aEndD {E with ds:=ds0} fn R ex a σ):aEndD E fn R ex a σ:=by
 cases ex<;>first|exact ALeaves.unds h|exact h
theorem Top_mono {c:Code} {K K':APred} {e:Ev} {σ:AStore} (hk:∀ ex a σ,K ex a σ->K' ex a σ) (h:Top E n c K e σ):Top E n c K' e σ:=fun hc he=>(h hc he).mono hk
end
end Abs
namespace Abs
set_option linter.unusedSimpArgs false
set_option linter.unusedVariables false
set_option maxRecDepth 100000
set_option maxHeartbeats 16000000
open Go
section
variable {E:Env} {n:Nat}
/-- One call that recovers is deferred; the rest is walked with it. -/
theorem Top_undsR {Ed:List ADef->Env} (hEd:∀ ds,{E with ds:=ds}=Ed ds) {d:ADef} {fn:Func} {rs:List ResultVar} (hr:fn.results.toList=rs) {g:FuncId} {cap as':List AVal} (hd:d=⟨.func g,cap,as'⟩) (h0:E.ds=[]) (hfn:E.fns g=true) {R:AEnd->AStore->Prop} {c:Code} {e:Ev} {σ:AStore}
  (h:Z (Ed (d::E.ds)) n c (vFinR (Ed (d::E.ds)) rs g (as'++cap) R) e σ):Top (Ed (d::E.ds)) n c (aEndD E fn R) e σ:=by
 subst hd
 rw [<-hEd] at h ⊢
 refine Top_mono (fun ex a σ h=>aEndD_unds (ds0:=⟨.func g,cap,as'⟩::E.ds) h) ?_
 refine Top_finR (E:={E with ds:=⟨.func g,cap,as'⟩::E.ds}) hr (g:=g) ?_ hfn h
 show _::E.ds=_
 rw [h0]
end
theorem strM_append {a b:List (ByteArray×AVal)}:strM (a++b)=strM a++strM b:=List.map_append ..
/-- All but one block is as it was. -/
def KeepM (mn:Nat) (σ σ':AStore):Prop:=σ.next<=σ'.next/\∀ b y,b≠mn->σ.get b=some y->σ'.get b=some y
theorem KeepM.refl (mn:Nat) (σ:AStore):KeepM mn σ σ:=⟨Nat.le_refl _,fun _ _ _ h=>h⟩
theorem KeepM.trans {mn:Nat} {a b c:AStore} (h:KeepM mn a b) (h':KeepM mn b c):KeepM mn a c:=⟨Nat.le_trans h.1 h'.1,fun x y hn hx=>h'.2 x y hn (h.2 x y hn hx)⟩
theorem KeepS.m {mn:Nat} {a b:AStore} (h:KeepS a b):KeepM mn a b:=⟨h.1,fun x y _ hx=>h.2 x y hx⟩
theorem KeepM.set {mn:Nat} {a b:AStore} (h:KeepM mn a b) (x:ABlk):KeepM mn a (b.set mn x):=
 ⟨by rw [set_next]; exact h.1,fun j y hn hj=>by rw [AStore.get_set,if_neg (by rintro ⟨rfl,_⟩; exact hn rfl)]; exact h.2 j y hn hj⟩
end Abs
end
