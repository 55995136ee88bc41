/-
  Functions of the program walked: each is shown to compute a plain function (EvG).
-/
import Derived.Test.YtdbkkindfakbfaaGreatEvP
import Derived.Test.YtdbkkindfakbfaaGreatTF
import Derived.Test.YtdbkkindfakbfaaGreatT18
import Derived.Test.YtdbkkindfakbfaaGreatT8
import Derived.Test.YtdbkkindfakbfaaGreatAbsDf
set_option linter.unusedSimpArgs false
set_option linter.unusedVariables false
set_option maxRecDepth 100000
set_option maxHeartbeats 16000000
noncomputable section
namespace Abs
open Go Go.Proofs
abbrev Fr:=List (ByteArray×Int)
def fget:Fr->ByteArray->Option Int
 | [],_=>none
 | p::m,k=>if p.1=k then some p.2 else fget m k
def fset:Fr->ByteArray->Int->Fr
 | [],k,v=>[(k,v)]
 | p::m,k,v=>if p.1=k then (k,v)::m else p::fset m k v
def fdel:Fr->ByteArray->Fr
 | [],_=>[]
 | p::m,k=>if p.1=k then m else p::fdel m k
def fdels (o:Fr) (made:List ByteArray):Fr:=made.foldl fdel o
/-- A value, an error, the number of steps. -/
structure RX where
 v:Int
 e:Int
 n:Nat
/-- Statements: the frame, the value, whether they returned. -/
structure RS where
 o:Fr
 v:Int
 r:Bool
 e:Int
 n:Nat
def argsG (E:Ex->Nat->RX):List Ex->Nat->List Int×Int×Nat
 | [],n=>([],0,n)
 | x::xs,n=>
  let p:=E x n
  if p.e≠0 then ([],p.e,p.n) else
   let q:=argsG E xs p.n
   (p.v::q.1,q.2.1,q.2.2)
def vAt (l:List Int) (i:Nat):Int:=(l[i]?).getD 0
/-- The frame of a call. -/
def frG (vs:List Int):List ByteArray->Nat->Fr->Fr
 | [],_,o=>o
 | p::ps,i,o=>frG vs ps (i+1) (fset o p (vAt vs i))
/-- The function of a name; one that does nothing. -/
def fcD (l:List Fc) (nm:ByteArray):Fc:=(fcOf l nm).getD ⟨⟨#[]⟩,[],[]⟩
section
variable (l:List Fc) (g:ByteArray->Int)
def twoG (E:Ex->Nat->RX) (stop:Int->Bool) (sv:Int) (zs:List Ex) (n:Nat):RX:=
 match zs with
 | [x,y]=>
  let p:=E x n
  if p.e≠0 then ⟨0,p.e,p.n⟩ else if stop p.v then ⟨sv,0,p.n⟩ else
   let q:=E y p.n
   if q.e≠0 then ⟨0,q.e,q.n⟩ else ⟨oneI (!decide (q.v=0)),0,q.n⟩
 | _=>⟨0,0,n⟩
def ifG (E:Ex->Nat->RX) (zs:List Ex) (n:Nat):RX:=
 match zs with
 | [x,y,z]=>
  let p:=E x n
  if p.e≠0 then ⟨0,p.e,p.n⟩ else if p.v≠0 then E y p.n else E z p.n
 | _=>⟨0,0,n⟩
def expG (E:Ex->Fr->Nat->RX) (A:List St->Fr->Nat->RS):Ex->Fr->Nat->RX
 | .mk k nm i zs,o,n=>
  if n=1000 then ⟨0,101,n⟩ else
  if k=1 then ⟨i,0,n+1⟩ else
  if k=2 then ⟨(fget o nm).getD (g nm),0,n+1⟩ else
  if k=16 then twoG (fun x n=>E x o n) (fun v=>decide (v=0)) 0 zs (n+1) else
  if k=17 then twoG (fun x n=>E x o n) (fun v=>!decide (v=0)) 1 zs (n+1) else
  if k=18 then ifG (fun x n=>E x o n) zs (n+1) else
   let q:=argsG (fun x n=>E x o n) zs (n+1)
   if q.2.1≠0 then ⟨0,q.2.1,q.2.2⟩ else
   if k=19 then
    let r:=A (fcD l nm).body (frG q.1 (fcD l nm).ps 0 []) q.2.2
    if r.e≠0 then ⟨0,r.e,r.n⟩ else ⟨r.v,0,r.n⟩
   else ⟨(finV 100 7 k (vAt q.1 0) (vAt q.1 1)).1,(finV 100 7 k (vAt q.1 0) (vAt q.1 1)).2,q.2.2⟩
/-- A loop of statements: K rounds at most. -/
def whG (E:Ex->Fr->Nat->RX) (A:List St->Fr->Nat->RS) (x:Ex) (b:List St):Nat->Int->Fr->Nat->RS
 | 0,_,o,n=>⟨o,0,false,101,n⟩
 | K+1,val,o,n=>
  if val=0 then ⟨o,0,false,0,n⟩ else
   let q:=A b o n
   if q.e≠0\/q.r=true then q else
    let p:=E x q.o q.n
    if p.e≠0 then ⟨q.o,0,false,p.e,p.n⟩ else whG E A x b K p.v q.o p.n
/-- Statements, behind some: 'made' are the names to be forgotten. -/
def stsG (E:Ex->Fr->Nat->RX) (A:List St->Fr->Nat->RS):List St->Fr->List ByteArray->Nat->RS
 | [],o,made,n=>⟨fdels o made,0,false,0,n⟩
 | .mk k nm v b els::r,o,made,n=>
  if n=1000 then ⟨fdels o made,0,false,101,n⟩ else
   let p:=E v o (n+1)
   if p.e≠0 then ⟨fdels o made,0,false,p.e,p.n⟩ else
   if k=5 then ⟨fdels o made,p.v,true,0,p.n⟩ else
   if k=1 then stsG E A r (fset o nm p.v) (made++[nm]) p.n else
   if k=2 then stsG E A r (fset o nm p.v) made p.n else
   if k=3\/k=4 then
    let q:=if k=3 then A (if p.v=0 then els else b) o p.n else whG E A v b 1001 p.v o p.n
    if q.e≠0\/q.r=true then ⟨fdels q.o made,q.v,q.r,q.e,q.n⟩ else stsG E A r q.o made q.n
   else stsG E A r o made p.n
def evG:Nat->(Ex->Fr->Nat->RX)×(List St->Fr->Nat->RS)
 | 0=>(expG l g (fun _ _ n=>⟨0,0,n⟩) fun _ o n=>⟨o,0,false,0,n⟩,fun s o n=>stsG (fun _ _ n=>⟨0,0,n⟩) (fun _ o n=>⟨o,0,false,0,n⟩) s o [] n)
 | N+1=>(expG l g (evG N).1 (evG N).2,fun s o n=>stsG (evG N).1 (evG N).2 s o [] n)
end
mutual
/-- Well-formed. -/
def okG:Ex->Bool
 | .mk k _ i zs=>arityB k zs.length && (decide (zs.length<=4) && (decide (-2147483648<=i) && decide (i<=2147483648))) && okGs zs
def okGs:List Ex->Bool
 | []=>true
 | x::xs=>okG x && okGs xs
end
mutual
def okS:St->Bool
 | .mk _ _ v b e=>okG v && okSs b && okSs e
def okSs:List St->Bool
 | []=>true
 | x::xs=>okS x && okSs xs
end
theorem okGs_mem:∀ {l:List Ex},okGs l=true->∀ x∈l,okG x=true
  | [],_,x,hx=>by cases hx
  | y :: l, h, x, hx => by
      simp only [okGs,Bool.and_eq_true] at h
      rcases List.mem_cons.1 hx with rfl|hx
      · exact h.1
      · exact okGs_mem h.2 x hx
theorem okSs_mem:∀ {l:List St},okSs l=true->∀ x∈l,okS x=true
  | [],_,x,hx=>by cases hx
  | y :: l, h, x, hx => by
      simp only [okSs,Bool.and_eq_true] at h
      rcases List.mem_cons.1 hx with rfl|hx
      · exact h.1
      · exact okSs_mem h.2 x hx
/-- Values are small. -/
def inM (v:Int):Prop:=-2147483648<=v/\v<=2147483648
def okF (o:Fr):Prop:=∀ p∈o,inM p.2
theorem okF_get {o:Fr} (h:okF o) {k:ByteArray} {v:Int} (hv:fget o k=some v):inM v:=by
 induction o with
 | nil=>cases hv
 | cons p o ih=>
  unfold fget at hv
  split at hv
  ·cases hv; exact h p (by simp)
  ·exact ih (fun q hq=>h q (List.mem_cons_of_mem _ hq)) hv
theorem okF_set {o:Fr} (h:okF o) (k:ByteArray) {v:Int} (hv:inM v):okF (fset o k v):=by
 induction o with
 | nil=>intro p hp; simp only [fset,List.mem_singleton] at hp; subst hp; exact hv
 | cons q o ih=>
  have ih:=ih (fun q hq=>h q (List.mem_cons_of_mem _ hq))
  intro p hp
  unfold fset at hp
  split at hp
  ·rcases List.mem_cons.1 hp with rfl|hp
   ·exact hv
   ·exact h p (List.mem_cons_of_mem _ hp)
  ·rcases List.mem_cons.1 hp with rfl|hp
   ·exact h _ (by simp)
   ·exact ih p hp
theorem okF_del {o:Fr} (h:okF o) (k:ByteArray):okF (fdel o k):=by
 induction o with
 | nil=>exact h
 | cons q o ih=>
  have ih:=ih (fun q hq=>h q (List.mem_cons_of_mem _ hq))
  intro p hp
  unfold fdel at hp
  split at hp
  ·exact h p (List.mem_cons_of_mem _ hp)
  ·rcases List.mem_cons.1 hp with rfl|hp
   ·exact h _ (by simp)
   ·exact ih p hp
theorem okF_dels:∀ (made:List ByteArray) {o:Fr},okF o->okF (fdels o made)
 | [],_,h=>h
 | k::made,_,h=>okF_dels made (okF_del h k)
theorem okF_fr {vs:List Int} (hv:∀ i,inM (vAt vs i)):∀ (ps:List ByteArray) (i:Nat) {o:Fr},okF o->okF (frG vs ps i o)
 | [],_,_,h=>h
 | p::ps,i,_,h=>okF_fr hv ps (i+1) (okF_set h p (hv i))
theorem finV_m (k a b:Int):inM (finV 100 7 k a b).1:=finV_in 100 7 k a b
theorem fget_getM {k:ByteArray}:∀ o:Fr,(getM (gM o) k).map (·.2)=(fget o k).map fun v=>((.sc (.int .i64 (v))):AVal)
  | []=>rfl
  | p :: o => by
      simp only [gM,List.map_cons,getM,fget]
      by_cases h:p.1=k
      · simp [h]
      · simp only [h,if_false]
        rw [<-fget_getM o]
        simp only [gM]
        cases getM (o.map fun p=>(p.1,((.sc (.int .i64 (p.2))):AVal))) k<;>rfl
theorem fset_new {k:ByteArray} {v:Int}:∀ {o:Fr},getM (gM o) k=none->gM (fset o k v)=gM o++[(k,(.sc (.int .i64 (v))))]
  | [],_=>rfl
  | p :: o, h => by
      simp only [gM,List.map_cons,getM] at h
      by_cases hk:p.1=k
      · simp [hk] at h
      · simp only [hk,if_false] at h
        have h':getM (gM o) k=none:=by
          cases hh:getM (gM o) k with
          | none=>rfl
          | some q=>simp only [gM] at hh; rw [hh] at h; cases h
        simp only [fset,hk,if_false,gM,List.map_cons,List.cons_append]
        have:=fset_new (v:=v) h'
        simp only [gM] at this
        rw [this]
theorem fset_put {k:ByteArray} {v:Int}:∀ {o:Fr} {i:Nat} {w:AVal},getM (gM o) k=some (i,w)->(gM o).set i (k,(.sc (.int .i64 (v))))=gM (fset o k v)
  | [],_,_,h=>by cases h
  | p :: o, i, w, h => by
      simp only [gM,List.map_cons,getM] at h
      by_cases hk:p.1=k
      · simp only [hk,if_true,Option.some.injEq,Prod.mk.injEq] at h
        obtain ⟨rfl,_⟩:=h
        simp [fset,hk,gM]
      · simp only [hk,if_false] at h
        cases hh:getM (gM o) k with
        | none=>simp only [gM] at hh; rw [hh] at h; cases h
        | some q=>
          have hh':=hh
          simp only [gM] at hh
          rw [hh] at h
          simp only [Option.map_some,Option.some.injEq,Prod.mk.injEq] at h
          obtain ⟨rfl,rfl⟩:=h
          have:=fset_put (v:=v) (i:=q.1) (w:=q.2) hh'
          simp only [fset,hk,if_false,gM,List.map_cons,List.set_cons_succ]
          simp only [gM] at this
          rw [this]
theorem fdel_at {k:ByteArray}:∀ {o:Fr} {i:Nat} {w:AVal},getM (gM o) k=some (i,w)->(gM o).eraseIdx i=gM (fdel o k)
  | [],_,_,h=>by cases h
  | p :: o, i, w, h => by
      simp only [gM,List.map_cons,getM] at h
      by_cases hk:p.1=k
      · simp only [hk,if_true,Option.some.injEq,Prod.mk.injEq] at h
        obtain ⟨rfl,_⟩:=h
        simp [fdel,hk,gM]
      · simp only [hk,if_false] at h
        cases hh:getM (gM o) k with
        | none=>simp only [gM] at hh; rw [hh] at h; cases h
        | some q=>
          have hh':=hh
          simp only [gM] at hh
          rw [hh] at h
          simp only [Option.map_some,Option.some.injEq,Prod.mk.injEq] at h
          obtain ⟨rfl,rfl⟩:=h
          have:=fdel_at (i:=q.1) (w:=q.2) hh'
          simp only [fdel,hk,if_false,gM,List.map_cons,List.eraseIdx_cons_succ]
          simp only [gM] at this
          rw [this]
theorem fdel_none {k:ByteArray}:∀ {o:Fr},getM (gM o) k=none->fdel o k=o
  | [],_=>rfl
  | p :: o, h => by
      simp only [gM,List.map_cons,getM] at h
      by_cases hk:p.1=k
      · simp [hk] at h
      · simp only [hk,if_false] at h
        have h':getM (gM o) k=none:=by
          cases hh:getM (gM o) k with
          | none=>rfl
          | some q=>simp only [gM] at hh; rw [hh] at h; cases h
        simp only [fdel,hk,if_false,fdel_none h']
def clkS (o:Fr) (k:ByteArray) (c:Nat):Nat:=if (getM (gM o) k).isSome then c else c+1
theorem ms_fset {σ:AStore} {b c:Nat} {o:Fr} {k:ByteArray} {v:Int}:msAt σ b .string (.string k) (.sc (.int .i64 (v))) (some (.map (strM (gM o)) c))=some (σ.set b (.map (strM (gM (fset o k v))) (clkS o k c))):=by
 unfold clkS
 cases h:getM (gM o) k with
 | none=>rw [ms_new h,<-fset_new h]; rfl
 | some q=>
  rw [msAt_map,aFind_str,h]
  simp only [Option.map_some,Nat.zero_add,Option.isSome_some,if_true]
  rw [<-fset_put (v:=v) h]
  simp only [strM,List.map_set]
theorem lk_own {o:Fr} {c:Nat} {k:ByteArray}:lkAt .string (.int .i64 0) true (.string k) (some (.map (strM (gM o)) c))=some (match fget o k with|some v=>.tuple [(.sc (.int .i64 (v))),(.sc (.bool (true)))]|none=>.tuple [(.sc (.int .i64 (0))),(.sc (.bool (false)))]):=by
 rw [lk_at,fget_getM]
 cases fget o k<;>rfl
theorem map_era {α β:Type} (f:α->β):∀ (l:List α) (i:Nat),(l.map f).eraseIdx i=(l.eraseIdx i).map f
 | [],_=>rfl
 | _::_,0=>rfl
 | x::l,i+1=>by simp only [List.map_cons,List.eraseIdx_cons_succ,map_era f l i]
theorem md_fdel {σ:AStore} {b c:Nat} {o:Fr} {k:ByteArray}:mdAt σ b .string (.string k) (some (.map (strM (gM o)) c))=some (σ.set b (.map (strM (gM (fdel o k))) c)):=by
 show (aFind .string (.string k) (strM (gM o)) 0).map _=_
 rw [aFind_str]
 cases h:getM (gM o) k with
 | none=>
  rw [fdel_none h]; rfl
 | some q=>
  simp only [Option.map_some,Nat.zero_add]
  rw [<-fdel_at h]
  simp only [strM,map_era]
/-- The functions, as they stand in the map. -/
def fnM (fs:List Fc) (els:List AVal):List (ByteArray×AVal):=(fs.map Fc.nm).zip els
def mcBG (bg bf bo n:Nat):ABlk:=.cells 4 [.agg [.map bg,.map bf,.map bo,(.sc (.int .i64 (n)))]]
structure Mg (σ:AStore) (pm bg bf bo b1 b2:Nat) (n:Nat) (g:List (ByteArray×Int)) (fs:List Fc) (els:List AVal):Prop where
 m:σ.get pm=some (mcBG bg bf bo n)
 g:∃ c,σ.get bg=some (.map (strM (gM g)) c)
 f:∃ c,σ.get bf=some (.map (strM (fnM fs els)) c)
 o:OpsM σ bo b1 b2
 n0:bf≠pm
 n1:bg≠pm
 n2:bo≠pm
 n3:b1≠pm
 n4:b2≠pm
/-- All but two blocks are as they were. -/
def Keep2 (a b:Nat) (σ σ':AStore):Prop:=σ.next<=σ'.next/\∀ x y,x≠a->x≠b->σ.get x=some y->σ'.get x=some y
theorem Keep2.trans {a b:Nat} {x y z:AStore} (h:Keep2 a b x y) (h':Keep2 a b y z):Keep2 a b x z:=⟨Nat.le_trans h.1 h'.1,fun u v h1 h2 hu=>h'.2 u v h1 h2 (h.2 u v h1 h2 hu)⟩
theorem KeepM.k2 {a b:Nat} {x y:AStore} (h:KeepM a x y):Keep2 a b x y:=⟨h.1,fun u v h1 _ hu=>h.2 u v h1 hu⟩
theorem KeepM.k2' {a b:Nat} {x y:AStore} (h:KeepM b x y):Keep2 a b x y:=⟨h.1,fun u v _ h2 hu=>h.2 u v h2 hu⟩
/-- A block that is not one of the machine's. -/
structure Off (b pm bg bf bo b1 b2:Nat):Prop where
 m:b≠pm
 g:b≠bg
 f:b≠bf
 o:b≠bo
 a:b≠b1
 c:b≠b2
section
variable {σ σ':AStore} {pm bg bf bo b1 b2 n n' b:Nat} {g:List (ByteArray×Int)} {fs:List Fc} {els:List AVal}
theorem Mg.keep2 (h:Mg σ pm bg bf bo b1 b2 n g fs els) (ho:Off b pm bg bf bo b1 b2) (hk:Keep2 pm b σ σ') (hm:σ'.get pm=some (mcBG bg bf bo n')):Mg σ' pm bg bf bo b1 b2 n' g fs els:=by
 obtain ⟨m,⟨c,hg⟩,⟨c2,hf⟩,⟨o1,o2,o3⟩,n0,n1,n2,n3,n4⟩:=h
 exact ⟨hm,⟨c,hk.2 _ _ n1 (Ne.symm ho.g) hg⟩,⟨c2,hk.2 _ _ n0 (Ne.symm ho.f) hf⟩,⟨hk.2 _ _ n2 (Ne.symm ho.o) o1,hk.2 _ _ n3 (Ne.symm ho.a) o2,hk.2 _ _ n4 (Ne.symm ho.c) o3⟩,n0,n1,n2,n3,n4⟩
theorem Mg.keep (h:Mg σ pm bg bf bo b1 b2 n g fs els) (hk:KeepM pm σ σ') (hm:σ'.get pm=some (mcBG bg bf bo n')):Mg σ' pm bg bf bo b1 b2 n' g fs els:=by
 obtain ⟨m,⟨c,hg⟩,⟨c2,hf⟩,⟨o1,o2,o3⟩,n0,n1,n2,n3,n4⟩:=h
 exact ⟨hm,⟨c,hk.2 _ _ n1 hg⟩,⟨c2,hk.2 _ _ n0 hf⟩,⟨hk.2 _ _ n2 o1,hk.2 _ _ n3 o2,hk.2 _ _ n4 o3⟩,n0,n1,n2,n3,n4⟩
theorem Mg.keepS (h:Mg σ pm bg bf bo b1 b2 n g fs els) (hk:KeepS σ σ'):Mg σ' pm bg bf bo b1 b2 n g fs els:=h.keep hk.m (hk.2 _ _ h.m)
/-- A new block is off. -/
theorem Mg.off (h:Mg σ pm bg bf bo b1 b2 n g fs els) (hb:σ.next<=b):Off b pm bg bf bo b1 b2:=by
 obtain ⟨m,⟨c,hg⟩,⟨c2,hf⟩,⟨o1,o2,o3⟩,_⟩:=h
 have:=AStore.lt_of_get m
 have:=AStore.lt_of_get hg
 have:=AStore.lt_of_get hf
 have:=AStore.lt_of_get o1
 have:=AStore.lt_of_get o2
 have:=AStore.lt_of_get o3
 exact ⟨vom,vom,vom,vom,vom,vom⟩
end
/-- A frame: none, or a map. -/
def FrR (σ:AStore) (pm bg bf bo b1 b2:Nat) (O:AVal) (o:Fr):Prop:=(O=.sc (.map none)/\o=[])\/∃ b c,O=.map b/\σ.get b=some (.map (strM (gM o)) c)/\Off b pm bg bf bo b1 b2
theorem FrR.keep {σ σ':AStore} {pm bg bf bo b1 b2:Nat} {O:AVal} {o:Fr} (h:FrR σ pm bg bf bo b1 b2 O o) (hk:KeepM pm σ σ'):FrR σ' pm bg bf bo b1 b2 O o:=by
 rcases h with h|⟨b,c,h1,h2,h3⟩
 ·exact .inl h
 ·exact .inr ⟨b,c,h1,hk.2 _ _ h3.m h2,h3⟩
theorem FrR.lk {σ:AStore} {pm bg bf bo b1 b2:Nat} {O:AVal} {o:Fr} (h:FrR σ pm bg bf bo b1 b2 O o) (k:ByteArray):aLookup .string (.int .i64 0) true O (.sc (.string k)) σ=some (match fget o k with|some v=>.tuple [(.sc (.int .i64 (v))),(.sc (.bool (true)))]|none=>.tuple [(.sc (.int .i64 (0))),(.sc (.bool (false)))]):=by
 rcases h with ⟨rfl,rfl⟩|⟨b,c,rfl,h2,_⟩
 ·exact aLookup_nil rfl
 ·rw [lk_strS,h2,lk_own]
def XR (pm bg bf bo n:Nat) (σ:AStore) (p:RX) (e:AEnd) (σ':AStore):Prop:=
 e=(if p.e=0 then .ret (.sc (.int .i64 (p.v))) else .pan (endA p.e))/\(p.e=0->inM p.v/\n < p.n)/\KeepM pm σ σ'/\n<=p.n/\p.n<=1000/\σ'.get pm=some (mcBG bg bf bo p.n)
def SR (pm bg bf bo b n:Nat) (σ:AStore) (p:RS) (e:AEnd) (σ':AStore):Prop:=
 e=(if p.e=0 then .ret (.tuple [(.sc (.int .i64 (p.v))),(.sc (.bool (p.r)))]) else .pan (endA p.e))/\(p.e=0->inM p.v)/\Keep2 pm b σ σ'/\n<=p.n/\p.n<=1000/\σ'.get pm=some (mcBG bg bf bo p.n)/\∃ o2 c,σ'.get b=some (.map (strM (gM o2)) c)/\okF o2/\(p.e=0->o2=p.o)
/-- What a call of exp does (N: so many calls deep). -/
def ExpGC (g:List (ByteArray×Int)) (fs:List Fc) (els:List AVal) (N:Nat) (E:Ex->Fr->Nat->RX) (x:Ex):Prop:=∀ {w:WD} {v:AVal} {σ:AStore} {pm bg bf bo b1 b2 n:Nat} {O:AVal} {o:Fr},IsEx x v->okG x=true->Mg σ pm bg bf bo b1 b2 n g fs els->FrR σ pm bg bf bo b1 b2 O o->okF o->n<=1000->1000<=N+n->
 ACalls (EE w) 29 [.ptr pm 0 0,v,O] σ (XR pm bg bf bo n σ (E x o n))
def AllGC (g:List (ByteArray×Int)) (fs:List Fc) (els:List AVal) (N:Nat) (A:List St->Fr->Nat->RS) (ss:List St):Prop:=∀ {w:WD} {L:AVal} {es:List AVal} {σ:AStore} {pm bg bf bo b1 b2 n b c:Nat} {o:Fr},IsD 8 L es->IsSts ss es->es.length<=281474976710656->okSs ss=true->Mg σ pm bg bf bo b1 b2 n g fs els->σ.get b=some (.map (strM (gM o)) c)->Off b pm bg bf bo b1 b2->okF o->n<=1000->1000<=N+n->
 ACalls (EE w) 57 [.ptr pm 0 0,L,.map b] σ (SR pm bg bf bo b n σ (A ss o n))
theorem ar2G {k:Int} {l:List Ex} (h:arityB k l.length=true) (h1:5<=k) (h2:k<=17):∃ a b,l=[a,b]:=by
 unfold arityB at h
 rw [if_neg (by omega),if_neg (by omega),if_pos ⟨h1,h2⟩] at h
 have:=of_decide_eq_true h
 match l,this with
 | [a,b],_=>exact ⟨a,b,rfl⟩
theorem ar3G {l:List Ex} (h:arityB 18 l.length=true):∃ a b c,l=[a,b,c]:=by
 have:=of_decide_eq_true (show decide (l.length=3)=true from h)
 match l,this with
 | [a,b,c],_=>exact ⟨a,b,c,rfl⟩
theorem inM_0:inM 0:=⟨by decide,by decide⟩
theorem inM_1:inM 1:=⟨by decide,by decide⟩
theorem stepP {w:WD} {σ:AStore} {pm bg bf bo:Nat} (hm:σ.get pm=some (mcBG bg bf bo 1000)):
  ACalls (EE w) 56 [.ptr pm 0 0] σ fun e σ'=>e=.pan (endA 101)/\σ'=σ:=by
 have hm:σ.get pm=some (.cells 4 [.agg [.map bg,.map bf,.map bo,(.sc (.int .i64 (1000)))]]):=hm
 refine of_56 rfl rfl rfl (by kernel_rfl) ?_
 simp -implicitDefEqProofs only [go_sem,hm]
 (repeat' first|refine vw ?_ ?_<;>intro hq|refine vz ?_|simp -implicitDefEqProofs only [go_sem,hm])
 rfl
theorem args_ok {F:Ex->Nat->RX}:∀ {xs:List Ex} {j n0 m:Nat} {vs:List Int} {x:Ex},argsG F (xs.take j) n0=(vs,0,m)->xs[j]?=some x->(F x m).e=0->argsG F (xs.take (j+1)) n0=(vs++[(F x m).v],0,(F x m).n)
  | [],j,_,_,_,_,_,h,_=>by simp at h
  | y :: xs, 0, n0, m, vs, x, h, hx, he => by
      simp at hx; subst hx
      simp only [List.take_zero,argsG,Prod.mk.injEq] at h
      obtain ⟨rfl,_,rfl⟩:=h
      simp only [Nat.zero_add,List.take_succ_cons,List.take_zero,argsG,he,ne_eq,not_true_eq_false,if_false,List.nil_append]
  | y :: xs, j + 1, n0, m, vs, x, h, hx, he => by
      simp only [List.take_succ_cons] at h ⊢
      unfold argsG at h ⊢
      by_cases h0:(F y n0).e≠0
      · simp only [h0,if_true,ne_eq,not_false_eq_true,Prod.mk.injEq,false_and,and_false] at h
      · simp only [h0,if_false] at h ⊢
        have hh:=h
        simp only [Prod.mk.injEq] at hh
        obtain ⟨h1,h2,h3⟩:=hh
        have:=args_ok (F:=F) (xs:=xs) (j:=j) (n0:=(F y n0).n) (m:=m) (vs:=(argsG F (xs.take j) (F y n0).n).1) (x:=x) (by rw [<-h2,<-h3]) (by simpa using hx) he
        rw [this,<-h1]
        rfl
theorem args_bad {F:Ex->Nat->RX}:∀ {xs:List Ex} {j n0 m:Nat} {vs:List Int} {x:Ex},argsG F (xs.take j) n0=(vs,0,m)->xs[j]?=some x->(F x m).e≠0->(argsG F xs n0).2=((F x m).e,(F x m).n)
  | [],j,_,_,_,_,_,h,_=>by simp at h
  | y :: xs, 0, n0, m, vs, x, h, hx, he => by
      simp at hx; subst hx
      simp only [List.take_zero,argsG,Prod.mk.injEq] at h
      obtain ⟨rfl,_,rfl⟩:=h
      simp only [argsG,he,ne_eq,not_false_eq_true,if_true]
  | y :: xs, j + 1, n0, m, vs, x, h, hx, he => by
      simp only [List.take_succ_cons] at h
      unfold argsG at h ⊢
      by_cases h0:(F y n0).e≠0
      · simp only [h0,if_true,ne_eq,not_false_eq_true,Prod.mk.injEq,false_and,and_false] at h
      · simp only [h0,if_false] at h ⊢
        simp only [Prod.mk.injEq] at h
        obtain ⟨h1,h2,h3⟩:=h
        exact args_bad (F:=F) (xs:=xs) (j:=j) (n0:=(F y n0).n) (m:=m) (vs:=(argsG F (xs.take j) (F y n0).n).1) (x:=x) (by rw [<-h2,<-h3]) (by simpa using hx) he
theorem frG_snoc {vs:List Int} {p:ByteArray}:∀ (l:List ByteArray) (i:Nat) (o:Fr),frG vs (l++[p]) i o=fset (frG vs l i o) p (vAt vs (i+l.length))
  | [],i,o=>rfl
  | q :: l, i, o => by
      show frG vs (l++[p]) (i+1) (fset o q (vAt vs i))=_
      rw [frG_snoc l (i+1)]
      show _=fset (frG vs l (i+1) (fset o q (vAt vs i))) p (vAt vs (i+(l.length+1)))
      rw [show i+1+l.length=i+(l.length+1) by omega]
def arG (vs:List Int):AVal:=.agg [(.sc (.int .i64 (vAt vs 0))),(.sc (.int .i64 (vAt vs 1))),(.sc (.int .i64 (vAt vs 2))),(.sc (.int .i64 (vAt vs 3)))]
theorem ix0G {b:Nat}:aIndexA 4 1 (.ptr b 0 0) (.sc (.int .i64 (0)))=some (.ptr b 0 0):=rfl
theorem ix1G {b:Nat}:aIndexA 4 1 (.ptr b 0 0) (.sc (.int .i64 (1)))=some (.ptr b 0 1):=rfl
theorem ixg {b i:Nat} (h:i < 4):aIndexA 4 1 (.ptr b 0 0) (.sc (.int .i64 (((i:Nat):Int))))=some (.ptr b 0 i):=by
 obtain rfl|rfl|rfl|rfl:i=0\/i=1\/i=2\/i=3:=by omega
 all_goals rfl
theorem ldg {vs:List Int} {i:Nat} (h:i < 4):loadAt false 1 0 i (some (.cells 4 [arG vs]))=some (.sc (.int .i64 (vAt vs i))):=by
 obtain rfl|rfl|rfl|rfl:i=0\/i=1\/i=2\/i=3:=by omega
 all_goals rfl
theorem vAt_snoc {vs:List Int} {v:Int} (i:Nat):vAt (vs++[v]) i=if i=vs.length then v else vAt vs i:=by
 unfold vAt
 by_cases h:i < vs.length
 ·rw [List.getElem?_append_left h,if_neg (by omega)]
 ·by_cases h2:i=vs.length
  ·subst h2; simp
  ·rw [if_neg h2,List.getElem?_eq_none (by simp; omega),List.getElem?_eq_none (by omega)]
theorem sts_g {b i:Nat} {vs:List Int} {v:Int} {σ:AStore} (h:vs.length=i) (hi:i < 4):stAt σ b 0 i 1 (.sc (.int .i64 (v))) (some (.cells 4 [arG vs]))=some (σ.set b (.cells 4 [arG (vs++[v])])):=by
 have e:arG (vs++[v])=.agg [(.sc (.int .i64 (if 0=i then v else vAt vs 0))),(.sc (.int .i64 (if 1=i then v else vAt vs 1))),(.sc (.int .i64 (if 2=i then v else vAt vs 2))),(.sc (.int .i64 (if 3=i then v else vAt vs 3)))]:=by
  unfold arG; simp only [vAt_snoc,h]
 rw [e]
 obtain rfl|rfl|rfl|rfl:i=0\/i=1\/i=2\/i=3:=by omega
 all_goals rfl
/-- The functions are well-formed data. -/
structure FnOk (fs:List Fc) (els:List AVal):Prop where
 d:IsFcs fs els
 p:∀ f∈fs,f.ps.length<=4
 b:∀ f∈fs,okSs f.body=true
 u:(fs.map Fc.nm).Nodup
theorem lk_fn0 {nm:ByteArray} {z:Value} {c:Nat}:∀ {fs:List Fc} {els:List AVal},IsFcs fs els->(fcOf fs nm=none/\getM (fnM fs els) nm=none)\/∃ f e i,fcOf fs nm=some f/\f∈fs/\getM (fnM fs els) nm=some (i,e)/\IsFc f e
  | [],els,h=>.inl ⟨rfl,rfl⟩
  | f :: fs, els, h => by
      obtain ⟨e,es,rfl⟩:∃ e es,els=e::es:=by
        cases els with
        | nil=>have:=h.len; simp at this
        | cons e es=>exact ⟨e,es,rfl⟩
      have h1:IsFc f e:=by
        obtain ⟨e',he',h1⟩:=h.at' 0 f rfl
        cases he'
        exact h1
      have h2:IsFcs fs es:=⟨by have:=h.len; simpa using this,fun j f' hj=>h.at' (j+1) f' hj⟩
      by_cases hk:f.nm=nm
      · refine .inr ⟨f,e,0,?_,by simp,?_,h1⟩
        · simp [fcOf,hk]
        · simp [fnM,getM,hk]
      · have he:fcOf (f::fs) nm=fcOf fs nm:=by simp [fcOf,hk]
        have hg:getM (fnM (f::fs) (e::es)) nm=(getM (fnM fs es) nm).map fun q=>(q.1+1,q.2):=by simp [fnM,getM,hk]
        rw [he,hg]
        rcases lk_fn0 (z:=z) (c:=c) h2 with ⟨a,b⟩|⟨f',e',i',a,a2,b,d⟩
        · exact .inl ⟨a,by rw [b]; rfl⟩
        · exact .inr ⟨f',e',i'+1,a,List.mem_cons_of_mem _ a2,by rw [b]; rfl,d⟩
theorem lk_fn {fs:List Fc} {els:List AVal} (h:FnOk fs els) (nm:ByteArray) {c:Nat}:∃ Y SP SB eb,lkAt .string (.agg #[.string ⟨#[]⟩,.slice none 0 0,.slice none 0 0]) false (.string nm) (some (.map (strM (fnM fs els)) c))=some (.agg [.sc (.string Y),SP,SB])/\
  IsD 1 SP ((fcD fs nm).ps.map sA)/\IsD 8 SB eb/\IsSts (fcD fs nm).body eb/\eb.length<=281474976710656/\okSs (fcD fs nm).body=true/\(fcD fs nm).ps.length<=4:=by
 rw [lkAt_map,aFind_str]
 rcases lk_fn0 (nm:=nm) (z:=.nilIface) (c:=0) h.d with ⟨a,b⟩|⟨f,e,i,a,a2,b,d⟩
 ·rw [b]
  unfold fcD
  rw [a]
  exact ⟨_,_,_,[],rfl,.inl ⟨rfl,_,_,rfl⟩,.inl ⟨rfl,_,_,rfl⟩,rfl,by decide,rfl,by decide⟩
 ·rw [b]
  unfold fcD
  rw [a]
  obtain ⟨SP,SB,eb,rfl,hP,hB,hb,_,_,_,hb2⟩:=d
  exact ⟨_,_,_,eb,rfl,hP,hB,hb,hb2,h.b _ a2,h.p _ a2⟩
theorem expGStep {k i : Int} {nm : ByteArray} {xs : List Ex} {g : List (ByteArray × Int)} {fs : List Fc} {els : List AVal} {N : Nat} {E : Ex → Fr → Nat → RX} {A : List St → Fr → Nat → RS} (hgv : ∀ s, inM (gval g s)) (hfs : FnOk fs els)
    (rec:∀ M,N=M+1->(∀ y,ExpGC g fs els M E y)/\∀ ss,AllGC g fs els M A ss):ExpGC g fs els N (expG fs (gval g) E A) (.mk k nm i xs):=by
  intro w v σ pm bg bf bo b1 b2 n O o h hok hM hF hoF hn hN
  simp only [IsEx] at h
  obtain ⟨S,es,rfl,hS,hx,hk,hi,hnm,hl⟩:=h
  simp only [okG,Bool.and_eq_true,decide_eq_true_eq] at hok
  obtain ⟨⟨har,hz4,hii⟩,hoks⟩:=hok
  have hlen:=hx.len
  have hSn:=fun σ:AStore=>hS.lenN hlen (σ:=σ)
  have kS:=hS.fit
  have cS:=hS.cells
  have iS:=hS.isCell
  have m0:=hM.m
  have hlt:=AStore.lt_of_get m0
  refine of_29 rfl rfl rfl (by kernel_rfl) ?_
  simp -implicitDefEqProofs only [go_sem,kS,cS,iS]
  have hk0:∀ X,KeepM pm σ (σ.alloc X):=fun X=>(KeepS.alloc σ X).m
  by_cases hn0:n=1000
  · refine (stepP (hn0 ▸ get_alloc_old m0)).mono ?_
    rintro _ _ ⟨rfl,rfl⟩
    have hcm:expG fs (gval g) E A (.mk k nm i xs) o n=⟨0,101,n⟩:=by rw [expG,if_pos hn0]
    rw [hcm]
    (repeat' first|refine vw ?_ ?_<;>intro hq|refine vz ?_|simp -implicitDefEqProofs only [go_sem])
    exact ⟨rfl,fun h=>absurd (show (101:Int)=0 from h) (by decide),hk0 _,Nat.le_refl _,hn,get_alloc_old m0⟩
  obtain ⟨M,rfl⟩:∃ M,N=M+1:=⟨N - 1,vom⟩
  obtain ⟨recE,recA⟩:=rec M rfl
  clear rec
  refine (stepC (show _=some (.cells 4 [.agg [.map bg,.map bf,.map bo,(.sc (.int .i64 (n)))]]) from get_alloc_old m0) (by omega)).mono ?_
  rintro _ τ ⟨⟨_,rfl⟩,m1,kp⟩
  have hX:τ.get σ.next=some (.cells 4 [.agg [(.sc (.int .i64 (k))),.sc (.string nm),(.sc (.int .i64 (i))),S]]):=kp.2 _ _ (by omega) (by rw [AStore.get_alloc,if_pos rfl])
  have kp0:=(hk0 _).trans kp
  have hM1:=hM.keep kp0 (show τ.get pm=some (mcBG bg bf bo (n+1)) from m1)
  have hF1:=hF.keep kp0
  clear kp
  simp -implicitDefEqProofs only [go_sem,hX]
  by_cases k1:k=1
  · have hcm:expG fs (gval g) E A (.mk k nm i xs) o n=⟨i,0,n+1⟩:=by rw [expG,if_neg hn0,if_pos k1]
    rw [hcm]
    (repeat' first|refine vw ?_ ?_<;>intro hq|refine vz ?_|simp -implicitDefEqProofs only [go_sem,hX,dct k1])
    exact ⟨rfl,fun _=>⟨hii,vom⟩,kp0,vom,vom,m1⟩
  by_cases k2:k=2
  · have hcm:expG fs (gval g) E A (.mk k nm i xs) o n=⟨(fget o nm).getD (gval g nm),0,n+1⟩:=by rw [expG,if_neg hn0,if_neg k1,if_pos k2]
    rw [hcm]
    obtain ⟨c,q1⟩:=hM1.g
    have hlk:=hF1.lk nm
    cases hfg:fget o nm with
    | some vv=>
      rw [hfg] at hlk
      dsimp only at hlk
      (repeat' first|refine vw ?_ ?_<;>intro hq|refine vz ?_|simp -implicitDefEqProofs only [go_sem,hX,dcf k1,dct k2,hlk])
      exact ⟨rfl,fun _=>⟨okF_get hoF hfg,vom⟩,kp0,vom,vom,m1⟩
    | none=>
      rw [hfg] at hlk
      dsimp only at hlk
      (repeat' first|refine vw ?_ ?_<;>intro hq|refine vz ?_|simp -implicitDefEqProofs only [go_sem,hX,dcf k1,dct k2,hlk])
      ((try (refine Z_seq ?_; (try simp -implicitDefEqProofs only [go_sem]))); refine Z_draw (by kernel_rfl) [0,1,2,3,4,5,6,7] [(7,127),(6,63),(5,16),(4,0),(3,7),(2,3),(1,1),(0,0)] (by kernel_rfl) (by kernel_rfl) ?_)
      simp -implicitDefEqProofs only [go_sem,hX,m1,q1,lk_strS,lk_g]
      exact ⟨rfl,fun _=>⟨hgv nm,vom⟩,kp0,vom,vom,m1⟩
  have h64:∀ y∈xs,okG y=true:=fun y hy=>okGs_mem hoks y hy
  by_cases k16:k=16
  · obtain ⟨x0,x1,rfl⟩:=ar2G har (by omega) (by omega)
    obtain ⟨e0,he0,hx0⟩:=hx.at (j:=0) (x:=x0) rfl
    obtain ⟨e1,he1,hx1⟩:=hx.at (j:=1) (x:=x1) rfl
    obtain ⟨c1,c2,c3⟩:=hx0.isA.facts
    obtain ⟨d1,d2,d3⟩:=hx1.isA.facts
    have i0:=fun σ:AStore=>hS.idx he0 (σ:=σ) (k:=.i64)
    have i1:=fun σ:AStore=>hS.idx he1 (σ:=σ) (k:=.i64)
    simp only [Int.natCast_zero,Int.natCast_one,Int.cast_ofNat_Int] at i0 i1
    have hcm : expG fs (gval g) E A (.mk k nm i [x0, x1]) o n = if (E x0 o (n + 1)).e ≠ 0 then ⟨0, (E x0 o (n + 1)).e, (E x0 o (n + 1)).n⟩ else if (E x0 o (n + 1)).v = 0 then ⟨0, 0, (E x0 o (n + 1)).n⟩ else
        if (E x1 o (E x0 o (n+1)).n).e≠0 then ⟨0,(E x1 o (E x0 o (n+1)).n).e,(E x1 o (E x0 o (n+1)).n).n⟩ else ⟨oneI (!decide ((E x1 o (E x0 o (n+1)).n).v=0)),0,(E x1 o (E x0 o (n+1)).n).n⟩:=by
      rw [expG,if_neg hn0,if_neg k1,if_neg k2,if_pos k16]; simp only [twoG,decide_eq_true_eq,Bool.not_eq_true',decide_eq_false_iff_not]
    rw [hcm]
    clear hcm
    (repeat' first|refine vw ?_ ?_<;>intro hq|refine vz ?_|simp -implicitDefEqProofs only [go_sem,hX,dcf k1,dcf k2,dct k16,i0,c1,c2,c3])
    refine (recE x0 (w:=⟨w.w,[]⟩) hx0 (h64 x0 (by simp)) hM1 hF1 hoF (by omega) (by omega)).mono ?_
    rintro _ τ1 ⟨rfl,in1,kp1,l1,u1,m2⟩
    have hX1:=kp1.2 _ _ (by omega) hX
    have kq1:=kp0.trans kp1
    generalize E x0 o (n+1)=p0 at in1 l1 u1 m2 ⊢
    by_cases h0:p0.e=0
    · rw [if_pos h0,if_neg (not_not_intro h0)]
      by_cases hz:p0.v=0
      · rw [if_pos hz]
        (repeat' first|refine vw ?_ ?_<;>intro hq|refine vz ?_|simp -implicitDefEqProofs only [go_sem,dct hz])
        refine (oneC _).use ?_
        (repeat' first|refine vw ?_ ?_<;>intro hq|refine vz ?_|simp -implicitDefEqProofs only [go_sem])
        exact ⟨rfl,fun _=>⟨inM_0,vom⟩,kq1,vom,u1,m2⟩
      · rw [if_neg hz]
        (repeat' first|refine vw ?_ ?_<;>intro hq|refine vz ?_|simp -implicitDefEqProofs only [go_sem,dcf hz,hX1,i1,d1,d2,d3])
        refine (recE x1 (w:=⟨w.w,[]⟩) hx1 (h64 x1 (by simp)) (hM1.keep kp1 m2) (hF1.keep kp1) hoF u1 (by omega)).mono ?_
        rintro _ τ2 ⟨rfl,in2,kp2,l2,u2,m3⟩
        have kq2:=kq1.trans kp2
        generalize E x1 o p0.n=p1 at in2 l2 u2 m3 ⊢
        by_cases h1:p1.e=0
        · rw [if_pos h1,if_neg (not_not_intro h1)]
          simp -implicitDefEqProofs only [go_sem]
          refine (oneC _).use ?_
          (repeat' first|refine vw ?_ ?_<;>intro hq|refine vz ?_|simp -implicitDefEqProofs only [go_sem])
          exact ⟨rfl,fun _=>⟨by have:=oneI_in (!decide (p1.v=0)); exact ⟨vom,vom⟩,vom⟩,kq2,vom,u2,m3⟩
        · rw [if_neg h1,if_pos h1]
          (repeat' first|refine vw ?_ ?_<;>intro hq|refine vz ?_|simp -implicitDefEqProofs only [go_sem])
          exact ⟨by rw [if_neg h1],fun h=>absurd h h1,kq2,vom,u2,m3⟩
    · rw [if_neg h0,if_pos h0]
      (repeat' first|refine vw ?_ ?_<;>intro hq|refine vz ?_|simp -implicitDefEqProofs only [go_sem])
      exact ⟨by rw [if_neg h0],fun h=>absurd h h0,kq1,vom,u1,m2⟩
  by_cases k17:k=17
  · obtain ⟨x0,x1,rfl⟩:=ar2G har (by omega) (by omega)
    obtain ⟨e0,he0,hx0⟩:=hx.at (j:=0) (x:=x0) rfl
    obtain ⟨e1,he1,hx1⟩:=hx.at (j:=1) (x:=x1) rfl
    obtain ⟨c1,c2,c3⟩:=hx0.isA.facts
    obtain ⟨d1,d2,d3⟩:=hx1.isA.facts
    have i0:=fun σ:AStore=>hS.idx he0 (σ:=σ) (k:=.i64)
    have i1:=fun σ:AStore=>hS.idx he1 (σ:=σ) (k:=.i64)
    simp only [Int.natCast_zero,Int.natCast_one,Int.cast_ofNat_Int] at i0 i1
    have hcm : expG fs (gval g) E A (.mk k nm i [x0, x1]) o n = if (E x0 o (n + 1)).e ≠ 0 then ⟨0, (E x0 o (n + 1)).e, (E x0 o (n + 1)).n⟩ else if (E x0 o (n + 1)).v ≠ 0 then ⟨1, 0, (E x0 o (n + 1)).n⟩ else
        if (E x1 o (E x0 o (n+1)).n).e≠0 then ⟨0,(E x1 o (E x0 o (n+1)).n).e,(E x1 o (E x0 o (n+1)).n).n⟩ else ⟨oneI (!decide ((E x1 o (E x0 o (n+1)).n).v=0)),0,(E x1 o (E x0 o (n+1)).n).n⟩:=by
      rw [expG,if_neg hn0,if_neg k1,if_neg k2,if_neg k16,if_pos k17]; simp only [twoG,decide_eq_true_eq,Bool.not_eq_true',decide_eq_false_iff_not]
    rw [hcm]
    clear hcm
    (repeat' first|refine vw ?_ ?_<;>intro hq|refine vz ?_|simp -implicitDefEqProofs only [go_sem,hX,dcf k1,dcf k2,dcf k16,dct k17,i0,c1,c2,c3])
    refine (recE x0 (w:=⟨w.w,[]⟩) hx0 (h64 x0 (by simp)) hM1 hF1 hoF (by omega) (by omega)).mono ?_
    rintro _ τ1 ⟨rfl,in1,kp1,l1,u1,m2⟩
    have hX1:=kp1.2 _ _ (by omega) hX
    have kq1:=kp0.trans kp1
    generalize E x0 o (n+1)=p0 at in1 l1 u1 m2 ⊢
    by_cases h0:p0.e=0
    · rw [if_pos h0,if_neg (not_not_intro h0)]
      by_cases hz:p0.v=0
      · rw [if_neg (not_not_intro hz)]
        (repeat' first|refine vw ?_ ?_<;>intro hq|refine vz ?_|simp -implicitDefEqProofs only [go_sem,dct hz,hX1,i1,d1,d2,d3])
        refine (recE x1 (w:=⟨w.w,[]⟩) hx1 (h64 x1 (by simp)) (hM1.keep kp1 m2) (hF1.keep kp1) hoF u1 (by omega)).mono ?_
        rintro _ τ2 ⟨rfl,in2,kp2,l2,u2,m3⟩
        have kq2:=kq1.trans kp2
        generalize E x1 o p0.n=p1 at in2 l2 u2 m3 ⊢
        by_cases h1:p1.e=0
        · rw [if_pos h1,if_neg (not_not_intro h1)]
          simp -implicitDefEqProofs only [go_sem]
          refine (oneC _).use ?_
          (repeat' first|refine vw ?_ ?_<;>intro hq|refine vz ?_|simp -implicitDefEqProofs only [go_sem])
          exact ⟨rfl,fun _=>⟨by have:=oneI_in (!decide (p1.v=0)); exact ⟨vom,vom⟩,vom⟩,kq2,vom,u2,m3⟩
        · rw [if_neg h1,if_pos h1]
          (repeat' first|refine vw ?_ ?_<;>intro hq|refine vz ?_|simp -implicitDefEqProofs only [go_sem])
          exact ⟨by rw [if_neg h1],fun h=>absurd h h1,kq2,vom,u2,m3⟩
      · rw [if_pos hz]
        (repeat' first|refine vw ?_ ?_<;>intro hq|refine vz ?_|simp -implicitDefEqProofs only [go_sem,dcf hz])
        refine (oneC _).use ?_
        (repeat' first|refine vw ?_ ?_<;>intro hq|refine vz ?_|simp -implicitDefEqProofs only [go_sem])
        exact ⟨rfl,fun _=>⟨inM_1,vom⟩,kq1,vom,u1,m2⟩
    · rw [if_neg h0,if_pos h0]
      (repeat' first|refine vw ?_ ?_<;>intro hq|refine vz ?_|simp -implicitDefEqProofs only [go_sem])
      exact ⟨by rw [if_neg h0],fun h=>absurd h h0,kq1,vom,u1,m2⟩
  by_cases k18:k=18
  · subst k18
    obtain ⟨x0,x1,x2,rfl⟩:=ar3G har
    obtain ⟨e0,he0,hx0⟩:=hx.at (j:=0) (x:=x0) rfl
    obtain ⟨e1,he1,hx1⟩:=hx.at (j:=1) (x:=x1) rfl
    obtain ⟨e2,he2,hx2⟩:=hx.at (j:=2) (x:=x2) rfl
    obtain ⟨c1,c2,c3⟩:=hx0.isA.facts
    obtain ⟨d1,d2,d3⟩:=hx1.isA.facts
    obtain ⟨f1,f2,f3⟩:=hx2.isA.facts
    have i0:=fun σ:AStore=>hS.idx he0 (σ:=σ) (k:=.i64)
    have i1:=fun σ:AStore=>hS.idx he1 (σ:=σ) (k:=.i64)
    have i2:=fun σ:AStore=>hS.idx he2 (σ:=σ) (k:=.i64)
    simp only [Int.natCast_zero,Int.natCast_one,Int.cast_ofNat_Int] at i0 i1 i2
    have hcm:expG fs (gval g) E A (.mk 18 nm i [x0,x1,x2]) o n=if (E x0 o (n+1)).e≠0 then ⟨0,(E x0 o (n+1)).e,(E x0 o (n+1)).n⟩ else if (E x0 o (n+1)).v≠0 then E x1 o (E x0 o (n+1)).n else E x2 o (E x0 o (n+1)).n:=by
      rw [expG,if_neg hn0]; rfl
    rw [hcm]
    clear hcm
    (repeat' first|refine vw ?_ ?_<;>intro hq|refine vz ?_|simp -implicitDefEqProofs only [go_sem,hX,i0,c1,c2,c3,show decide ((18:Int)=1)=false from rfl,show decide ((18:Int)=2)=false from rfl,show decide ((18:Int)=16)=false from rfl,show decide ((18:Int)=17)=false from rfl,show decide ((18:Int)=18)=true from rfl])
    refine (recE x0 (w:=⟨w.w,[]⟩) hx0 (h64 x0 (by simp)) hM1 hF1 hoF (by omega) (by omega)).mono ?_
    rintro _ τ1 ⟨rfl,in1,kp1,l1,u1,m2⟩
    have hX1:=kp1.2 _ _ (by omega) hX
    have kq1:=kp0.trans kp1
    generalize E x0 o (n+1)=p0 at in1 l1 u1 m2 ⊢
    by_cases h0:p0.e=0
    · rw [if_pos h0,if_neg (not_not_intro h0)]
      by_cases hz:p0.v=0
      · rw [if_neg (not_not_intro hz)]
        (repeat' first|refine vw ?_ ?_<;>intro hq|refine vz ?_|simp -implicitDefEqProofs only [go_sem,dct hz,hX1,i2,f1,f2,f3])
        refine (recE x2 (w:=⟨w.w,[]⟩) hx2 (h64 x2 (by simp)) (hM1.keep kp1 m2) (hF1.keep kp1) hoF u1 (by omega)).mono ?_
        rintro _ τ2 ⟨rfl,in2,kp2,l2,u2,m3⟩
        have kq2:=kq1.trans kp2
        generalize E x2 o p0.n=p1 at in2 l2 u2 m3 ⊢
        by_cases h1:p1.e=0
        · rw [if_pos h1]
          (repeat' first|refine vw ?_ ?_<;>intro hq|refine vz ?_|simp -implicitDefEqProofs only [go_sem])
          exact ⟨by rw [if_pos h1],fun h=>⟨(in2 h).1,by have:=(in2 h).2; omega⟩,kq2,by omega,u2,m3⟩
        · rw [if_neg h1]
          (repeat' first|refine vw ?_ ?_<;>intro hq|refine vz ?_|simp -implicitDefEqProofs only [go_sem])
          exact ⟨by rw [if_neg h1],fun h=>absurd h h1,kq2,by omega,u2,m3⟩
      · rw [if_pos hz]
        (repeat' first|refine vw ?_ ?_<;>intro hq|refine vz ?_|simp -implicitDefEqProofs only [go_sem,dcf hz,hX1,i1,d1,d2,d3])
        refine (recE x1 (w:=⟨w.w,[]⟩) hx1 (h64 x1 (by simp)) (hM1.keep kp1 m2) (hF1.keep kp1) hoF u1 (by omega)).mono ?_
        rintro _ τ2 ⟨rfl,in2,kp2,l2,u2,m3⟩
        have kq2:=kq1.trans kp2
        generalize E x1 o p0.n=p1 at in2 l2 u2 m3 ⊢
        by_cases h1:p1.e=0
        · rw [if_pos h1]
          (repeat' first|refine vw ?_ ?_<;>intro hq|refine vz ?_|simp -implicitDefEqProofs only [go_sem])
          exact ⟨by rw [if_pos h1],fun h=>⟨(in2 h).1,by have:=(in2 h).2; omega⟩,kq2,by omega,u2,m3⟩
        · rw [if_neg h1]
          (repeat' first|refine vw ?_ ?_<;>intro hq|refine vz ?_|simp -implicitDefEqProofs only [go_sem])
          exact ⟨by rw [if_neg h1],fun h=>absurd h h1,kq2,by omega,u2,m3⟩
    · rw [if_neg h0,if_pos h0]
      (repeat' first|refine vw ?_ ?_<;>intro hq|refine vz ?_|simp -implicitDefEqProofs only [go_sem])
      exact ⟨by rw [if_neg h0],fun h=>absurd h h0,kq1,vom,u1,m2⟩
  have hk3:3<=k/\(k=19\/k<=15):=by
    unfold arityB at har
    rw [if_neg (by omega)] at har
    split at har
    · omega
    · split at har
      · omega
      · first
          | (have:=of_decide_eq_true har; omega)
          | (rw [if_neg k18] at har; have:=of_decide_eq_true har; omega)
  obtain ⟨k3,k15⟩:=hk3
  generalize hF0:(fun (x:Ex) (n:Nat)=>E x o n)=F
  have hFx:∀ x n,F x n=E x o n:=fun x n=>by rw [<-hF0]
  have hcm : expG fs (gval g) E A (.mk k nm i xs) o n = if (argsG F xs (n + 1)).2.1 ≠ 0 then ⟨0, (argsG F xs (n + 1)).2.1, (argsG F xs (n + 1)).2.2⟩ else
      if k=19 then (if (A (fcD fs nm).body (frG (argsG F xs (n+1)).1 (fcD fs nm).ps 0 []) (argsG F xs (n+1)).2.2).e≠0 then ⟨0,(A (fcD fs nm).body (frG (argsG F xs (n+1)).1 (fcD fs nm).ps 0 []) (argsG F xs (n+1)).2.2).e,(A (fcD fs nm).body (frG (argsG F xs (n+1)).1 (fcD fs nm).ps 0 []) (argsG F xs (n+1)).2.2).n⟩ else ⟨(A (fcD fs nm).body (frG (argsG F xs (n+1)).1 (fcD fs nm).ps 0 []) (argsG F xs (n+1)).2.2).v,0,(A (fcD fs nm).body (frG (argsG F xs (n+1)).1 (fcD fs nm).ps 0 []) (argsG F xs (n+1)).2.2).n⟩)
      else ⟨(finV 100 7 k (vAt (argsG F xs (n+1)).1 0) (vAt (argsG F xs (n+1)).1 1)).1,(finV 100 7 k (vAt (argsG F xs (n+1)).1 0) (vAt (argsG F xs (n+1)).1 1)).2,(argsG F xs (n+1)).2.2⟩:=by
    rw [expG,if_neg hn0,if_neg k1,if_neg k2,if_neg k16,if_neg k17,if_neg k18,hF0]
  rw [hcm]
  clear hcm
  have hnx:=AStore.lt_of_get hX
  have hne:¬ (σ.next=τ.next):=by omega
  (repeat' first|refine vw ?_ ?_<;>intro hq|refine vz ?_|simp -implicitDefEqProofs only [go_sem,hX,dcf k1,dcf k2,dcf k16,dcf k17,dcf k18,hSn,hne])
  refine vlp (ι:=Nat) (fun j=>[(0,.ptr pm 0 0),(2,O),(4,.ptr σ.next 0 0),(9,.ptr τ.next 0 0),(112,S),(113,(.sc (.int .i64 (xs.length)))),(114,(.sc (.int .i64 (j))))]) (fun j ρ=>j<=xs.length/\KeepM pm σ ρ/\τ.next < ρ.next/\∃ vs m,argsG F (xs.take j) (n+1)=(vs,0,m)/\n+1<=m/\m<=1000/\vs.length=j/\(∀ q,inM (vAt vs q))/\ρ.get pm=some (mcBG bg bf bo m)/\ρ.get σ.next=some (.cells 4 [.agg [(.sc (.int .i64 (k))),.sc (.string nm),(.sc (.int .i64 (i))),S]])/\ρ.get τ.next=some (.cells 4 [arG vs])) (fun j=>xs.length - j) (fun _=>rfl) 0 ?_ ?_ ?_
  · exact vsu
  · exact ⟨Nat.zero_le _,kp0.trans (KeepS.alloc τ _).m,by rw [alloc_next]; omega,[],n+1,rfl,by omega,by omega,rfl,fun q=>by simp only [vAt,List.getElem?_nil,Option.getD_none]; exact inM_0,get_alloc_old m1,get_alloc_old hX,by rw [AStore.get_alloc,if_pos rfl]; rfl⟩
  rintro j ρ ⟨hj,kr,hnr,vs,m,hag,l1,u1,hvl,hvi,m2,hX2,ha2⟩
  simp -implicitDefEqProofs only [go_sem]
  (refine vif ?_ ?_<;>intro hlt)
  · obtain ⟨x,hx1⟩:∃ x,xs[j]?=some x:=⟨xs[j]'(by omega),by simp⟩
    obtain ⟨e,he,hxe⟩:=hx.at hx1
    obtain ⟨c1,c2,c3⟩:=hxe.isA.facts
    have cc:=hxe.cellsOk
    have hsp:=fun a b c d=>hxe.splice (a:=a) (b:=b) (c:=c) (d:=d)
    have hw:=wrapS (i:=j) (by omega)
    (repeat' first|refine vw ?_ ?_<;>intro hq|refine vz ?_|simp -implicitDefEqProofs only [go_sem,hS.idx he,c1,c2,c3,cc,hsp])
    have kk:∀ a b,KeepS ρ ((ρ.alloc a).set ρ.next b):=fun a b=>(KeepS.alloc ρ a).set (Nat.le_refl _) b
    refine (recE x (w:=⟨w.w,[]⟩) hxe (h64 x (List.mem_of_getElem? hx1)) ((hM.keep kr m2).keepS (kk _ _)) (hF.keep (kr.trans (kk _ _).m)) hoF u1 (by omega)).mono ?_
    rintro _ ρ2 ⟨rfl,in2,kq,l2,u2,m3⟩
    have ks:=(kr.trans (kk _ _).m).trans kq
    have hX3:=kq.2 _ _ (by omega) ((kk _ _).2 _ _ hX2)
    have ha3:=kq.2 _ _ (show τ.next≠pm by omega) ((kk _ _).2 _ _ ha2)
    have hn3:τ.next < ρ2.next:=AStore.lt_of_get ha3
    have hok:=args_ok hag hx1
    have hbad:=args_bad hag hx1
    rw [hFx] at hok hbad
    generalize E x o m=p at in2 l2 u2 m3 hok hbad ⊢
    by_cases hp:p.e=0
    · rw [if_pos hp]
      have hok:=hok hp
      have in2:=(in2 hp).1
      (repeat' first|refine vw ?_ ?_<;>intro hq|refine vz ?_|simp -implicitDefEqProofs only [go_sem,ha3,hw,ixg (show j < 4 by omega),sts_g (v:=p.v) hvl (show j < 4 by omega)])
      refine ⟨j+1,vom,⟨by omega,⟨by rw [set_next]; exact ks.1,fun b y hb hy=>?_⟩,by rw [set_next]; exact hn3,_,_,hok,by omega,u2,by simp [hvl],fun q=>?_,?_,?_,gss hn3⟩,vsu⟩
      · have:=AStore.lt_of_get hy
        rw [AStore.get_set,if_neg (by omega)]; exact ks.2 b y hb hy
      · rw [vAt_snoc]; split
        · exact in2
        · exact hvi q
      · rw [AStore.get_set,if_neg (by omega)]; exact m3
      · rw [AStore.get_set,if_neg (by omega)]; exact hX3
    · rw [if_neg hp]
      have hbad:=hbad hp
      rw [show (argsG F xs (n+1)).2.1=p.e by rw [hbad],show (argsG F xs (n+1)).2.2=p.n by rw [hbad],if_pos hp]
      (repeat' first|refine vw ?_ ?_<;>intro hq|refine vz ?_|simp -implicitDefEqProofs only [go_sem])
      exact ⟨by rw [if_neg hp],fun h=>absurd h hp,ks,vom,u2,m3⟩
  · obtain rfl:j=xs.length:=by omega
    rw [List.take_length] at hag
    rw [hag]
    dsimp only
    rw [if_neg (show ¬ ((0:Int)≠0) by decide)]
    have hMr:=hM.keep kr m2
    have m2':ρ.get pm=some (.cells 4 [.agg [.map bg,.map bf,.map bo,(.sc (.int .i64 (m)))]]):=m2
    by_cases k19:k=19
    · rw [if_pos k19]
      obtain ⟨c,q3⟩:=hMr.f
      obtain ⟨Y,SP,SB,eb,hlk,hP,hB,hbb,hbl,hob,hp4⟩:=lk_fn hfs nm (c:=c)
      generalize fcD fs nm=f at hP hbb hob hp4 ⊢
      have kP:=hP.fit
      have cP:=hP.cells
      have iP:=hP.isCell
      have kB:=hB.fit
      have cB:=hB.cells
      have iB:=hB.isCell
      have hPn:∀ σ:AStore,aLen (.slice 0) SP σ=some (.sc (.int .i64 (f.ps.length))):=fun σ=>hP.lenN (by simp)
      have lbf:=AStore.lt_of_get q3
      have lpm:=AStore.lt_of_get m2
      have nf1:¬ (bf=ρ.next):=by omega
      have nf2:¬ (σ.next=ρ.next):=by omega
      have nf3:¬ (pm=ρ.next):=by omega
      (repeat' first|refine vw ?_ ?_<;>intro hq|refine vz ?_|simp -implicitDefEqProofs only [go_sem,hX2,dct k19])
      ((try (refine Z_seq ?_; (try simp -implicitDefEqProofs only [go_sem]))); refine Z_draw (by kernel_rfl) [0,1,2,3,4,5,6,7,8] [(8,255),(7,0),(6,63),(5,16),(4,0),(3,7),(2,3),(1,1),(0,0)] (by kernel_rfl) (by kernel_rfl) ?_)
      simp -implicitDefEqProofs only [go_sem,hX2,m2',q3,lk_strS,hlk,kP,cP,iP,kB,cB,iB,nf1,nf2,nf3]
      have nf4:¬ (ρ.next=ρ.next+1):=by omega
      (repeat' first|refine vw ?_ ?_<;>intro hq|refine vz ?_|simp -implicitDefEqProofs only [go_sem,hPn,kP,cP,iP,kB,cB,iB,nf4])
      have kk3:∀ a b,KeepS ρ (((ρ.alloc a).set ρ.next b).alloc (.map [] 0)):=fun a b=>((KeepS.alloc ρ a).set (Nat.le_refl _) b).trans (KeepS.alloc _ _)
      have g12:∀ a b,(((ρ.alloc a).set ρ.next b).alloc (.map [] 0)).get ρ.next=some b:=fun a b=>get_alloc_old (gss (by rw [alloc_next]; omega))
      have gfb:∀ a b,(((ρ.alloc a).set ρ.next b).alloc (.map [] 0)).get (ρ.next+1)=some (.map [] 0):=fun a b=>by rw [AStore.get_alloc,if_pos (by rw [set_next,alloc_next])]
      have kk3:=kk3 (.cells 3 [.agg [.sc (.string ⟨#[]⟩),.sc (.slice none 0 0),.sc (.slice none 0 0)]]) (.cells 3 [.agg [.sc (.string Y),SP,SB]])
      have g12:=g12 (.cells 3 [.agg [.sc (.string ⟨#[]⟩),.sc (.slice none 0 0),.sc (.slice none 0 0)]]) (.cells 3 [.agg [.sc (.string Y),SP,SB]])
      have gfb:=gfb (.cells 3 [.agg [.sc (.string ⟨#[]⟩),.sc (.slice none 0 0),.sc (.slice none 0 0)]]) (.cells 3 [.agg [.sc (.string Y),SP,SB]])
      generalize ((ρ.alloc (.cells 3 [.agg [.sc (.string ⟨#[]⟩),.sc (.slice none 0 0),.sc (.slice none 0 0)]])).set ρ.next (.cells 3 [.agg [.sc (.string Y),SP,SB]])).alloc (.map [] 0)=τ3 at kk3 g12 gfb ⊢
      have hM3:=hMr.keepS kk3
      have hoff:=hMr.off (b:=ρ.next+1) (by omega)
      have ga3:=kk3.2 _ _ ha2
      refine vlp (ι:=Nat) (fun j=>[(0,.ptr pm 0 0),(9,.ptr τ.next 0 0),(12,.ptr ρ.next 0 0),(13,.map (ρ.next+1)),(138,SP),(139,(.sc (.int .i64 (f.ps.length)))),(140,(.sc (.int .i64 (j))))]) (fun j μ=>j<=f.ps.length/\KeepM (ρ.next+1) τ3 μ/\∃ c,μ.get (ρ.next+1)=some (.map (strM (gM (frG vs (f.ps.take j) 0 []))) c)) (fun j=>f.ps.length - j) (fun _=>rfl) 0 ?_ ?_ ?_
      · exact vsu
      · exact ⟨Nat.zero_le _,KeepM.refl _ _,0,gfb⟩
      rintro j μ ⟨hj,kμ,c4,gμ⟩
      have gaμ:=kμ.2 _ _ (by omega) ga3
      have g12μ:=kμ.2 _ _ (by omega) g12
      simp -implicitDefEqProofs only [go_sem]
      (refine vif ?_ ?_<;>intro hlt2)
      · obtain ⟨pn,hpn⟩:∃ pn,f.ps[j]?=some pn:=⟨f.ps[j]'(by omega),by simp⟩
        have e1:(f.ps.map sA)[j]?=some (sA pn):=by rw [List.getElem?_map,hpn]; rfl
        have hcs:(sA pn).cells=[.sc (.string pn)]:=rfl
        have hw:=wrapS (i:=j) (by omega)
        have hltm:=AStore.lt_of_get gμ
        (repeat' first|refine vw ?_ ?_<;>intro hq|refine vz ?_|simp -implicitDefEqProofs only [go_sem,hP.idx e1,hcs,ixg (b:=τ.next) (show j < 4 by omega),ldg (vs:=vs) (show j < 4 by omega),gaμ,ms_str,gμ,ms_fset,hw])
        refine ⟨j+1,vom,⟨vom,kμ.set _,clkS (frG vs (f.ps.take j) 0 []) pn c4,?_⟩,vsu⟩
        rw [gss hltm]
        have:f.ps.take (j+1)=f.ps.take j++[pn]:=by rw [List.take_add_one,hpn]; rfl
        rw [this,frG_snoc,List.length_take,Nat.min_eq_left hj,Nat.zero_add]
      · obtain rfl:j=f.ps.length:=by omega
        rw [List.take_length] at gμ
        have mμ:=kμ.2 _ _ (by omega) hM3.m
        have hMμ:=hM3.keep2 hoff (KeepM.k2' kμ) mμ
        (repeat' first|refine vw ?_ ?_<;>intro hq|refine vz ?_|simp -implicitDefEqProofs only [go_sem,g12μ,kP,cP,iP,kB,cB,iB])
        refine (recA f.body (w:=⟨w.w,[]⟩) hB hbb hbl hob hMμ gμ hoff (okF_fr hvi f.ps 0 (fun p hp=>by cases hp)) u1 (by omega)).mono ?_
        rintro _ σ' ⟨rfl,in4,k4,l4,u4,m4,_⟩
        have kfin:KeepM pm σ σ':=⟨by have:=kr.1; have:=kk3.1; have:=kμ.1; have:=k4.1; omega,fun x y hx hy=>by
          have h1:=AStore.lt_of_get hy
          exact k4.2 _ _ hx (by omega) (kμ.2 _ _ (by omega) (kk3.2 _ _ (kr.2 _ _ hx hy)))⟩
        generalize A f.body (frG vs f.ps 0 []) m=p at in4 l4 u4 m4 ⊢
        by_cases hp:p.e=0
        · rw [if_pos hp,if_neg (not_not_intro hp)]
          (repeat' first|refine vw ?_ ?_<;>intro hq|refine vz ?_|simp -implicitDefEqProofs only [go_sem])
          exact ⟨rfl,fun _=>⟨in4 hp,vom⟩,kfin,vom,u4,m4⟩
        · rw [if_neg hp,if_pos hp]
          (repeat' first|refine vw ?_ ?_<;>intro hq|refine vz ?_|simp -implicitDefEqProofs only [go_sem])
          exact ⟨by rw [if_neg hp],fun h=>absurd h hp,kfin,vom,u4,m4⟩
    · rw [if_neg k19]
      have k15':k<=15:=by omega
      have q2:=hMr.o.m
      have hlo:∀ ρ:AStore,aLookup (.int .i64) .nilFunc false (.map bo) (.sc (.int .i64 (k))) ρ=lkAt (.int .i64) .nilFunc false (.int .i64 k) (ρ.get bo):=fun ρ=>aLookup_map rfl
      have hfn:=opN_fns (w:=⟨w.w,[]⟩) k3 k15'
      have ha2':ρ.get τ.next=some (.cells 4 [.agg [(.sc (.int .i64 (vAt vs 0))),(.sc (.int .i64 (vAt vs 1))),(.sc (.int .i64 (vAt vs 2))),(.sc (.int .i64 (vAt vs 3)))]]):=ha2
      (repeat' first|refine vw ?_ ?_<;>intro hq|refine vz ?_|simp -implicitDefEqProofs only [go_sem,hX2,dcf k19])
      ((try (refine Z_seq ?_; (try simp -implicitDefEqProofs only [go_sem]))); refine Z_draw (by kernel_rfl) [0,1,2,3,4,5,6,7,8,9,10,11,12] [(12,4095),(11,2047),(10,512),(9,0),(8,128),(7,0),(6,63),(5,16),(4,0),(3,7),(2,3),(1,1),(0,0)] (by kernel_rfl) (by kernel_rfl) ?_)
      simp -implicitDefEqProofs only [go_sem,hX2,m2',q2,hlo,opsL_at k3 k15',ha2',ix0G,ix1G,hfn]
      refine (opAllC (w:=⟨w.w,[]⟩) hMr.o k3 k15' (hvi 0) (hvi 1)).mono ?_
      rintro _ _ ⟨rfl,rfl⟩
      by_cases hd:(k=8\/k=9)/\vAt vs 1=0
      · have hf:finV 100 7 k (vAt vs 0) (vAt vs 1)=(0,100):=by unfold finV; rw [if_pos hd]
        rw [if_pos hd,hf]
        (repeat' first|refine vw ?_ ?_<;>intro hq|refine vz ?_|simp -implicitDefEqProofs only [go_sem])
        exact ⟨rfl,fun h=>absurd (show (100:Int)=0 from h) (by decide),kr,vom,u1,m2⟩
      · rw [if_neg hd]
        refine .inl ⟨rfl,rfl,?_⟩
        by_cases hr:opV k (vAt vs 0) (vAt vs 1) > 2147483648\/opV k (vAt vs 0) (vAt vs 1) < -2147483648
        · have hf:finV 100 7 k (vAt vs 0) (vAt vs 1)=(0,7):=by unfold finV; rw [if_neg hd,if_pos hr]
          rw [hf]
          generalize opV k (vAt vs 0) (vAt vs 1)=z at hr ⊢
          by_cases hz:z > 2147483648
          · (repeat' first|refine vw ?_ ?_<;>intro hq|refine vz ?_|simp -implicitDefEqProofs only [go_sem,dct hz])
            exact ⟨rfl,fun h=>absurd (show (7:Int)=0 from h) (by decide),kr,vom,u1,m2⟩
          · have hz2:z < -2147483648:=by omega
            (repeat' first|refine vw ?_ ?_<;>intro hq|refine vz ?_|simp -implicitDefEqProofs only [go_sem,dcf hz,dct hz2])
            exact ⟨rfl,fun h=>absurd (show (7:Int)=0 from h) (by decide),kr,vom,u1,m2⟩
        · have hf:finV 100 7 k (vAt vs 0) (vAt vs 1)=(opV k (vAt vs 0) (vAt vs 1),0):=by unfold finV; rw [if_neg hd,if_neg hr]
          rw [hf]
          generalize opV k (vAt vs 0) (vAt vs 1)=z at hr ⊢
          have hz:¬ z > 2147483648:=by omega
          have hz2:¬ z < -2147483648:=by omega
          (repeat' first|refine vw ?_ ?_<;>intro hq|refine vz ?_|simp -implicitDefEqProofs only [go_sem,dcf hz,dcf hz2])
          exact ⟨rfl,fun _=>⟨⟨vom,vom⟩,vom⟩,kr,vom,u1,m2⟩
theorem fdels_snoc (o:Fr) (l:List ByteArray) (k:ByteArray):fdels o (l++[k])=fdel (fdels o l) k:=by simp [fdels]
theorem delDC {w:WD} {σ:AStore} {b5 b2 b c:Nat} {v:AVal} {made:List ByteArray} {o:Fr} (h5:σ.get b5=some (.cells 1 [v])) (h2:σ.get b2=some (.cells 1 [.map b])) (ho:Own σ 1 v (made.map sA)) (hb:σ.get b=some (.map (strM (gM o)) c))
  (hl:made.length<=1000000) (hne:∀ l,v≠.slice b 0 l) (hb5:b5≠b) (hb2:b2≠b):
  ACallsD (EE w) 82 [.ptr b5 0 0,.ptr b2 0 0] σ fun e σ'=>(∃ r,e=.ret r)/\KeepM b σ σ'/\∃ c,σ'.get b=some (.map (strM (gM (fdels o made))) c):=by
 have hlen:∀ τ:AStore,aLen (.slice 0) v τ=some (.sc (.int .i64 (made.length))):=fun τ=>by rw [ho.len,List.length_map]
 have of:=ho.fit
 have oc:=ho.cells
 have oi:=ho.isCell
 refine od_82 rfl rfl rfl (by decide) ?_
 simp -implicitDefEqProofs only [go_sem,h5,h2,hlen,of,oc,oi]
 refine vlp (ι:=Nat) (fun j=>[(0,.ptr b5 0 0),(1,.ptr b2 0 0),(4,v),(5,(.sc (.int .i64 (made.length)))),(6,(.sc (.int .i64 (j))))]) (fun j τ=>j<=made.length/\KeepM b σ τ/\∃ c,τ.get b=some (.map (strM (gM (fdels o (made.take j)))) c)) (fun j=>made.length - j) (fun _=>rfl) 0 ?_ ?_ ?_
 ·exact vsu
 ·exact ⟨Nat.zero_le _,KeepM.refl _ _,c,hb⟩
 rintro j τ ⟨hj,hkp,c,hg⟩
 simp -implicitDefEqProofs only [go_sem]
 (refine vif ?_ ?_<;>intro hlt)
 ·obtain ⟨bv,rfl,hgv⟩:∃ b,v=.slice b 0 made.length/\σ.get b=some (.cells 1 (made.map sA)):=by
   rcases ho with ⟨h,_⟩|⟨_,b,h,h'⟩
   ·rw [List.map_eq_nil_iff] at h; subst h; exact absurd hlt (by simp)
   ·exact ⟨b,by simpa using h,h'⟩
  have hbv:bv≠b:=fun h=>hne made.length (by rw [h])
  have q1:=hkp.2 _ _ hbv hgv
  have q2:=hkp.2 _ _ hb2 h2
  have hw:=wrapS (i:=j) (by omega)
  have hlt':j < made.length:=by omega
  have hx:(made.map sA)[j]?=some (.sc (.string made[j])):=by simp [hlt',sA]
  have hix:ixSl bv 0 1 (.sc (.int .i64 (j))) made.length (some (.cells 1 (made.map sA)))=some (.ptr bv j 0):=by
   rw [ixSl_cells,if_pos rfl]
   simp only [aIdx]
   rw [if_pos (by omega)]
   simp
  have hdel:∀ (τ:AStore) (k:ByteArray),aMapDel .string (.map b) (.sc (.string k)) τ=mdAt τ b .string (.string k) (τ.get b):=fun τ k=>aMapDel_map rfl
  have hlm:=AStore.lt_of_get hg
  (repeat' first|refine vw ?_ ?_<;>intro hq|refine vz ?_|simp -implicitDefEqProofs only [go_sem,q1,q2,hg,hix,hx,hdel,md_fdel,hw])
  refine ⟨j+1,vom,⟨vom,hkp.set _,c,?_⟩,vsu⟩
  rw [gss hlm]
  have:made.take (j+1)=made.take j++[made[j]]:=by rw [List.take_add_one,List.getElem?_eq_getElem hlt']; rfl
  rw [this,fdels_snoc]
 ·obtain rfl:j=made.length:=by omega
  rw [List.take_length] at hg
  (repeat' first|refine vw ?_ ?_<;>intro hq|refine vz ?_|simp -implicitDefEqProofs only [go_sem])
  exact ⟨⟨_,rfl⟩,hkp,c,hg⟩
structure SI (σ:AStore) (pm bg bf bo b n0:Nat) (o:Fr) (made:List ByteArray) (m:Nat) (τ:AStore):Prop where
 k:Keep2 pm b σ τ
 nx:σ.next+2<=τ.next
 mp:τ.get pm=some (mcBG bg bf bo m)
 fr:∃ c,τ.get b=some (.map (strM (gM o)) c)
 v:∃ v,τ.get (σ.next+1)=some (.cells 1 [v])/\Own τ 1 v (made.map sA)/\∀ c l,v=.slice c 0 l->σ.next+2<=c
 r:τ.get σ.next=some (.cells 1 [.map b])
 ml:made.length<=m
 hn:n0<=m
 hm:m<=1000
 ok:okF o
section
variable {σ τ τ':AStore} {pm bg bf bo b n0 m m':Nat} {o o':Fr} {made:List ByteArray}
theorem SI.keep2 (h:SI σ pm bg bf bo b n0 o made m τ) (hpm:pm < σ.next) (hb:b < σ.next) (hk:Keep2 pm b τ τ') (mp:τ'.get pm=some (mcBG bg bf bo m')) (hl:m<=m') (hu:m'<=1000) (fr:∃ c,τ'.get b=some (.map (strM (gM o')) c)) (ok:okF o'):SI σ pm bg bf bo b n0 o' made m' τ':=by
 obtain ⟨h1,h2,h3,h4,⟨v,v1,v2,v3⟩,h6,h7,h8,h9,h10⟩:=h
 refine ⟨h1.trans hk,by have:=hk.1; omega,mp,fr,⟨v,hk.2 _ _ (by omega) (by omega) v1,v2.mono ?_,v3⟩,hk.2 _ _ (by omega) (by omega) h6,vom,vom,hu,ok⟩
 intro c x hc hg
 have:=v3 _ _ hc
 exact hk.2 _ _ (by omega) (by omega) hg
theorem SI.keepM (h:SI σ pm bg bf bo b n0 o made m τ) (hpm:pm < σ.next) (hb:b < σ.next) (hne:b≠pm) (hk:KeepM pm τ τ') (mp:τ'.get pm=some (mcBG bg bf bo m')) (hl:m<=m') (hu:m'<=1000):SI σ pm bg bf bo b n0 o made m' τ':=by
 obtain ⟨c,hc⟩:=h.fr
 exact h.keep2 hpm hb hk.k2 mp hl hu ⟨c,hk.2 _ _ hne hc⟩ h.ok
theorem SI.keepS (h:SI σ pm bg bf bo b n0 o made m τ) (hpm:pm < σ.next) (hb:b < σ.next) (hne:b≠pm) (hk:KeepS τ τ'):SI σ pm bg bf bo b n0 o made m τ':=h.keepM hpm hb hne hk.m (hk.2 _ _ h.mp) (Nat.le_refl _) h.hm
/-- The names are forgotten; a panic goes on. -/
theorem SI.leave {w:WD} (h:SI σ pm bg bf bo b n0 o made m τ) (hpm:pm < σ.next) (hb:b < σ.next) (hne:b≠pm) (md:Option AVal):
  ACallsM (EE w) 82 [.ptr (σ.next+1) 0 0,.ptr σ.next 0 0] md τ fun en m' σ'=>(∃ r,en=.ret r)/\m'=md/\Keep2 pm b σ σ'/\σ'.get pm=some (mcBG bg bf bo m)/\∃ c,σ'.get b=some (.map (strM (gM (fdels o made))) c):=by
 obtain ⟨h1,h2,h3,⟨c,h4⟩,⟨v,v1,v2,v3⟩,h6,h7,h8,h9,h10⟩:=h
 refine (ACallsM.of_D (delDC v1 h6 v2 h4 (by omega) (fun l hl=>by have:=v3 _ _ hl; omega) (by omega) (by omega))).mono ?_
 rintro en m' σ' ⟨rfl,hr,kk,c,hc⟩
 exact ⟨hr,rfl,h1.trans (KeepM.k2' kk),kk.2 _ _ (Ne.symm hne) h3,c,hc⟩
end
theorem recOn_ret {E:Env} {rs:List ResultVar} {e:Ev} {R:AEnd->AStore->Prop} {v:AVal} {σ:AStore}:recOn E rs e R (.ret v) none σ=dRd (fun v=>R (.ret v) σ) ((vResults E rs e σ).map oneOf):=rfl
theorem allGStep {ss : List St} {g : List (ByteArray × Int)} {fs : List Fc} {els : List AVal} {N : Nat} {E : Ex → Fr → Nat → RX} {A : List St → Fr → Nat → RS}
    (rec:∀ M,N=M+1->(∀ y,ExpGC g fs els M E y)/\∀ ss,AllGC g fs els M A ss):AllGC g fs els N (fun s o n=>stsG E A s o [] n) ss:=by
  intro w L es σ pm bg bf bo b1 b2 n b c o hL hx hel hok hM hb hoff hoF hn hN
  have lb:=AStore.lt_of_get hb
  have lpm:=AStore.lt_of_get hM.m
  have hbpm:=hoff.m
  have hLn:=fun σ:AStore=>hL.lenN (hx.len) (σ:=σ)
  have hsl:=hx.len
  dsimp only
  generalize hP:stsG E A ss o [] n=P
  refine ot_57 rfl rfl rfl (by decide) ?_
  refine Top_seq0 (E:=EE ⟨w.w,[]⟩) (fn:=Tryz.f57) rfl rfl (Z_ofV ?_)
  simp -implicitDefEqProofs only [go_sem]
  refine Top_seq0 (E:=EE ⟨w.w,[]⟩) (fn:=Tryz.f57) rfl rfl (Z_ofV ?_)
  simp -implicitDefEqProofs only [go_sem]
  refine Top_dfr1 (E:=EE ⟨w.w,[]⟩) (Ed:=fun ds=>EE ⟨w.w,ds⟩) (fun _=>rfl) rfl rfl ?_
  simp -implicitDefEqProofs only [go_sem]
  refine ⟨⟨.func 82,[.ptr (σ.next+1) 0 0,.ptr σ.next 0 0],[]⟩,rfl,?_⟩
  refine Top_undsR (rs:=[.tmp 6,.tmp 7]) (E:=EE ⟨w.w,[]⟩) (Ed:=fun ds=>EE ⟨w.w,ds⟩) (fun _=>rfl) rfl (g:=82) (cap:=[.ptr (σ.next+1) 0 0,.ptr σ.next 0 0]) (as':=[]) rfl rfl rfl (Z_ofV ?_)
  have e5:((σ.alloc (.cells 1 [.map b])).alloc (.cells 1 [.sc (.slice none 0 0)])).get (σ.next+1)=some (.cells 1 [.sc (.slice none 0 0)]):=by rw [AStore.get_alloc,if_pos (show σ.next+1=(σ.alloc _).next from rfl)]
  have e2:((σ.alloc (.cells 1 [.map b])).alloc (.cells 1 [.sc (.slice none 0 0)])).get σ.next=some (.cells 1 [.map b]):=get_alloc_old (by rw [AStore.get_alloc,if_pos rfl])
  have ek:KeepS σ ((σ.alloc (.cells 1 [.map b])).alloc (.cells 1 [.sc (.slice none 0 0)])):=(KeepS.alloc σ _).trans (KeepS.alloc _ _)
  have en:((σ.alloc (.cells 1 [.map b])).alloc (.cells 1 [.sc (.slice none 0 0)])).next=σ.next+2:=rfl
  generalize (σ.alloc (.cells 1 [.map b])).alloc (.cells 1 [.sc (.slice none 0 0)])=τ0 at e5 e2 ek en ⊢
  simp -implicitDefEqProofs only [go_sem,hLn]
  refine vlp (ι:=Nat) (fun j=>[(0,.ptr pm 0 0),(5,.ptr σ.next 0 0),(6,(.sc (.int .i64 (0)))),(7,(.sc (.bool (false)))),(8,.ptr (σ.next+1) 0 0),(18,L),(19,(.sc (.int .i64 (ss.length)))),(20,(.sc (.int .i64 (j))))]) (fun j τ=>j<=ss.length/\∃ o' made m,SI σ pm bg bf bo b n o' made m τ/\stsG E A (ss.drop j) o' made m=P) (fun j=>ss.length - j) (fun _=>rfl) 0 ?_ ?_ ?_
  · exact vsu
  · exact ⟨Nat.zero_le _,o,[],n,⟨ek.m.k2,vom,ek.2 _ _ hM.m,⟨c,ek.2 _ _ hb⟩,⟨_,e5,Own.nil,fun _ _ h=>by cases h⟩,e2,Nat.zero_le _,Nat.le_refl _,hn,hoF⟩,hP⟩
  rintro j τ ⟨hj,o',made,m,hI,hP'⟩
  clear hP
  simp -implicitDefEqProofs only [go_sem]
  (refine vif ?_ ?_<;>intro hlt)
  · obtain ⟨x,hx1⟩:∃ x,ss[j]?=some x:=⟨ss[j]'(by omega),by simp⟩
    have hdr:ss.drop j=x::ss.drop (j+1):=by
      rw [List.drop_eq_getElem_cons (by omega)]
      rw [List.getElem?_eq_getElem (by omega)] at hx1
      rw [Option.some.inj hx1]
    rw [hdr] at hP'
    have hokx:=okSs_mem hok x (List.mem_of_getElem? hx1)
    obtain ⟨e,he,hxe⟩:=hx.at hx1
    obtain ⟨k,nm,v,body,els'⟩:=x
    simp only [okS,Bool.and_eq_true] at hokx
    obtain ⟨⟨okv,okb⟩,oke⟩:=hokx
    have cc:=hxe.cellsOk
    simp only [IsSt] at hxe
    obtain ⟨SA,SB,SE,ea,eb,ee,rfl,hA',ha,hB,hb',hE,hee,h1,h2,h3,h4,h5,h6,h7,h8⟩:=hxe
    have hvx:=ex_of hA' ha h2 h3 h5 h6
    have kA:=hA'.fit
    have cA:=hA'.cells
    have iA:=hA'.isCell
    have kB:=hB.fit
    have cB:=hB.cells
    have iB:=hB.isCell
    have kE:=hE.fit
    have cE:=hE.cells
    have iE:=hE.isCell
    have hw:=wrapS (i:=j) (by omega)
    have hk3:∀ a b,KeepS τ ((τ.alloc a).set τ.next b):=fun a b=>(KeepS.alloc τ a).set (Nat.le_refl _) b
    have hg1:∀ a b,((τ.alloc a).set τ.next b).get τ.next=some b:=fun a b=>gss (by simp only [alloc_next]; omega)
    (repeat' first|refine vw ?_ ?_<;>intro hq|refine vz ?_|simp -implicitDefEqProofs only [go_sem,hL.idx he,cc,kA,cA,iA,kB,cB,iB,kE,cE,iE])
    by_cases hn0:m=1000
    · subst hn0
      have hI1:=hI.keepS lpm lb hbpm (hk3 (ABlk.cells 8 [.agg [(.sc (.int .i64 (0))),.sc (.string ⟨#[]⟩),(.sc (.int .i64 (0))),.sc (.string ⟨#[]⟩),(.sc (.int .i64 (0))),.sc (.slice none 0 0),.sc (.slice none 0 0),.sc (.slice none 0 0)]]) (ABlk.cells 8 [.agg [(.sc (.int .i64 (k))),.sc (.string nm),(.sc (.int .i64 (v.k))),.sc (.string v.nm),(.sc (.int .i64 (v.i))),SA,SB,SE]]))
      refine (stepP hI1.mp).mono ?_
      rintro _ _ ⟨rfl,rfl⟩
      refine (hI1.leave lpm lb hbpm (some _)).mono ?_
      rintro _ _ σ' ⟨⟨_,rfl⟩,rfl,kf,mf,cf,gf⟩
      rw [stsG,if_pos rfl] at hP'
      rw [<-hP']
      exact ⟨rfl,fun h=>absurd (show (101:Int)=0 from h) (by decide),kf,hI.hn,Nat.le_refl _,mf,_,cf,gf,okF_dels made hI.ok,fun _=>rfl⟩
    · obtain ⟨M,rfl⟩:∃ M,N=M+1:=⟨N - 1,by have:=hI.hn; have:=hI.hm; omega⟩
      obtain ⟨recE,recA⟩:=rec M rfl
      clear rec
      have hI1:=hI.keepS lpm lb hbpm (hk3 (ABlk.cells 8 [.agg [(.sc (.int .i64 (0))),.sc (.string ⟨#[]⟩),(.sc (.int .i64 (0))),.sc (.string ⟨#[]⟩),(.sc (.int .i64 (0))),.sc (.slice none 0 0),.sc (.slice none 0 0),.sc (.slice none 0 0)]]) (ABlk.cells 8 [.agg [(.sc (.int .i64 (k))),.sc (.string nm),(.sc (.int .i64 (v.k))),.sc (.string v.nm),(.sc (.int .i64 (v.i))),SA,SB,SE]]))
      have g0:=hg1 (ABlk.cells 8 [.agg [(.sc (.int .i64 (0))),.sc (.string ⟨#[]⟩),(.sc (.int .i64 (0))),.sc (.string ⟨#[]⟩),(.sc (.int .i64 (0))),.sc (.slice none 0 0),.sc (.slice none 0 0),.sc (.slice none 0 0)]]) (ABlk.cells 8 [.agg [(.sc (.int .i64 (k))),.sc (.string nm),(.sc (.int .i64 (v.k))),.sc (.string v.nm),(.sc (.int .i64 (v.i))),SA,SB,SE]])
      have hmm:=hI.hm
      have hnn:=hI.hn
      have htn:=hI.nx
      refine (stepC (n:=m) (show _=some (ABlk.cells 4 [.agg [.map bg,.map bf,.map bo,(.sc (.int .i64 (m)))]]) from hI1.mp) (by omega)).mono ?_
      rintro _ τ1 ⟨⟨_,rfl⟩,mp1,kp1⟩
      have hI2:=hI1.keepM (m':=m+1) lpm lb hbpm kp1 (show τ1.get pm=some (mcBG bg bf bo (m+1)) from mp1) (by omega) (by omega)
      have g1:=kp1.2 _ _ (by omega) g0
      clear kp1 hI1 g0 mp1
      rw [stsG,if_neg hn0] at hP'
      dsimp only at hP'
      obtain ⟨c2,fr2⟩:=hI2.fr
      have r2:=hI2.r
      simp -implicitDefEqProofs only [go_sem,g1,r2]
      refine (recE v (w:=⟨w.w,_⟩) hvx okv (hM.keep2 hoff hI2.k hI2.mp) (.inr ⟨b,c2,rfl,fr2,hoff⟩) hI.ok (by omega) (by omega)).mono ?_
      rintro _ τ2 ⟨rfl,in2,kp2,l2,u2,mp2⟩
      have hI3:=hI2.keepM lpm lb hbpm kp2 mp2 l2 u2
      have g2:=kp2.2 _ _ (by omega) g1
      clear hI2 kp2 g1 fr2 r2
      generalize E v o' (m+1)=p at in2 l2 u2 mp2 hI3 hP' ⊢
      by_cases hpe:p.e=0
      · rw [if_neg (not_not_intro hpe)] at hP'
        rw [if_pos hpe]
        obtain ⟨inv,ltv⟩:=in2 hpe
        have hge:=ltv
        obtain ⟨c3,fr3⟩:=hI3.fr
        have r3:=hI3.r
        by_cases k5:k=5
        · rw [if_pos k5] at hP'
          rw [<-hP']
          (repeat' first|refine vw ?_ ?_<;>intro hq|refine vz ?_|simp -implicitDefEqProofs only [go_sem,g2,dct k5])
          refine (hI3.leave lpm lb hbpm none).mono ?_
          rintro _ _ σ' ⟨⟨_,rfl⟩,rfl,kf,mf,cf,gf⟩
          rw [recOn_ret]
          simp -implicitDefEqProofs only [go_sem]
          exact ⟨rfl,fun _=>inv,kf,hI3.hn,u2,mf,_,cf,gf,okF_dels made hI3.ok,fun _=>rfl⟩
        rw [if_neg k5] at hP'
        have hIset:SI σ pm bg bf bo b n (fset o' nm p.v) made p.n (τ2.set b (.map (strM (gM (fset o' nm p.v))) (clkS o' nm c3))):=
          hI3.keep2 lpm lb (KeepM.k2' ((KeepM.refl b τ2).set _)) (by rw [AStore.get_set,if_neg (by omega)]; exact mp2) (Nat.le_refl _) u2 ⟨_,gss (by have:=hI3.k.1; omega)⟩ (okF_set hI3.ok nm inv)
        by_cases k1:k=1
        · rw [if_pos k1] at hP'
          have hne1:(σ.next+1=b)=False:=eq_false (by omega)
          have hne2:(τ.next=b)=False:=eq_false (by omega)
          obtain ⟨v0,v1,v2,v3⟩:=hI3.v
          have f4:=v2.fit
          have f5:=v2.cells
          have f6:=v2.isCell
          (repeat' first|refine vw ?_ ?_<;>intro hq|refine vz ?_|simp -implicitDefEqProofs only [go_sem,g2,r3,dcf k5,dct k1,ms_str,fr3,ms_fset,hne1,hne2,false_and,if_false,v1,f4,f5,f6])
          obtain ⟨τ3,hτ3⟩:∃ t,t=τ2.set b (.map (strM (gM (fset o' nm p.v))) (clkS o' nm c3)):=⟨_,rfl⟩
          rw [<-hτ3] at hIset ⊢
          have hn3:τ3.next=τ2.next:=by rw [hτ3,set_next]
          have w1:τ3.get (σ.next+1)=some (.cells 1 [v0]):=by rw [hτ3,AStore.get_set,if_neg (by omega)]; exact v1
          have w2:Own τ3 1 v0 (made.map sA):=v2.mono fun c x hc hg=>by have:=v3 _ _ hc; rw [hτ3,AStore.get_set,if_neg (by omega)]; exact hg
          clear hτ3
          have hml:=hI.ml
          obtain ⟨v',τ4,q1,q2,q3,q4,q5⟩:=(w2.alloc (.cells 1 [.sc (.string nm)])).append' (xs:=[.sc (.string nm)]) (bytes:=16) (by simp only [List.length_map,List.length_cons,List.length_nil]; omega) (by decide) (by decide) rfl
          have q6:τ4.get (σ.next+1)=some (.cells 1 [v0]):=q4 _ _ (get_alloc_old w1) fun l hc=>by have:=v3 _ _ hc; omega
          have q8:=q2.fit
          have q9:=q2.cells
          have q10:=q2.isCell
          have hst:storeEl v0 0 [v']=v':=by rcases w2 with ⟨_,rfl⟩|⟨_,b,rfl,_⟩<;>rfl
          (repeat' first|refine vw ?_ ?_<;>intro hq|refine vz ?_|simp -implicitDefEqProofs only [go_sem,q1,q6,q8,q9,q10,f5,hst,hw])
          have hb5:σ.next+1 < τ4.next:=AStore.lt_of_get q6
          have ks:∀ x y,x < σ.next+2->τ3.get x=some y->τ4.get x=some y:=fun x y hx hg=>q4 _ _ (get_alloc_old hg) fun l hc=>by have:=v3 _ _ hc; omega
          have fv':∀ c l,v'=.slice c 0 l->σ.next+2<=c:=by
            intro c l hc
            rcases Nat.lt_or_ge c (σ.next+2) with hh|hh
            · exact absurd hc (q5 c (by simp only [alloc_next]; have:=hIset.nx; omega) (fun l hc=>by have:=v3 _ _ hc; omega) l)
            · exact hh
          have q3':τ3.next+1<=τ4.next:=by simp only [alloc_next] at q3; omega
          have s1:=hIset.k
          have s2:=hIset.nx
          have s3:=hIset.mp
          have s4:=hIset.fr
          have s6:=hIset.r
          refine ⟨j+1,vom,⟨by omega,fset o' nm p.v,made++[nm],p.n,⟨⟨by rw [set_next]; have:=s1.1; omega,fun x y hx1 hx2 hy=>?_⟩,by rw [set_next]; omega,?_,?_,⟨v',gss hb5,?_,fv'⟩,?_,by simp; omega,hIset.hn,u2,hIset.ok⟩,hP'⟩,vsu⟩
          · have:=AStore.lt_of_get hy
            rw [AStore.get_set,if_neg (by omega)]
            exact ks _ _ (by omega) (s1.2 _ _ hx1 hx2 hy)
          · rw [AStore.get_set,if_neg (by omega)]
            exact ks _ _ (by omega) s3
          · obtain ⟨c5,s4⟩:=s4
            refine ⟨c5,?_⟩
            rw [AStore.get_set,if_neg (by omega)]
            exact ks _ _ (by omega) s4
          · rw [List.map_append]
            refine Own.mono q2 fun c x hc hg=>?_
            have:=fv' _ _ hc
            rw [AStore.get_set,if_neg (by omega)]
            exact hg
          · rw [AStore.get_set,if_neg (by omega)]
            exact ks _ _ (by omega) s6
        rw [if_neg k1] at hP'
        by_cases k2:k=2
        · rw [if_pos k2] at hP'
          (repeat' first|refine vw ?_ ?_<;>intro hq|refine vz ?_|simp -implicitDefEqProofs only [go_sem,g2,r3,dcf k5,dcf k1,dct k2,ms_str,fr3,ms_fset,hw])
          exact ⟨j+1,vom,⟨vom,_,made,p.n,hIset,hP'⟩,vsu⟩
        rw [if_neg k2] at hP'
        by_cases k3:k=3
        · rw [if_pos (.inl k3),if_pos k3] at hP'
          have goAll : ∀ (B : List St) (S : AVal) (eb : List AVal), IsD 8 S eb → IsSts B eb → eb.length ≤ 281474976710656 → okSs B = true → A (if p.v = 0 then els' else body) o' p.n = A B o' p.n →
              ACalls (EE ⟨w.w,[⟨.func 82,[.ptr (σ.next+1) 0 0,.ptr σ.next 0 0],[]⟩]⟩) 57 [.ptr pm 0 0,S,.map b] τ2 (SR pm bg bf bo b p.n τ2 (A (if p.v=0 then els' else body) o' p.n)):=fun B S eb q1 q2 q3 q4 q5=>by
            rw [q5]; exact recA B q1 q2 q3 q4 (hM.keep2 hoff hI3.k hI3.mp) fr3 hoff hI3.ok u2 (by omega)
          generalize hq0:A (if p.v=0 then els' else body) o' p.n=q at hP' goAll
          by_cases hz:p.v=0
          · (repeat' first|refine vw ?_ ?_<;>intro hq|refine vz ?_|simp -implicitDefEqProofs only [go_sem,g2,r3,dcf k5,dcf k1,dcf k2,dct k3,dct hz,kB,cB,iB,kE,cE,iE])
            refine (goAll els' SE ee hE hee h8 oke (by rw [<-hq0,if_pos hz])).mono ?_
            rintro _ τ3 ⟨rfl,inq,kq,lq,uq,mq,o2,cq,gq,okq,hq⟩
            have hI4:=hI3.keep2 lpm lb kq mq lq uq ⟨cq,gq⟩ okq
            by_cases hqe:q.e=0
            · obtain rfl:=hq hqe
              rw [if_pos hqe]
              cases hqr:q.r with
              | true=>
                rw [if_pos (.inr hqr)] at hP'
                rw [<-hP']
                (repeat' first|refine vw ?_ ?_<;>intro hq|refine vz ?_|simp -implicitDefEqProofs only [go_sem])
                refine (hI4.leave lpm lb hbpm none).mono ?_
                rintro _ _ σ' ⟨⟨_,rfl⟩,rfl,kf,mf,cf,gf⟩
                rw [recOn_ret]
                simp -implicitDefEqProofs only [go_sem]
                exact ⟨by rw [if_pos hqe,hqr],fun _=>inq hqe,kf,hI4.hn,uq,mf,_,cf,gf,okF_dels made hI4.ok,fun _=>rfl⟩
              | false=>
                rw [if_neg (by rw [hqe,hqr]; decide)] at hP'
                (repeat' first|refine vw ?_ ?_<;>intro hq|refine vz ?_|simp -implicitDefEqProofs only [go_sem,hw])
                exact ⟨j+1,vom,⟨vom,q.o,made,q.n,hI4,hP'⟩,vsu⟩
            · rw [if_pos (.inl hqe)] at hP'
              rw [if_neg hqe]
              refine (hI4.leave lpm lb hbpm (some _)).mono ?_
              rintro _ _ σ' ⟨⟨_,rfl⟩,rfl,kf,mf,cf,gf⟩
              rw [<-hP']
              exact ⟨by rw [if_neg hqe],fun h=>absurd h hqe,kf,hI4.hn,uq,mf,_,cf,gf,okF_dels made hI4.ok,fun h=>absurd h hqe⟩
          · (repeat' first|refine vw ?_ ?_<;>intro hq|refine vz ?_|simp -implicitDefEqProofs only [go_sem,g2,r3,dcf k5,dcf k1,dcf k2,dct k3,dcf hz,kB,cB,iB,kE,cE,iE])
            refine (goAll body SB eb hB hb' h7 okb (by rw [<-hq0,if_neg hz])).mono ?_
            rintro _ τ3 ⟨rfl,inq,kq,lq,uq,mq,o2,cq,gq,okq,hq⟩
            have hI4:=hI3.keep2 lpm lb kq mq lq uq ⟨cq,gq⟩ okq
            by_cases hqe:q.e=0
            · obtain rfl:=hq hqe
              rw [if_pos hqe]
              cases hqr:q.r with
              | true=>
                rw [if_pos (.inr hqr)] at hP'
                rw [<-hP']
                (repeat' first|refine vw ?_ ?_<;>intro hq|refine vz ?_|simp -implicitDefEqProofs only [go_sem])
                refine (hI4.leave lpm lb hbpm none).mono ?_
                rintro _ _ σ' ⟨⟨_,rfl⟩,rfl,kf,mf,cf,gf⟩
                rw [recOn_ret]
                simp -implicitDefEqProofs only [go_sem]
                exact ⟨by rw [if_pos hqe,hqr],fun _=>inq hqe,kf,hI4.hn,uq,mf,_,cf,gf,okF_dels made hI4.ok,fun _=>rfl⟩
              | false=>
                rw [if_neg (by rw [hqe,hqr]; decide)] at hP'
                (repeat' first|refine vw ?_ ?_<;>intro hq|refine vz ?_|simp -implicitDefEqProofs only [go_sem,hw])
                exact ⟨j+1,vom,⟨vom,q.o,made,q.n,hI4,hP'⟩,vsu⟩
            · rw [if_pos (.inl hqe)] at hP'
              rw [if_neg hqe]
              refine (hI4.leave lpm lb hbpm (some _)).mono ?_
              rintro _ _ σ' ⟨⟨_,rfl⟩,rfl,kf,mf,cf,gf⟩
              rw [<-hP']
              exact ⟨by rw [if_neg hqe],fun h=>absurd h hqe,kf,hI4.hn,uq,mf,_,cf,gf,okF_dels made hI4.ok,fun h=>absurd h hqe⟩
        by_cases k4:k=4
        · rw [if_pos (.inr k4),if_neg k3] at hP'
          generalize hQ:whG E A v body 1001 p.v o' p.n=Q at hP'
          (repeat' first|refine vw ?_ ?_<;>intro hq|refine vz ?_|simp -implicitDefEqProofs only [go_sem,g2,dcf k5,dcf k1,dcf k2,dcf k3,dct k4])
          refine vlp (ι:=Int×Nat) (fun q=>[(0,.ptr pm 0 0),(5,.ptr σ.next 0 0),(6,(.sc (.int .i64 (0)))),(7,(.sc (.bool (false)))),(8,.ptr (σ.next+1) 0 0),(18,L),(19,(.sc (.int .i64 (ss.length)))),(20,(.sc (.int .i64 (j)))),(10,.ptr τ.next 0 0),(11,(.sc (.int .i64 (q.1))))]) (fun q μ=>∃ o2 K,SI σ pm bg bf bo b n o2 made q.2 μ/\μ.get τ.next=some (.cells 8 [.agg [(.sc (.int .i64 (k))),.sc (.string nm),(.sc (.int .i64 (v.k))),.sc (.string v.nm),(.sc (.int .i64 (v.i))),SA,SB,SE]])/\1001<=K+q.2/\n+1<=q.2/\whG E A v body K q.1 o2 q.2=Q) (fun q=>1000 - q.2) (fun _=>rfl) (p.v,p.n) ?_ ?_ ?_
          · exact vsu
          · exact ⟨o',1001,hI3,g2,vom,vom,hQ⟩
          clear hQ
          rintro ⟨val,mm⟩ μ ⟨o2,K,hJ,gμ,hK,hn1,hwh⟩
          dsimp only at hJ hK hn1 hwh ⊢
          have hmm2:=hJ.hm
          obtain ⟨K,rfl⟩:∃ K',K=K'+1:=⟨K - 1,vom⟩
          obtain ⟨cj,fj⟩:=hJ.fr
          have rj:=hJ.r
          by_cases hz:val=0
          · rw [whG,if_pos hz] at hwh
            rw [<-hwh] at hP'
            rw [if_neg (by rintro (h|h); exact h rfl; cases h)] at hP'
            (repeat' first|refine vw ?_ ?_<;>intro hq|refine vz ?_|simp -implicitDefEqProofs only [go_sem,dct hz,hw])
            exact ⟨j+1,vom,⟨vom,o2,made,mm,hJ,hP'⟩,vsu⟩
          · rw [whG,if_neg hz] at hwh
            dsimp only at hwh
            (repeat' first|refine vw ?_ ?_<;>intro hq|refine vz ?_|simp -implicitDefEqProofs only [go_sem,dcf hz,gμ,rj,kB,cB,iB,kE,cE,iE])
            refine (recA body (w:=⟨w.w,_⟩) hB hb' h7 okb (hM.keep2 hoff hJ.k hJ.mp) fj hoff hJ.ok hmm2 (by have:=hJ.hn; omega)).mono ?_
            rintro _ τ3 ⟨rfl,inq,kq,lq,uq,mq,o3,cq,gq,okq,hq⟩
            have hI4:=hJ.keep2 lpm lb kq mq lq uq ⟨cq,gq⟩ okq
            have g3:=kq.2 _ _ (by omega) (by omega) gμ
            generalize A body o2 mm=q at inq lq uq mq hq hI4 hwh ⊢
            by_cases hqe:q.e=0
            · obtain rfl:=hq hqe
              rw [if_pos hqe]
              cases hqr:q.r with
              | true=>
                rw [if_pos (.inr hqr)] at hwh
                rw [<-hwh,if_pos (.inr hqr)] at hP'
                rw [<-hP']
                (repeat' first|refine vw ?_ ?_<;>intro hq|refine vz ?_|simp -implicitDefEqProofs only [go_sem])
                refine (hI4.leave lpm lb hbpm none).mono ?_
                rintro _ _ σ' ⟨⟨_,rfl⟩,rfl,kf,mf,cf,gf⟩
                rw [recOn_ret]
                simp -implicitDefEqProofs only [go_sem]
                exact ⟨by rw [if_pos hqe,hqr],fun _=>inq hqe,kf,hI4.hn,uq,mf,_,cf,gf,okF_dels made hI4.ok,fun _=>rfl⟩
              | false=>
                rw [if_neg (by rw [hqe,hqr]; decide)] at hwh
                have r4:=hI4.r
                (repeat' first|refine vw ?_ ?_<;>intro hq|refine vz ?_|simp -implicitDefEqProofs only [go_sem,g3,r4,kA,cA,iA])
                refine (recE v (w:=⟨w.w,_⟩) hvx okv (hM.keep2 hoff hI4.k hI4.mp) (.inr ⟨b,cq,rfl,gq,hoff⟩) hI4.ok uq (by omega)).mono ?_
                rintro _ τ4 ⟨rfl,in5,kp5,l5,u5,mp5⟩
                have hI5:=hI4.keepM lpm lb hbpm kp5 mp5 l5 u5
                have g5:=kp5.2 _ _ (by omega) g3
                generalize E v q.o q.n=p2 at in5 l5 u5 mp5 hI5 hwh ⊢
                by_cases he5:p2.e=0
                · rw [if_neg (not_not_intro he5)] at hwh
                  rw [if_pos he5]
                  obtain ⟨_,lt5⟩:=in5 he5
                  (repeat' first|refine vw ?_ ?_<;>intro hq|refine vz ?_|simp -implicitDefEqProofs only [go_sem])
                  exact ⟨(p2.v,p2.n),vom,⟨q.o,K,hI5,g5,vom,vom,hwh⟩,vsu⟩
                · rw [if_pos he5] at hwh
                  rw [<-hwh,if_pos (.inl he5)] at hP'
                  rw [if_neg he5]
                  refine (hI5.leave lpm lb hbpm (some _)).mono ?_
                  rintro _ _ σ' ⟨⟨_,rfl⟩,rfl,kf,mf,cf,gf⟩
                  rw [<-hP']
                  exact ⟨by rw [if_neg he5],fun h=>absurd h he5,kf,hI5.hn,u5,mf,_,cf,gf,okF_dels made hI5.ok,fun h=>absurd h he5⟩
            · rw [if_pos (.inl hqe)] at hwh
              rw [<-hwh,if_pos (.inl hqe)] at hP'
              rw [if_neg hqe]
              refine (hI4.leave lpm lb hbpm (some _)).mono ?_
              rintro _ _ σ' ⟨⟨_,rfl⟩,rfl,kf,mf,cf,gf⟩
              rw [<-hP']
              exact ⟨by rw [if_neg hqe],fun h=>absurd h hqe,kf,hI4.hn,uq,mf,_,cf,gf,okF_dels made hI4.ok,fun h=>absurd h hqe⟩
        · rw [if_neg (by omega)] at hP'
          (repeat' first|refine vw ?_ ?_<;>intro hq|refine vz ?_|simp -implicitDefEqProofs only [go_sem,g2,dcf k5,dcf k1,dcf k2,dcf k3,dcf k4,hw])
          exact ⟨j+1,vom,⟨vom,o',made,p.n,hI3,hP'⟩,vsu⟩
      · rw [if_pos hpe] at hP'
        rw [if_neg hpe]
        refine (hI3.leave lpm lb hbpm (some _)).mono ?_
        rintro _ _ σ' ⟨⟨_,rfl⟩,rfl,kf,mf,cf,gf⟩
        rw [<-hP']
        exact ⟨by rw [if_neg hpe],fun h=>absurd h hpe,kf,hI3.hn,u2,mf,_,cf,gf,okF_dels made hI3.ok,fun _=>rfl⟩
  · obtain rfl:j=ss.length:=by omega
    rw [List.drop_length,stsG] at hP'
    rw [<-hP']
    (repeat' first|refine vw ?_ ?_<;>intro hq|refine vz ?_|simp -implicitDefEqProofs only [go_sem])
    refine (hI.leave lpm lb hbpm none).mono ?_
    rintro _ _ σ' ⟨⟨_,rfl⟩,rfl,kf,mf,cf,gf⟩
    rw [recOn_ret]
    simp -implicitDefEqProofs only [go_sem]
    exact ⟨rfl,fun _=>inM_0,kf,hI.hn,hI.hm,mf,_,cf,gf,okF_dels made hI.ok,fun _=>rfl⟩
def vGoMG (k:Md->Ev->AStore->Prop) (dst:Option Nat) (md:Md) (e:Ev) (σ:AStore):ARes->Prop
 | .recov=>(match md with
  | .pan v=>k .cau (putE e dst v) σ
  | md=>k md (putE e dst (.sc .nilIface)) σ)
 | .val v σ'=>k md (putE e dst v) σ'
 | .skip σ'=>k md (putE e dst undefA) σ'
 | _=>False
section
variable {E:Env} {K:Md->Ev->AStore->Prop} {md:Md} {e:Ev} {σ:AStore} {k:Md->Ev->AStore->Prop}
theorem vOpsM_nilG:vOpsM E K [] md e σ=K md e σ:=rfl
theorem vOpsM_consG {dst:Option Nat} {op:Op} {t:TypeId} {p:String} {a:Array Edge} {r:List Oper}:
  vOpsM E K (⟨dst,op,t,p,a,none⟩::r) md e σ=vGoMG (vOpsM E K r) dst md e σ (aOp E false op (evE E.G e) σ):=by
 simp only [vOpsM,true_and]
 cases aOp E false op (evE E.G e) σ<;>simp only [vGoMG]
 cases md<;>rfl
theorem vGoM_valG {dst:Nat} {v:AVal} {σ':AStore}:vGoMG k (some dst) md e σ (.val v σ')=k md ((dst,v)::e) σ':=rfl
theorem vGoM_rnG {dst:Nat}:vGoMG k (some dst) (Md.start none) e σ .recov=k .norm ((dst,.sc .nilIface)::e) σ:=rfl
theorem vGoM_rpG {dst:Nat} {v:AVal}:vGoMG k (some dst) (Md.start (some v)) e σ .recov=k .cau ((dst,v)::e) σ:=rfl
theorem bi_recoverG {ts:List TypeId}:opBi E .recover ts σ (some [])=.recov:=rfl
end
attribute [go_sem ↓] vOpsM_nilG vOpsM_consG vGoM_rnG vGoM_rpG
attribute [go_sem] vGoM_valG bi_recoverG opBin_neI opBin_neN
theorem run1NG {w:WD} {σ:AStore} {a b c d e:Nat}:ACallsM (EE w) 28 [.ptr a 0 0,.ptr b 0 0,.ptr c 0 0,.ptr d 0 0,.ptr e 0 0] none σ fun en m' σ'=>(∃ v,en=.ret v)/\m'=none/\σ'=σ:=by
 refine ACallsM.of_V (E:=EE w) (E':=EE ⟨w.w,[]⟩) (n:=25) rfl rfl Tryz.f28 _ _ _ _ [] Tryz.func28 rfl rfl rfl rfl (by kernel_rfl) (by kernel_rfl) (by kernel_rfl) ?_
 (repeat' first|refine vw ?_ ?_<;>intro hq|refine vz ?_|simp -implicitDefEqProofs only [go_sem])
 exact ⟨⟨_,rfl⟩,rfl⟩
theorem run1PG {w:WD} {σ:AStore} {pa p1 p2 p3 p4 pm bg bf bo n:Nat} {c:Int} (ha:σ.get pa=some (.cells 1 [.ptr pm 0 0])) (hm:σ.get pm=some (.cells 4 [.agg [.map bg,.map bf,.map bo,(.sc (.int .i64 (n)))]]))
  (h1:∃ x,σ.get p1=some (.cells 1 [(.sc (.int .i64 (x)))])) (h2:∃ x,σ.get p2=some (.cells 1 [(.sc (.int .i64 (x)))])) (h3:∃ x,σ.get p3=some (.cells 1 [(.sc (.int .i64 (x)))])) (h4:∃ x,σ.get p4=some (.cells 1 [(.sc (.bool (x)))])) (h12:p1≠p2) (h13:p1≠p3) (h14:p1≠p4) (h23:p2≠p3) (h24:p2≠p4) (h34:p3≠p4):
  ACallsM (EE w) 28 [.ptr pa 0 0,.ptr p1 0 0,.ptr p2 0 0,.ptr p3 0 0,.ptr p4 0 0] (some (endA c)) σ fun en m' σ'=>(∃ v,en=.ret v)/\m'=none/\σ'.get p1=some (.cells 1 [(.sc (.int .i64 (0)))])/\σ'.get p2=some (.cells 1 [(.sc (.int .i64 (n)))])/\σ'.get p3=some (.cells 1 [(.sc (.int .i64 (c)))])/\σ'.get p4=some (.cells 1 [(.sc (.bool (false)))]):=by
 refine ACallsM.of_V (E:=EE w) (E':=EE ⟨w.w,[]⟩) (n:=25) rfl rfl Tryz.f28 _ _ _ _ [] Tryz.func28 rfl rfl rfl rfl (by kernel_rfl) (by kernel_rfl) (by kernel_rfl) ?_
 unfold endA
 obtain ⟨x1,h1⟩:=h1
 obtain ⟨x2,h2⟩:=h2
 obtain ⟨x3,h3⟩:=h3
 obtain ⟨x4,h4⟩:=h4
 (repeat' first|refine vw ?_ ?_<;>intro hq|refine vz ?_|simp -implicitDefEqProofs only [go_sem])
 have kk:∀ a b,KeepS σ ((σ.alloc a).set σ.next b):=fun a b=>(KeepS.alloc σ a).set (Nat.le_refl _) b
 have hX:=gss (σ:=σ.alloc (.cells 1 [.agg [(.sc (.int .i64 (0)))]])) (b:=σ.next) (x:=.cells 1 [.agg [(.sc (.int .i64 (c)))]]) (by rw [alloc_next]; omega)
 have ka:=(kk (.cells 1 [.agg [(.sc (.int .i64 (0)))]]) (.cells 1 [.agg [(.sc (.int .i64 (c)))]])).2 _ _ ha
 have km:=(kk (.cells 1 [.agg [(.sc (.int .i64 (0)))]]) (.cells 1 [.agg [(.sc (.int .i64 (c)))]])).2 _ _ hm
 have k1:=(kk (.cells 1 [.agg [(.sc (.int .i64 (0)))]]) (.cells 1 [.agg [(.sc (.int .i64 (c)))]])).2 _ _ h1
 have k2:=(kk (.cells 1 [.agg [(.sc (.int .i64 (0)))]]) (.cells 1 [.agg [(.sc (.int .i64 (c)))]])).2 _ _ h2
 have k3:=(kk (.cells 1 [.agg [(.sc (.int .i64 (0)))]]) (.cells 1 [.agg [(.sc (.int .i64 (c)))]])).2 _ _ h3
 have k4:=(kk (.cells 1 [.agg [(.sc (.int .i64 (0)))]]) (.cells 1 [.agg [(.sc (.int .i64 (c)))]])).2 _ _ h4
 generalize (σ.alloc (.cells 1 [.agg [(.sc (.int .i64 (0)))]])).set σ.next (.cells 1 [.agg [(.sc (.int .i64 (c)))]])=τ at hX ka km k1 k2 k3 k4 ⊢
 have b1:=AStore.lt_of_get k1
 have b2:=AStore.lt_of_get k2
 have b3:=AStore.lt_of_get k3
 have b4:=AStore.lt_of_get k4
 have n1:¬ (σ.next=p1):=by have:=AStore.lt_of_get h1; omega
 have n2:¬ (σ.next=p2):=by have:=AStore.lt_of_get h2; omega
 ((try (refine Z_seq ?_; (try simp -implicitDefEqProofs only [go_sem]))); refine Z_draw (by kernel_rfl) [0,1,2,3,4,5,6,7,8,9] [(9,511),(8,255),(7,79),(6,15),(5,16),(4,0),(3,7),(2,3),(1,1),(0,0)] (by kernel_rfl) (by kernel_rfl) ?_)
 simp -implicitDefEqProofs only [go_sem,hX,ka,km,k1,k2,k3,k4,b1,b2,b3,b4,h12,h13,h14,h23,h24,h34,Ne.symm h12,Ne.symm h13,Ne.symm h14,Ne.symm h23,Ne.symm h24,Ne.symm h34,n1,n2]
 exact ⟨⟨_,rfl⟩,rfl⟩
theorem gval_inG {gl:List (ByteArray×Int)} (h:∀ p∈gl,-2147483648<=p.2/\p.2<=2147483648):∀ s,-2147483648<=gval gl s/\gval gl s<=2147483648:=by
 induction gl with
 | nil=>intro s; exact ⟨by show (-2147483648:Int)<=0; decide,by show (0:Int)<=2147483648; decide⟩
 | cons p gl ih=>
  intro s
  simp only [gval]
  split
  ·exact h p (by simp)
  ·exact ih (fun q hq=>h q (List.mem_cons_of_mem _ hq)) s
theorem getM_appG {k:ByteArray} {v:Int}:∀ {l:List (ByteArray×Int)},k ∉ l.map (·.1)->getM (gM l) k=none
  | [],_=>rfl
  | p :: l, h => by
      simp only [List.map_cons,List.mem_cons,not_or] at h
      have:=getM_appG (v:=v) h.2
      simp only [gM] at this
      simp only [gM,List.map_cons,getM,if_neg (Ne.symm h.1),this]
      rfl
theorem evGC {g:List (ByteArray×Int)} {fs:List Fc} {els:List AVal} (hgv:∀ s,inM (gval g s)) (hfs:FnOk fs els):∀ N,(∀ y,ExpGC g fs els N (evG fs (gval g) N).1 y)/\∀ ss,AllGC g fs els N (evG fs (gval g) N).2 ss
  | 0=>⟨fun y=>by obtain ⟨k,nm,i,xs⟩:=y; exact expGStep hgv hfs (N:=0) (fun M h=>by cases h),fun ss=>allGStep (N:=0) (fun M h=>by cases h)⟩
  | N + 1 => by
      have ih:=evGC hgv hfs N
      have hrec:∀ M,N+1=M+1->(∀ y,ExpGC g fs els M (evG fs (gval g) N).1 y)/\∀ ss,AllGC g fs els M (evG fs (gval g) N).2 ss:=fun M h=>by cases h; exact ih
      exact ⟨fun y=>by obtain ⟨k,nm,i,xs⟩:=y; exact expGStep hgv hfs hrec,fun ss=>allGStep hrec⟩
theorem fnM_snoc {fs:List Fc} {els:List AVal} {j:Nat} {f:Fc} {e:AVal} (hf:fs[j]?=some f) (he:els[j]?=some e):fnM (fs.take (j+1)) (els.take (j+1))=fnM (fs.take j) (els.take j)++[(f.nm,e)]:=by
 have h1:=(List.getElem?_eq_some_iff.1 hf).1
 have h2:=(List.getElem?_eq_some_iff.1 he).1
 unfold fnM
 rw [List.take_add_one,hf,List.take_add_one,he,List.map_append]
 exact List.zip_append (by simp; omega)
theorem fnM_none {k:ByteArray}:∀ {fs:List Fc} {els:List AVal},k ∉ fs.map Fc.nm->getM (fnM fs els) k=none
  | [],_,_=>rfl
  | f::fs,[],_=>rfl
  | f :: fs, e :: els, h => by
      simp only [List.map_cons,List.mem_cons,not_or] at h
      have:=fnM_none (els:=els) h.2
      simp only [fnM] at this
      simp only [fnM,List.map_cons,List.zip_cons_cons,getM,if_neg (Ne.symm h.1),this]
      rfl
def runG (p:RX):AVal:=.tuple [(.sc (.int .i64 (if p.e=0 then p.v else 0))),(.sc (.int .i64 (p.n))),(.sc (.int .i64 (p.e))),(.sc (.bool (false)))]
theorem runGC {w:WD} {x:Ex} {X N V L:AVal} {gl:List (ByteArray×Int)} {fs:List Fc} {els:List AVal} (hX:IsEx x X) (hok:okG x=true) (hN:IsD 1 N (gl.map fun p=>sA p.1)) (hV:IsD 1 V (gl.map fun p=>(.sc (.int .i64 (p.2)))))
  (hnod:(gl.map (·.1)).Nodup) (hb:∀ p∈gl,-2147483648<=p.2/\p.2<=2147483648) (hl:gl.length<=1000000) (hL:IsD 3 L els) (hfs:FnOk fs els) (hfl:els.length<=1000000) (hT:∀ w:WD,GivesV (EE w) 27 [X,N,L] (.sc (.int .i64 (0)))):
  Gives (EE w) 19 [X,N,V,L] fun v=>v=runG ((evG fs (gval gl) 1000).1 x [] 0):=by
 refine Gives.of (fun _=>.sc _) (.cons _ _ hX.wf (.cons _ _ (hN.wf (WFs.map fun _=>.sc _)) (.cons _ _ (hV.wf (WFs.map fun _=>.sc _)) (.cons _ _ (hL.wf hfs.d.wf) .nil)))) 2 ?_
 have hNn:=fun σ:AStore=>hN.lenN (by simp) (n:=gl.length) (σ:=σ)
 have hVn:=fun σ:AStore=>hV.lenN (by simp) (n:=gl.length) (σ:=σ)
 obtain ⟨k,nm,i,zs⟩:=x
 have hX0:=hX
 simp only [IsEx] at hX
 obtain ⟨S,es0,rfl,hS,_⟩:=hX
 have kS:=hS.fit
 have cS:=hS.cells
 have iS:=hS.isCell
 refine ot_19 rfl rfl rfl (by decide) ?_
 refine Top_seq0 (E:=EE ⟨w.w,[]⟩) (fn:=Tryz.f19) rfl rfl (Z_ofV ?_)
 simp -implicitDefEqProofs only [go_sem,kS,cS,iS]
 refine Top_seq0 (E:=EE ⟨w.w,[]⟩) (fn:=Tryz.f19) rfl rfl (Z_ofV ?_)
 (repeat' first|refine vw ?_ ?_<;>intro hq|refine vz ?_|simp -implicitDefEqProofs only [go_sem,hNn,hVn])
 refine Top_seq0 (E:=EE ⟨w.w,[]⟩) (fn:=Tryz.f19) rfl rfl (Z_ofV ?_)
 simp -implicitDefEqProofs only [go_sem]
 refine opsC.mono ?_
 rintro _ τ ⟨rfl,kO,b1,b2,hO⟩
 simp -implicitDefEqProofs only [go_sem]
 have hpm:8<=τ.next:=AStore.lt_of_get hO.m
 have hkk:∀ a b c:ABlk,KeepS τ (((τ.alloc a).alloc b).set (τ.next+1) c):=fun a b c=>((KeepS.alloc τ a).trans (KeepS.alloc _ b)).set (by omega) c
 have gm:∀ a b c:ABlk,(((τ.alloc a).alloc b).set (τ.next+1) c).get τ.next=some a:=fun a b c=>by
  rw [AStore.get_set,if_neg (by omega)]; exact get_alloc_old (by rw [AStore.get_alloc,if_pos rfl])
 have gp:∀ a b c:ABlk,(((τ.alloc a).alloc b).set (τ.next+1) c).get (τ.next+1)=some c:=fun a b c=>gss (by simp only [alloc_next]; omega)
 have hn1:∀ a b c:ABlk,(((τ.alloc a).alloc b).set (τ.next+1) c).next=τ.next+2:=fun a b c=>by simp only [set_next,alloc_next]
 have gm:=gm (.cells 4 [.agg [.map 5,.map 6,.map 7,(.sc (.int .i64 (0)))]]) (.cells 1 [.sc (.pointer none)]) (.cells 1 [.ptr τ.next 0 0])
 have gp:=gp (.cells 4 [.agg [.map 5,.map 6,.map 7,(.sc (.int .i64 (0)))]]) (.cells 1 [.sc (.pointer none)]) (.cells 1 [.ptr τ.next 0 0])
 have hn1:=hn1 (.cells 4 [.agg [.map 5,.map 6,.map 7,(.sc (.int .i64 (0)))]]) (.cells 1 [.sc (.pointer none)]) (.cells 1 [.ptr τ.next 0 0])
 have hkk:=hkk (.cells 4 [.agg [.map 5,.map 6,.map 7,(.sc (.int .i64 (0)))]]) (.cells 1 [.sc (.pointer none)]) (.cells 1 [.ptr τ.next 0 0])
 generalize hτ1:((τ.alloc (.cells 4 [.agg [.map 5,.map 6,.map 7,(.sc (.int .i64 (0)))]])).alloc (.cells 1 [.sc (.pointer none)])).set (τ.next+1) (.cells 1 [.ptr τ.next 0 0])=τ1 at gm gp hn1 hkk ⊢
 have g0:=hkk.2 0 _ (kO.2 0 (.cells 4 [.agg [(.sc (.int .i64 (k))),.sc (.string nm),(.sc (.int .i64 (i))),S]]) (by kernel_rfl))
 have g1:=hkk.2 1 _ (kO.2 1 (.cells 1 [(.sc (.int .i64 (0)))]) (by kernel_rfl))
 have g2:=hkk.2 2 _ (kO.2 2 (.cells 1 [(.sc (.int .i64 (0)))]) (by kernel_rfl))
 have g3:=hkk.2 3 _ (kO.2 3 (.cells 1 [(.sc (.int .i64 (0)))]) (by kernel_rfl))
 have g4:=hkk.2 4 _ (kO.2 4 (.cells 1 [(.sc (.bool (false)))]) (by kernel_rfl))
 have g6:=hkk.2 6 _ (kO.2 6 (.map [] 0) (by kernel_rfl))
 have g5:=hkk.2 5 _ (kO.2 5 (.map [] 0) (by kernel_rfl))
 have hO1:OpsM τ1 7 b1 b2:=⟨hkk.2 _ _ hO.m,hkk.2 _ _ hO.d,hkk.2 _ _ hO.r⟩
 have hpb1:b1≠τ.next:=by rintro rfl; exact absurd (AStore.lt_of_get hO.d) (Nat.lt_irrefl _)
 have hpb2:b2≠τ.next:=by rintro rfl; exact absurd (AStore.lt_of_get hO.r) (Nat.lt_irrefl _)
 clear hτ1 kO hO hkk
 have hb5:∀ b,(∃ l c,τ1.get b=some (.cells l c))->b≠5:=by rintro b ⟨l,c,h⟩ rfl; rw [g5] at h; cases h
 refine Top_seq0 (E:=EE ⟨w.w,[]⟩) (fn:=Tryz.f19) rfl rfl (Z_ofV ?_)
 simp -implicitDefEqProofs only [go_sem,hNn]
 refine vlp (ι:=Nat) (fun j=>[(1,N),(2,V),(3,L),(4,.ptr 0 0 0),(8,.ptr 1 0 0),(9,.ptr 2 0 0),(10,.ptr 3 0 0),(11,.ptr 4 0 0),(12,.ptr (τ.next+1) 0 0),(30,N),(31,(.sc (.int .i64 (gl.length)))),(32,(.sc (.int .i64 (j))))]) (fun j ρ=>j<=gl.length/\KeepM 5 τ1 ρ/\∃ c,ρ.get 5=some (.map (strM (gM (gl.take j))) c)) (fun j=>gl.length - j) (fun _=>rfl) 0 ?_ ?_ ?_
 ·exact vsu
 ·exact ⟨Nat.zero_le _,KeepM.refl _ _,0,g5⟩
 ·rintro j ρ ⟨hj,kr,c,q5⟩
  have r12:=kr.2 _ _ (hb5 _ ⟨_,_,gp⟩) gp
  have rpm:=kr.2 _ _ (hb5 _ ⟨_,_,gm⟩) gm
  simp -implicitDefEqProofs only [go_sem]
  (refine vif ?_ ?_<;>intro hlt)
  ·obtain ⟨p,hp⟩:∃ p,gl[j]?=some p:=⟨gl[j]'(by omega),by simp⟩
   have e1:(gl.map fun p=>sA p.1)[j]?=some (sA p.1):=by rw [List.getElem?_map,hp]; rfl
   have e2:(gl.map fun p=>((.sc (.int .i64 (p.2))):AVal))[j]?=some (.sc (.int .i64 (p.2))):=by rw [List.getElem?_map,hp]; rfl
   obtain ⟨bl,bh⟩:=hb p (List.mem_of_getElem? hp)
   have bh':¬ p.2 > 2147483648:=by omega
   have bl':¬ p.2 < -2147483648:=by omega
   have hw:=wrapS (i:=j) (by omega)
   have hnm:getM (gM (gl.take j)) p.1=none:=getM_appG (v:=0) (by
    intro hm
    rw [List.map_take] at hm
    obtain ⟨q,hq,he⟩:=List.mem_take_iff_getElem.1 hm
    have h1:(gl.map (·.1))[j]'(by simp; omega)=p.1:=by
     have:(gl.map (·.1))[j]?=some p.1:=by rw [List.getElem?_map,hp]; rfl
     rw [List.getElem?_eq_getElem (by simp; omega)] at this
     exact Option.some.inj this
    have:=(List.getElem_inj hnod (h₀:=by simp at hq ⊢; omega) (h₁:=by simp; omega)).1 (he.trans h1.symm)
    simp at hq; omega)
   have hlo:lkAt .string (.int .i64 0) true (.string p.1) (some (.map (strM (gM (gl.take j))) c))=some (.tuple [(.sc (.int .i64 (0))),(.sc (.bool (false)))]):=by rw [lk_at,hnm]; rfl
   have hcs:(sA p.1).cells=[.sc (.string p.1)]:=rfl
   (repeat' first|refine vw ?_ ?_<;>intro hq|refine vz ?_|simp -implicitDefEqProofs only [go_sem,hcs,hN.idx e1,hV.idx e2,r12,rpm,q5,lk_strS,hlo,dcf bh',dcf bl'])
   ((try (refine Z_seq ?_; (try simp -implicitDefEqProofs only [go_sem]))); refine Z_draw (by kernel_rfl) [0,1,2,3,4,5,6,7,8,9] [(9,511),(8,224),(7,96),(6,0),(5,0),(4,0),(3,7),(2,3),(1,1),(0,0)] (by kernel_rfl) (by kernel_rfl) ?_)
   have b5:=AStore.lt_of_get q5
   simp -implicitDefEqProofs only [go_sem,hcs,hV.idx e2,r12,rpm,q5,ms_str,ms_new hnm]
   (repeat' first|refine vw ?_ ?_<;>intro hq|refine vz ?_|simp -implicitDefEqProofs only [go_sem,hw])
   refine ⟨j+1,vom,⟨vom,(kr.set _),c+1,?_⟩,vsu⟩
   rw [gss b5]
   have:gl.take (j+1)=gl.take j++[p]:=by rw [List.take_add_one,hp]; rfl
   rw [this]
   simp only [gM,List.map_append,List.map_cons,List.map_nil]
  ·obtain rfl:j=gl.length:=by omega
   rw [List.take_length] at q5
   have r0:=kr.2 _ _ (by decide) g0
   have r1:=kr.2 _ _ (by decide) g1
   have r2:=kr.2 _ _ (by decide) g2
   have r3:=kr.2 _ _ (by decide) g3
   have r4:=kr.2 _ _ (by decide) g4
   have g6':=kr.2 _ _ (by decide) g6
   have hnr:τ.next+1 < ρ.next:=AStore.lt_of_get r12
   have rpm:=kr.2 _ _ (hb5 _ ⟨_,_,gm⟩) gm
   have hOρ:OpsM ρ 7 b1 b2:=⟨kr.2 _ _ (by decide) hO1.m,kr.2 _ _ (hb5 _ ⟨_,_,hO1.d⟩) hO1.d,kr.2 _ _ (hb5 _ ⟨_,_,hO1.r⟩) hO1.r⟩
   (repeat' first|refine vw ?_ ?_<;>intro hq|refine vz ?_|simp -implicitDefEqProofs only [go_sem])
   refine Top_seq0 (E:=EE ⟨w.w,[]⟩) (fn:=Tryz.f19) rfl rfl (Z_ofV ?_)
   simp -implicitDefEqProofs only [go_sem,r0]
   refine (hT ⟨w.w,[]⟩).use ?_
   (repeat' first|refine vw ?_ ?_<;>intro hq|refine vz ?_|simp -implicitDefEqProofs only [go_sem])
   refine Top_seq0 (E:=EE ⟨w.w,[]⟩) (fn:=Tryz.f19) rfl rfl (Z_ofV ?_)
   have hfe:=hfs.d.len
   have hLn:=fun σ:AStore=>hL.lenN hfe (σ:=σ)
   (repeat' first|refine vw ?_ ?_<;>intro hq|refine vz ?_|simp -implicitDefEqProofs only [go_sem,hLn])
   refine vlp (ι:=Nat) (fun j=>[(4,.ptr 0 0 0),(8,.ptr 1 0 0),(9,.ptr 2 0 0),(10,.ptr 3 0 0),(11,.ptr 4 0 0),(12,.ptr (τ.next+1) 0 0),(78,L),(79,(.sc (.int .i64 (fs.length)))),(80,(.sc (.int .i64 (j))))]) (fun j μ=>j<=fs.length/\KeepM 6 ρ μ/\∃ c,μ.get 6=some (.map (strM (fnM (fs.take j) (els.take j))) c)) (fun j=>fs.length - j) (fun _=>rfl) 0 ?_ ?_ ?_
   ·exact vsu
   ·exact ⟨Nat.zero_le _,KeepM.refl _ _,0,g6'⟩
   have hb6:∀ b,(∃ l c,ρ.get b=some (.cells l c))->b≠6:=by rintro b ⟨l,c,h⟩ rfl; rw [g6'] at h; cases h
   rintro j μ ⟨hj,kμ,c6,q6⟩
   have r12:=kμ.2 _ _ (hb6 _ ⟨_,_,r12⟩) r12
   have rpm:=kμ.2 _ _ (hb6 _ ⟨_,_,rpm⟩) rpm
   simp -implicitDefEqProofs only [go_sem]
   (refine vif ?_ ?_<;>intro hlt)
   ·obtain ⟨f,hf⟩:∃ f,fs[j]?=some f:=⟨fs[j]'(by omega),by simp⟩
    obtain ⟨e,he,hfe⟩:=hfs.d.at' j f hf
    obtain ⟨c1,c2,c3⟩:=hfe.isA.facts
    have cc:=hfe.cellsOk
    have hsp:=fun a b c=>hfe.isA.splice3 (a:=a) (b:=b) (c:=c)
    have hfe':=hfe
    obtain ⟨SP,SB,eb,rfl,hP,hB,_⟩:=hfe'
    have cP:=hP.cells
    have iP:=hP.isCell
    have cB:=hB.cells
    have iB:=hB.isCell
    have kP:=hP.fit
    have kB:=hB.fit
    have hw:=wrapS (i:=j) (by omega)
    have hnm:getM (fnM (fs.take j) (els.take j)) f.nm=none:=fnM_none (by
     intro hm
     rw [List.map_take] at hm
     obtain ⟨q,hq,hee⟩:=List.mem_take_iff_getElem.1 hm
     have h1:(fs.map Fc.nm)[j]'(by simp; omega)=f.nm:=by
      have:(fs.map Fc.nm)[j]?=some f.nm:=by rw [List.getElem?_map,hf]; rfl
      rw [List.getElem?_eq_getElem (by simp; omega)] at this
      exact Option.some.inj this
     have:=(List.getElem_inj hfs.u (h₀:=by simp at hq ⊢; omega) (h₁:=by simp; omega)).1 (hee.trans h1.symm)
     simp at hq; omega)
    have l6:=AStore.lt_of_get q6
    have lpm:=AStore.lt_of_get rpm
    have nn1:(6=μ.next)=False:=eq_false (by omega)
    have nn2:(τ.next=μ.next)=False:=eq_false (by omega)
    have nn3:(τ.next+1=μ.next)=False:=eq_false (by have:=AStore.lt_of_get r12; omega)
    (repeat' first|refine vw ?_ ?_<;>intro hq|refine vz ?_|simp -implicitDefEqProofs only [go_sem,hL.idx he,c1,c2,c3,cc,hsp,cP,iP,cB,iB,kP,kB])
    ((try (refine Z_seq ?_; (try simp -implicitDefEqProofs only [go_sem]))); refine Z_draw (by kernel_rfl) [0,1,2,3,4,5,6,7] [(7,127),(6,0),(5,16),(4,0),(3,7),(2,3),(1,1),(0,0)] (by kernel_rfl) (by kernel_rfl) ?_)
    simp -implicitDefEqProofs only [go_sem,r12,rpm,q6,ms_str,ms_new hnm,nn1,nn2,nn3,if_false,kP,kB,cP,iP,cB,iB]
    (repeat' first|refine vw ?_ ?_<;>intro hq|refine vz ?_|simp -implicitDefEqProofs only [go_sem,hw])
    have kk:∀ a b,KeepM 6 ρ ((μ.alloc a).set μ.next b):=fun a b=>kμ.trans ((KeepS.alloc μ a).set (Nat.le_refl _) b).m
    refine ⟨j+1,vom,⟨vom,(kk _ _).set _,c6+1,?_⟩,vsu⟩
    rw [gss (by rw [set_next,alloc_next]; omega),fnM_snoc hf he]
   ·obtain rfl:j=fs.length:=by omega
    rw [List.take_length,List.take_of_length_le (by omega)] at q6
    have r0:=kμ.2 _ _ (by decide) r0
    have r1:=kμ.2 _ _ (by decide) r1
    have r2:=kμ.2 _ _ (by decide) r2
    have r3:=kμ.2 _ _ (by decide) r3
    have r4:=kμ.2 _ _ (by decide) r4
    have hMc:Mg μ τ.next 5 6 7 b1 b2 0 gl fs els:=⟨rpm,⟨c,kμ.2 _ _ (by decide) q5⟩,⟨c6,q6⟩,⟨kμ.2 _ _ (by decide) hOρ.m,kμ.2 _ _ (hb6 _ ⟨_,_,hOρ.d⟩) hOρ.d,kμ.2 _ _ (hb6 _ ⟨_,_,hOρ.r⟩) hOρ.r⟩,vom,vom,vom,hpb1,hpb2⟩
    have hnr:τ.next+1 < μ.next:=AStore.lt_of_get r12
    (repeat' first|refine vw ?_ ?_<;>intro hq|refine vz ?_|simp -implicitDefEqProofs only [go_sem])
    refine Top_dfr1 (E:=EE ⟨w.w,[]⟩) (Ed:=fun ds=>EE ⟨w.w,ds⟩) (fun _=>rfl) rfl rfl ?_
    simp -implicitDefEqProofs only [go_sem]
    refine ⟨⟨.func 28,[.ptr (τ.next+1) 0 0,.ptr 1 0 0,.ptr 2 0 0,.ptr 3 0 0,.ptr 4 0 0],[]⟩,rfl,?_⟩
    refine Top_undsR (rs:=[.cell 8 2,.cell 9 3,.cell 10 32,.cell 11 4]) (E:=EE ⟨w.w,[]⟩) (Ed:=fun ds=>EE ⟨w.w,ds⟩) (fun _=>rfl) rfl (g:=28) (cap:=[.ptr (τ.next+1) 0 0,.ptr 1 0 0,.ptr 2 0 0,.ptr 3 0 0,.ptr 4 0 0]) (as':=[]) rfl rfl rfl (Z_ofV ?_)
    simp -implicitDefEqProofs only [go_sem,r12,r0]
    refine ((evGC (gval_inG hb) hfs 1000).1 _ (w:=⟨w.w,_⟩) hX0 hok hMc (.inl ⟨rfl,rfl⟩) (fun p hp=>by cases hp) (by decide) (by decide)).mono ?_
    rintro _ ρ1 ⟨rfl,_,kp,_,_,mm⟩
    have s1:=kp.2 _ _ (by omega) r1
    have s2:=kp.2 _ _ (by omega) r2
    have s3:=kp.2 _ _ (by omega) r3
    have s4:=kp.2 _ _ (by omega) r4
    have s12:=kp.2 _ _ (by omega) r12
    have mm':ρ1.get τ.next=some (.cells 4 [.agg [.map 5,.map 6,.map 7,(.sc (.int .i64 (((evG fs (gval gl) 1000).1 (.mk k nm i zs) [] 0).n)))]]):=mm
    have l1:=AStore.lt_of_get s1
    have l2:=AStore.lt_of_get s2
    have l3:=AStore.lt_of_get s3
    have l4:=AStore.lt_of_get s4
    have nt1:¬ (τ.next=1):=by omega
    have nt2:¬ (τ.next=2):=by omega
    have nt3:¬ (τ.next=3):=by omega
    have nt4:¬ (τ.next=4):=by omega
    have np1:¬ (τ.next+1=1):=by omega
    have np2:¬ (τ.next+1=2):=by omega
    have np3:¬ (τ.next+1=3):=by omega
    have np4:¬ (τ.next+1=4):=by omega
    clear mm
    generalize (evG fs (gval gl) 1000).1 (.mk k nm i zs) [] 0=p at mm' ⊢
    by_cases he:p.e=0
    ·rw [if_pos he]
     (repeat' first|refine vw ?_ ?_<;>intro hq|refine vz ?_|simp -implicitDefEqProofs only [go_sem,s1,l1])
     ((try (refine Z_seq ?_; (try simp -implicitDefEqProofs only [go_sem]))); refine Z_draw (by kernel_rfl) [0,1,2,3,4,5,6,7,8] [(8,255),(7,127),(6,63),(5,1),(4,14),(3,6),(2,2),(1,0),(0,0)] (by kernel_rfl) (by kernel_rfl) ?_)
     simp -implicitDefEqProofs only [go_sem,s1,s2,s3,s4,s12,mm',l1,l2,l3,l4,nt1,nt2,nt3,nt4,np1,np2,np3,np4]
     (repeat' first|refine vw ?_ ?_<;>intro hq|refine vz ?_|simp -implicitDefEqProofs only [go_sem])
     refine run1NG.mono ?_
     rintro _ _ _ ⟨⟨_,rfl⟩,rfl,rfl⟩
     show dRd _ _
     simp -implicitDefEqProofs only [go_sem,s1,s2,s3,s4,l1,l2,l3,l4]
     exact ⟨_,_,rfl,rfl,by unfold runG; rw [if_pos he,he]⟩
    ·rw [if_neg he]
     refine (run1PG s12 mm' ⟨_,s1⟩ ⟨_,s2⟩ ⟨_,s3⟩ ⟨_,s4⟩ (by decide) (by decide) (by decide) (by decide) (by decide) (by decide)).mono ?_
     rintro _ _ ρ2 ⟨⟨_,rfl⟩,rfl,q1,q2,q3,q4⟩
     show dRd _ _
     simp -implicitDefEqProofs only [go_sem,q1,q2,q3,q4]
     exact ⟨_,_,rfl,rfl,by unfold runG; rw [if_neg he]⟩
mutual
def stA:St->AVal
 | .mk k nm v b e=>.agg [(.sc (.int .i64 (k))),.sc (.string nm),(.sc (.int .i64 (v.k))),.sc (.string v.nm),(.sc (.int .i64 (v.i))),exS v.args,stS b,stS e]
def stS:List St->AVal
 | []=>(.sc (.slice none 0 0))
 | x::xs=>.data 8 false (stA x::stAs xs)
def stAs:List St->List AVal
 | []=>[]
 | x::xs=>stA x::stAs xs
end
mutual
def szT:St->Bool
 | .mk k nm v b e=>decide (0<=k) && decide (k<=100) && decide (nm.size<=100) && decide (b.length<=100) && decide (e.length<=100) && szX v && szTs b && szTs e
def szTs:List St->Bool
 | []=>true
 | x::xs=>szT x && szTs xs
end
theorem exS_d:∀ zs:List Ex,IsD 4 (exS zs) (exAs zs)
 | []=>.inl ⟨rfl,_,_,rfl⟩
 | _::_=>.inr ⟨_,rfl⟩
theorem stS_d:∀ zs:List St,IsD 8 (stS zs) (stAs zs)
 | []=>.inl ⟨rfl,_,_,rfl⟩
 | _::_=>.inr ⟨_,rfl⟩
mutual
theorem stA_is:∀ {x:St},szT x=true->IsSt x (stA x)
  | .mk k nm (.mk kv nv iv zs) b e, h => by
      simp only [szT,szX,Bool.and_eq_true,decide_eq_true_eq] at h
      obtain ⟨⟨⟨⟨⟨⟨⟨a1,a2⟩,a3⟩,a4⟩,a5⟩,⟨⟨⟨⟨⟨⟨h1,h2⟩,h3⟩,h4⟩,h5⟩,h6⟩,h7⟩⟩,a6⟩,a7⟩:=h
      have hs:=exAs_is h7
      have hb:=stAs_is a6
      have he:=stAs_is a7
      exact ⟨_,_,_,exAs zs,stAs b,stAs e,rfl,exS_d _,hs,stS_d _,hb,stS_d _,he,⟨by omega,by omega⟩,⟨by simp only [Ex.k]; omega,by simp only [Ex.k]; omega⟩,⟨by simp only [Ex.i]; omega,by simp only [Ex.i]; omega⟩,by omega,by simp only [Ex.nm]; omega,by have:=hs.len; omega,by have:=hb.len; omega,by have:=he.len; omega⟩
theorem stAs_is:∀ {zs:List St},szTs zs=true->IsSts zs (stAs zs)
  | [],_=>rfl
  | x :: xs, h => by
      simp only [szTs,Bool.and_eq_true] at h
      exact ⟨_,_,rfl,stA_is h.1,stAs_is h.2⟩
end
/-- func f(n) { var s = 0; while (n > 0) { s = s + n; n = n - 1; } return s; } -/
def sumF:Fc:=⟨⟨#[102]⟩,[⟨#[110]⟩],[.mk 1 ⟨#[115]⟩ (.mk 1 ⟨#[]⟩ 0 []) [] [],
 .mk 4 ⟨#[]⟩ (.mk 15 ⟨#[]⟩ 0 [.mk 2 ⟨#[110]⟩ 0 [],.mk 1 ⟨#[]⟩ 0 []])
  [.mk 2 ⟨#[115]⟩ (.mk 5 ⟨#[]⟩ 0 [.mk 2 ⟨#[115]⟩ 0 [],.mk 2 ⟨#[110]⟩ 0 []]) [] [],.mk 2 ⟨#[110]⟩ (.mk 6 ⟨#[]⟩ 0 [.mk 2 ⟨#[110]⟩ 0 [],.mk 1 ⟨#[]⟩ 1 []]) [] []] [],
 .mk 5 ⟨#[]⟩ (.mk 2 ⟨#[115]⟩ 0 []) [] []]⟩
def fcA (f:Fc):AVal:=.agg [.sc (.string f.nm),.data 1 false (f.ps.map sA),stS f.body]
def callF (n:Int):Ex:=.mk 19 ⟨#[102]⟩ 0 [.mk 1 ⟨#[]⟩ n []]
theorem sumF_ok:FnOk [sumF] [fcA sumF]:=by
 refine ⟨⟨rfl,fun j f hj=>?_⟩,?_,?_,?_⟩
 ·have hj':j=0:=by
   rcases Nat.lt_or_ge j 1 with h|h
   ·omega
   ·rw [List.getElem?_eq_none (by simpa using h)] at hj; cases hj
  subst hj'
  cases hj
  refine ⟨_,rfl,_,_,stAs sumF.body,rfl,.inr ⟨_,rfl⟩,stS_d _,stAs_is (by decide+kernel),by decide,by decide,by decide,by decide⟩
 ·decide
 ·decide+kernel
 ·decide
def callA (n:Int):List AVal:=[exA (callF n),.data 1 false [sA ⟨#[118]⟩],.data 1 false [(.sc (.int .i64 (7)))],.data 3 false [fcA sumF]]
theorem callC {w:WD} {n a b c:Int} (hok:okG (callF n)=true) (hz:szX (callF n)=true) (hT:∀ w:WD,GivesV (EE w) 27 [exA (callF n),.data 1 false [sA ⟨#[118]⟩],.data 3 false [fcA sumF]] (.sc (.int .i64 (0))))
  (hr:runG ((evG [sumF] (gval [(⟨#[118]⟩,7)]) 1000).1 (callF n) [] 0)=.tuple [(.sc (.int .i64 (a))),(.sc (.int .i64 (b))),(.sc (.int .i64 (c))),(.sc (.bool (false)))]):
  ACalls (EE w) 19 (callA n) empty fun e _=>e=.ret (.tuple [(.sc (.int .i64 (a))),(.sc (.int .i64 (b))),(.sc (.int .i64 (c))),(.sc (.bool (false)))]):=by
 refine (runGC (gl:=[(⟨#[118]⟩,7)]) (exA_is hz) hok (.inr ⟨_,rfl⟩) (.inr ⟨_,rfl⟩) (by decide) (by intro p hp; simp only [List.mem_singleton] at hp; subst hp; exact ⟨by decide,by decide⟩) (by decide) (.inr ⟨_,rfl⟩) sumF_ok (by decide) hT empty).mono ?_
 rintro e σ' ⟨_,v,rfl,rfl⟩
 rw [hr]
theorem call10 {w:WD} (hT:∀ w:WD,GivesV (EE w) 27 [exA (callF 10),.data 1 false [sA ⟨#[118]⟩],.data 3 false [fcA sumF]] (.sc (.int .i64 (0)))):
  ACalls (EE w) 19 (callA 10) empty fun e _=>e=.ret (.tuple [(.sc (.int .i64 (55))),(.sc (.int .i64 (120))),(.sc (.int .i64 (0))),(.sc (.bool (false)))]):=
 callC (by decide+kernel) (by decide+kernel) hT (by kernel_rfl)
theorem call1000 {w:WD} (hT:∀ w:WD,GivesV (EE w) 27 [exA (callF 1000),.data 1 false [sA ⟨#[118]⟩],.data 3 false [fcA sumF]] (.sc (.int .i64 (0)))):
  ACalls (EE w) 19 (callA 1000) empty fun e _=>e=.ret (.tuple [(.sc (.int .i64 (0))),(.sc (.int .i64 (1000))),(.sc (.int .i64 (101))),(.sc (.bool (false)))]):=
 callC (by decide+kernel) (by decide+kernel) hT (by kernel_rfl)
/-- A call with parts lent, that was walked. -/
theorem FOk.handR {E:Env} {F:FTab} (hF:FOk E F) {f:FuncId} {args:List AVal} {a b c:Int} {d:Bool}
  (h:ACalls E f args empty fun e _=>e=.ret (.tuple [(.sc (.int .i64 (a))),(.sc (.int .i64 (b))),(.sc (.int .i64 (c))),(.sc (.bool (d)))])):FOk E (F.memoT [⟨f,args,[.ret (.tuple [(.sc (.int .i64 (a))),(.sc (.int .i64 (b))),(.sc (.int .i64 (c))),(.sc (.bool (d)))])]⟩]):=by
 refine ⟨hF.fn,hF.ctr,hF.glob,?_⟩
 intro g args0 ends hc σ bs M args1 hz
 simp only [FTab.memoT] at hc
 split at hc
 ·rename_i es he
  cases hc
  have:=findM_some he
  simp at this
  obtain ⟨rfl,rfl,rfl⟩:=this
  refine (ACalls.pureT hF.glob h (N:=100) (fun e σ0 he=>⟨.ret (.tuple [(.sc (.int .i64 (a))),(.sc (.int .i64 (b))),(.sc (.int .i64 (c))),(.sc (.bool (d)))]),by subst he; rfl,by subst he; rfl⟩) σ hz).mono ?_
  rintro e σ' ⟨h1,e0,σ0,rfl,h3⟩
  refine ⟨h1,?_⟩
  have h4:frzE σ0 100 (.ret (.tuple [(.sc (.int .i64 (a))),(.sc (.int .i64 (b))),(.sc (.int .i64 (c))),(.sc (.bool (d)))]))=some (.ret (.tuple [(.sc (.int .i64 (a))),(.sc (.int .i64 (b))),(.sc (.int .i64 (c))),(.sc (.bool (d)))])):=rfl
  rw [h3] at h4
  cases h4
  simp
 ·exact hF.ctrT g args0 ends hc σ bs M args1 hz
end Abs
end
