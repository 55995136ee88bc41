/- Part of the abstract layer; it proves no statement by itself. -/
import Derived.Test.YtkhjmhdpaikokaaGreatDoorAbsM
import Derived.Test.YtkhjmhdpaikokaaGreatDoorAbsX
set_option linter.unusedVariables false
set_option linter.unusedSimpArgs false
set_option linter.unusedSectionVars false
noncomputable section
namespace Abs.Fr
open Go Abs
def chkPw (R:Nat->Nat->Bool):List Nat->Bool
 | []=>true
 | i::rest=>rest.all (R i) && chkPw R rest
theorem chkPw_spec {R:Nat->Nat->Bool}:∀ {l:List Nat},chkPw R l=true->l.Pairwise (fun i j=>R i j=true)
  | [],_=>.nil
  | i :: rest, h => by
      simp only [chkPw,Bool.and_eq_true,List.all_eq_true] at h
      exact .cons h.1 (chkPw_spec h.2)
def freeAt (ops:Array Oper) (anc:List (Nat×Nat)) (i j:Nat):Bool:=
 !(clashAt ops i j) && !(clashAt ops j i) && !((boundAt ops i).contains j) && !((boundAt ops j).contains i) && !((look anc i).testBit j) && !((look anc j).testBit i)
theorem freeAt_sym {ops:Array Oper} {anc:List (Nat×Nat)} {i j:Nat} (h:freeAt ops anc i j=true):freeAt ops anc j i=true:=by
 simp only [freeAt,Bool.and_eq_true] at*
 obtain ⟨⟨⟨⟨⟨h1,h2⟩,h3⟩,h4⟩,h5⟩,h6⟩:=h
 exact ⟨⟨⟨⟨⟨h2,h1⟩,h4⟩,h3⟩,h6⟩,h5⟩
def pairB (ops:Array Oper) (anc:List (Nat×Nat)) (i j:Nat):Bool:=
 (!(Nat.beq i j)) && (!((boundAt ops i).contains j)) && ((look anc j).testBit i || freeAt ops anc i j)
def oneB (ops:Array Oper) (canon:List Nat) (i:Nat):Bool:=Nat.blt i ops.size && (boundAt ops i).all fun on=>canon.contains on && !(Nat.beq on i)
def drawOkF (ops:Array Oper) (canon:List Nat):Bool:=
 Nat.beq canon.length ops.size && (List.range ops.size).all (fun i=>canon.contains i) && canon.all (oneB ops canon) && chkPw (pairB ops (ancs ops canon [])) canon
structure DOk (ops:Array Oper) (anc:List (Nat×Nat)) (canon:List Nat):Prop where
 len:canon.length=ops.size
 all:∀ i,i < ops.size->i∈canon
 one:∀ i∈canon,i < ops.size/\∀ on∈boundAt ops i,on∈canon/\on≠i
 nd:canon.Pairwise (fun i j=>i≠j)
 bnd:canon.Pairwise (fun i j=>j ∉ boundAt ops i)
 prs:canon.Pairwise (fun i j=>(look anc j).testBit i=true\/freeAt ops anc i j=true)
 anc':∀ L:Nat->Bool,Closed ops L->∀ i j,L j=true->(look anc j).testBit i=true->L i=true
theorem DOk.of {ops:Array Oper} {canon:List Nat} (h:drawOkF ops canon=true):DOk ops (ancs ops canon []) canon:=by
 simp only [drawOkF,Bool.and_eq_true,List.all_eq_true] at h
 obtain ⟨⟨⟨h0,h1⟩,h2⟩,h3⟩:=h
 have hp:=chkPw_spec h3
 have hp':canon.Pairwise (fun i j=>((i≠j)/\j ∉ boundAt ops i)/\((look (ancs ops canon []) j).testBit i=true\/freeAt ops (ancs ops canon []) i j=true)):=by
  refine hp.imp ?_
  intro i j hij
  simp only [pairB,Bool.and_eq_true,Bool.or_eq_true,Bool.not_eq_true'] at hij
  obtain ⟨⟨g1,g2⟩,g4⟩:=hij
  refine ⟨⟨fun e=>?_,by simpa using g2⟩,g4⟩
  subst e; rw [Nat.beq_refl] at g1; cases g1
 refine ⟨Nat.eq_of_beq_eq_true h0,fun i hi=>by simpa using h1 i (by simpa using hi),?_,hp'.imp (fun h=>h.1.1),hp'.imp (fun h=>h.1.2),hp'.imp (fun h=>h.2),?_⟩
 ·intro i hi
  have:=h2 i hi
  simp only [oneB,Bool.and_eq_true,List.all_eq_true,Nat.blt_eq] at this
  refine ⟨this.1,fun on hon=>?_⟩
  have:=this.2 on hon
  simp only [Bool.not_eq_true'] at this
  exact ⟨by simpa using this.1,fun e=>by subst e; simp [Nat.beq_refl] at this⟩
 ·intro L hL i j hj ht
  exact ancs_spec hL canon [] (by intro j i _ h; simp [look] at h) j i hj ht
section
variable {E:Env} {ops:Array Oper} {anc:List (Nat×Nat)} {canon:List Nat} {K:APred} {a0:AAct}
theorem DOk.nodup (h:DOk ops anc canon) {p:List Nat} {i:Nat} {q:List Nat} (hc:canon=p++i::q):i ∉ p/\i ∉ q:=by
 have:=h.nd
 rw [hc,List.pairwise_append,List.pairwise_cons] at this
 exact ⟨fun hi=>this.2.2 i hi i (by simp) rfl,fun hi=>this.2.1.1 i hi rfl⟩
theorem DOk.top (h:DOk ops anc canon) (p:List Nat) (i:Nat) (q:List Nat) (hc:canon=p++i::q):(∀ on∈boundAt ops i,on∈p)/\i ∉ p/\i < ops.size:=by
 have h1:=h.one i (by rw [hc]; simp)
 refine ⟨fun on hon=>?_,(h.nodup hc).1,h1.1⟩
 obtain ⟨g1,g2⟩:=h1.2 on hon
 have:=h.bnd
 rw [hc,List.pairwise_append,List.pairwise_cons] at this
 rw [hc] at g1
 simp at g1
 rcases g1 with g1|g1|g1
 ·exact g1
 ·exact absurd g1 g2
 ·exact absurd hon (this.2.1.1 on g1)
theorem pw_at {R:Nat->Nat->Prop} {c p:List Nat} {i:Nat} {q:List Nat} {j:Nat} {r:List Nat} (h:c.Pairwise R) (hc:c=p++i::q++j::r):R i j:=by
 rw [hc,List.pairwise_append] at h
 exact h.2.2 i (by simp) j (by simp)
theorem DOk.pairs (h:DOk ops anc canon) (p:List Nat) (i:Nat) (q:List Nat) (j:Nat) (r:List Nat) (hc:canon=p++i::q++j::r) (hcl:clashAt ops i j=true):(look anc j).testBit i=true:=by
 rcases pw_at h.prs hc with h1|h1
 ·exact h1
 ·simp only [freeAt,Bool.and_eq_true,Bool.not_eq_true'] at h1
  rw [h1.1.1.1.1.1] at hcl; cases hcl
theorem DOk.ance (h:DOk ops anc canon) {L:Nat->Bool} (hL:Closed ops L) {i j:Nat} (hj:L j=true) (ht:(look anc j).testBit i=true):L i=true:=h.anc' L hL i j hj ht
theorem DOk.front (h:DOk ops anc canon) {pre q:List Nat} {i:Nat} {r:List Nat} (hc:canon=pre++(q++i::r)) (hq:∀ x∈q,freeAt ops anc x i=true):DOk ops anc (pre++i::(q++r)):=by
 have hmem:∀ x,x∈pre++i::(q++r) ↔ x∈canon:=by intro x; rw [hc]; simp; constructor<;>(intro h; rcases h with h|h|h|h<;>simp [h])
 have pw:∀ (R:Nat->Nat->Prop),canon.Pairwise R->(∀ x∈q,R i x)->(pre++i::(q++r)).Pairwise R:=by
  intro R hR hx
  rw [hc] at hR
  simp only [List.pairwise_append,List.pairwise_cons,List.mem_append,List.mem_cons] at hR ⊢
  obtain ⟨a1,⟨a2,⟨a3,a4⟩,a5⟩,a6⟩:=hR
  refine ⟨a1,⟨?_,a2,a4,fun x hx y hy=>a5 x hx y (.inr hy)⟩,?_⟩
  ·intro x hx'
   rcases hx' with hx'|hx'
   ·exact hx x hx'
   ·exact a3 x hx'
  ·intro x hx' y hy
   rcases hy with rfl|hy|hy
   ·exact a6 x hx' _ (.inr (.inl rfl))
   ·exact a6 x hx' y (.inl hy)
   ·exact a6 x hx' y (.inr (.inr hy))
 have hne:∀ x∈q,i≠x:=by
  intro x hx e
  subst e
  have:=(h.nodup (p:=pre++q) (i:=i) (q:=r) (by rw [hc]; simp)).1
  exact this (by simp [hx])
 refine ⟨by rw [<-h.len,hc]; simp; omega,fun k hk=>(hmem k).2 (h.all k hk),?_,pw _ h.nd hne,pw _ h.bnd ?_,pw _ h.prs ?_,h.anc'⟩
 ·intro k hk
  obtain ⟨g1,g2⟩:=h.one k ((hmem k).1 hk)
  exact ⟨g1,fun on hon=>⟨(hmem on).2 (g2 on hon).1,(g2 on hon).2⟩⟩
 ·intro x hx
  have:=hq x hx
  simp only [freeAt,Bool.and_eq_true,Bool.not_eq_true'] at this
  simpa using this.1.1.2
 ·intro x hx; exact .inr (freeAt_sym (hq x hx))
def altsGo (ops:Array Oper) (anc:List (Nat×Nat)):List Nat->List Nat->List (Nat×List Nat)
 | _,[]=>[]
 | pre,j::r=>match pre.all fun x=>freeAt ops anc x j with
  | true=>(j,pre++r)::altsGo ops anc (pre++[j]) r
  | false=>altsGo ops anc (pre++[j]) r
def alts (E:Env) (ops:Array Oper) (anc:List (Nat×Nat)):List Nat->List (Nat×List Nat)
 | []=>[]
 | e::s=>match effAt E ops e with
  | true=>(e,s)::altsGo ops anc [e] s
  | false=>[(e,s)]
theorem altsGo_mem {i:Nat} {r:List Nat}:∀ (q pre:List Nat),(∀ x∈pre++q,freeAt ops anc x i=true)->(i,pre++q++r)∈altsGo ops anc pre (q++i::r)
  | [], pre, h => by
      have:(pre.all fun x=>freeAt ops anc x i)=true:=by
        rw [List.all_eq_true]; intro x hx; exact h x (by simp [hx])
      simp [altsGo,this]
  | x :: q, pre, h => by
      have:=altsGo_mem (r:=r) q (pre++[x]) (fun y hy=>h y (by simpa using hy))
      simp only [List.append_assoc,List.singleton_append] at this
      simp only [List.cons_append,altsGo]
      split
      · exact List.mem_cons_of_mem _ (by simpa using this)
      · simpa using this
theorem alts_mem {e i:Nat} {q r:List Nat} (he:effAt E ops e=true) (hq:∀ x∈e::q,freeAt ops anc x i=true):(i,e::q++r)∈alts E ops anc (e::q++i::r):=by
 have:=altsGo_mem (r:=r) q [e] (by simpa using hq)
 simp only [List.cons_append,alts,he]
 exact List.mem_cons_of_mem _ (by simpa using this)
theorem alts_head {e:Nat} {s:List Nat}:(e,s)∈alts E ops anc (e::s):=by
 simp only [alts]; split<;>simp
def SLe (σ σ':AStore):Prop:=∀ b y,σ.get b=some y->σ'.get b=some y
theorem SLe.alloc (σ:AStore) (x:ABlk):SLe σ (σ.alloc x):=fun b y h=>by
 rw [AStore.get_alloc,if_neg (by have:=AStore.lt_of_get h; omega)]; exact h
def allocOp:Op->Bool
 | .alloc _|.makeSlice ..|.box ..=>true
 | _=>false
theorem aNew_sle {v p:AVal} {σ σ':AStore} (h:aNew v σ=some (p,σ')):SLe σ σ':=by
 unfold aNew at h
 split at h
 ·cases h; exact SLe.alloc _ _
 ·cases h
theorem allocOp_res {E:Env} {op:Op} {ρ:ARho} {σ:AStore} (h:allocOp op=true):(∃ v σ',aOp E true op ρ σ=.val v σ'/\SLe σ σ')\/aOp E true op ρ σ=.bad:=by
 have fin:∀ {o:Option (AVal×AStore)},(∀ v σ',o=some (v,σ')->SLe σ σ')->(∃ v σ',ARes.ofO o=.val v σ'/\SLe σ σ')\/ARes.ofO o=.bad:=by
  intro o ho
  cases o with
  | none=>exact .inr rfl
  | some p=>exact .inl ⟨p.1,p.2,rfl,ho p.1 p.2 rfl⟩
 cases op<;>first|(cases h; done)|skip
 case alloc t=>
  simp only [aOp]
  split
  ·rename_i i hi
   refine fin ?_
   intro v σ' hv
   unfold tagNew at hv
   split at hv
   ·rename_i p σ1 hp
    have:=aNew_sle hp
    split at hv
    ·cases hv; exact this
    ·cases hv; exact this
   ·cases hv
  ·exact .inr rfl
 case box t x=>
  simp only [aOp]
  split
  ·exact fin fun v σ' hv=>aNew_sle hv
  ·exact .inr rfl
 case makeSlice t l c=>
  simp only [aOp]
  split
  ·refine fin ?_
   intro v σ' hv
   unfold aMakeSlice at hv
   split at hv
   ·split at hv
    ·cases hv; exact SLe.alloc _ _
    ·cases hv
   ·cases hv
  ·exact .inr rfl
def monoOp:Op->Bool
 | .load ..|.nilCheck _|.fieldAddr ..|.move _|.call {callee:=.builtin .len,..}=>true
 | _=>false
def rdV:ARes->Option AVal
 | .val v _=>some v
 | _=>none
theorem aRead_rdV {E:Env} {op:Op} {ρ:ARho} {σ:AStore}:aRead E op ρ σ=rdV (aOp E true op ρ σ):=by
 unfold aRead rdV
 cases aOp E true op ρ σ<;>rfl
theorem ofV_read {σ σ':AStore} {o o':Option AVal} (h:∀ v,o=some v->o'=some v) {v:AVal} (hv:rdV (ARes.ofV σ o)=some v):rdV (ARes.ofV σ' o')=some v:=by
 cases o with
 | none=>cases hv
 | some x=>rw [h x rfl]; exact hv
theorem aLoad_mono {σ σ':AStore} (hm:SLe σ σ') {a:Bool} {m:Nat} {p v:AVal} (h:aLoad a m p σ=some v):aLoad a m p σ'=some v:=by
 unfold aLoad at h ⊢
 cases p<;>simp only [] at h ⊢<;>try exact h
 rename_i b i k
 cases hg:σ.get b with
 | none=>rw [hg] at h; cases h
 | some y=>rw [hm b y hg]; rw [hg] at h; exact h
theorem aLen_mono {σ σ':AStore} (hm:SLe σ σ') {d:TypeDesc} {x v:AVal} (h:aLen d x σ=some v):aLen d x σ'=some v:=by
 unfold aLen at h ⊢
 split at h<;>try exact h
 rename_i b
 cases hg:σ.get b with
 | none=>rw [hg] at h; cases h
 | some y=>simp only [hm b y hg]; rw [hg] at h; exact h
theorem aRead_mono {E:Env} {op:Op} {ρ:ARho} {σ σ':AStore} {v:AVal} (hm:SLe σ σ') (ho:monoOp op=true) (h:aRead E op ρ σ=some v):aRead E op ρ σ'=some v:=by
 rw [aRead_rdV] at h ⊢
 cases op<;>first|(cases ho; done)|skip
 case move x=>exact ofV_read (fun _ h=>h) h
 case load t a=>
  simp only [aOp] at h ⊢
  cases hi:E.ty t with
  | none=>rw [hi] at h; cases h
  | some i=>
   rw [hi] at h
   cases hp:ρ a with
   | none=>rw [hp] at h; cases h
   | some p=>
    rw [hp] at h
    exact ofV_read (fun _ h=>aLoad_mono hm h) h
 case nilCheck x=>
  simp only [aOp] at h ⊢
  cases hx:ρ x with
  | none=>rw [hx] at h; cases h
  | some y=>
   rw [hx] at h
   cases y<;>first|(cases h; done)|exact h|skip
   rename_i fn a b
   cases fn<;>first|(cases h; done)|exact h
 case fieldAddr s x f=>
  simp only [aOp] at h ⊢
  cases hf:fieldOf E s f with
  | none=>rw [hf] at h; cases h
  | some p=>
   rw [hf] at h
   cases hx:ρ x with
   | none=>rw [hx] at h; cases h
   | some q=>
    rw [hx] at h
    obtain ⟨off,j⟩:=p
    simp only [] at h ⊢
    split at h
    ·rename_i hj
     rw [if_pos hj]
     exact ofV_read (fun _ h=>h) h
    ·cases h
 case call c=>
  obtain ⟨callee,args,ats⟩:=c
  cases callee with
  | value f=>cases ho
  | invoke r m=>cases ho
  | builtin b=>
   cases b<;>first|(cases ho; done)|skip
   simp only [aOp] at h ⊢
   cases hs:allSome ρ args.toList with
   | none=>rw [hs] at h; cases h
   | some as=>
    rw [hs] at h
    simp only [] at h ⊢
    generalize ats.toList=tl at h ⊢
    match tl,as,h with
    | [t],[x],h=>
     simp only [aBuiltin] at h ⊢
     cases hi:E.ty t with
     | none=>rw [hi] at h; cases h
     | some i=>
      rw [hi] at h
      exact ofV_read (fun _ h=>aLen_mono hm h) h
    | [],_,h=>simp only [aBuiltin] at h; cases h
    | [_],[],h=>simp only [aBuiltin] at h; cases h
    | [_],_::_::_,h=>simp only [aBuiltin] at h; cases h
    | _::_::_,_,h=>simp only [aBuiltin] at h; cases h
def needR (op:Op) (recs:List Rec):List Rec:=
 match allocOp op with
 | true=>recs.filter fun r=>!(monoOp r.op)
 | false=>recs
theorem needR_mem {E:Env} {op:Op} {m:Nat} {recs:List Rec} {σ σ':AStore} (hs:allocOp op=true->SLe σ σ') (h:∀ r∈needR op recs,m.testBit r.i=true\/r.holds E σ'):
  ∀ r∈recs,m.testBit r.i=true\/(r.holds E σ->r.holds E σ'):=by
 intro r hr
 unfold needR at h
 cases ha:allocOp op with
 | false=>
  rw [ha] at h
  rcases h r hr with h|h
  ·exact .inl h
  ·exact .inr fun _=>h
 | true=>
  rw [ha] at h
  cases hmo:monoOp r.op with
  | true=>exact .inr fun hh=>aRead_mono (hs ha) hmo hh
  | false=>
   rcases h r (by simp [hr,hmo]) with h|h
   ·exact .inl h
   ·exact .inr fun _=>h
def keepR (m:Nat):List Rec->List Rec
 | []=>[]
 | r::rs=>match m.testBit r.i with
  | true=>keepR m rs
  | false=>r::keepR m rs
theorem keepR_mem {m:Nat} {r:Rec}:∀ {rs:List Rec},r∈rs->m.testBit r.i=true\/r∈keepR m rs
  | [],h=>by simp at h
  | x :: rs, h => by
      simp only [List.mem_cons] at h
      unfold keepR
      rcases h with rfl|h
      · cases hb:m.testBit r.i with
        | true=>exact .inl rfl
        | false=>exact .inr (by simp)
      · rcases keepR_mem h with h|h
        · exact .inl h
        · exact .inr (by split<;>simp [h])
theorem altsGo_len {ops:Array Oper} {anc:List (Nat×Nat)}:∀ (l pre:List Nat),∀ p∈altsGo ops anc pre l,p.2.length+1=pre.length+l.length
  | [],pre,p,h=>by simp [altsGo] at h
  | j :: r, pre, p, h => by
      unfold altsGo at h
      have ih:=altsGo_len (ops:=ops) (anc:=anc) r (pre++[j])
      split at h
      · simp only [List.mem_cons] at h
        rcases h with rfl|h
        · simp; omega
        · have:=ih p h; simp at this ⊢; omega
      · have:=ih p h; simp at this ⊢; omega
theorem alts_len {E:Env} {ops:Array Oper} {anc:List (Nat×Nat)} {s:List Nat} (p:Nat×List Nat) (h:p∈alts E ops anc s):p.2.length+1=s.length:=by
 unfold alts at h
 split at h
 ·simp at h
 ·split at h
  ·simp only [List.mem_cons] at h
   rcases h with rfl|h
   ·simp
   ·have:=altsGo_len _ _ p h; simp at this ⊢; omega
  ·simp only [List.mem_singleton] at h; subst h; simp
def aSt (E:Env) (ops:Array Oper) (anc:List (Nat×Nat)) (K:APred) (a0:AAct) (i:Nat) (k:List Rec->AAct->AStore->Prop) (recs:List Rec) (a:AAct) (σ:AStore):Prop:=
 match ops[i]? with
 | none=>False
 | some o=>
  match o.guard with
  | none=>
   match isEff E o.op with
   | true=>aGoD E K a0 (fun x σ'=>recsOk E (look anc i) σ' (needR o.op recs)/\k (keepR (look anc i) recs) (a.put o.dst x) σ') σ (aOp E true o.op (a.ev E.G) σ)
   | false=>match aRead E o.op (a.ev E.G) σ with
    | some v=>k (⟨i,o.op,a,v⟩::recs) (a.put o.dst (some v)) σ
    | none=>False
  | some (j,want)=>
   match aYield ops a j with
   | none=>False
   | some b=>
    (b=some want->
     match isEff E o.op with
     | true=>aGoD E K a0 (fun x σ'=>recsOk E (look anc i) σ' (needR o.op recs)/\k (keepR (look anc i) recs) (a.put o.dst x) σ') σ (aOp E true o.op (a.ev E.G) σ)
     | false=>match aRead E o.op (a.ev E.G) σ with
      | some v=>k (⟨i,o.op,a,v⟩::recs) (a.put o.dst (some v)) σ
      | none=>False)/\
    (b≠some want->k recs (a.put o.dst (some undefA)) σ)
def aDrs (E:Env) (ops:Array Oper) (anc:List (Nat×Nat)) (K:APred) (a0:AAct):Nat->List Nat->List Rec->AAct->AStore->Prop
 | _,[],_,a,σ=>K .normal a σ
 | 0,_::_,_,_,_=>False
 | n+1,i::rest,recs,a,σ=>∀ p∈alts E ops anc (i::rest),aSt E ops anc K a0 p.1 (aDrs E ops anc K a0 n p.2) recs a σ
theorem aDrs_nil {n:Nat} {recs:List Rec} {a:AAct} {σ:AStore} (h:aDrs E ops anc K a0 n [] recs a σ):K .normal a σ:=by cases n<;>exact h
theorem aDrs_cons {n i:Nat} {rest:List Nat} {recs:List Rec} {a:AAct} {σ:AStore} (h:aDrs E ops anc K a0 n (i::rest) recs a σ):
  ∃ m,∀ p∈alts E ops anc (i::rest),aSt E ops anc K a0 p.1 (aDrs E ops anc K a0 m p.2) recs a σ:=by
 cases n with
 | zero=>exact h.elim
 | succ m=>exact ⟨m,h⟩
structure DInv (E:Env) (ops:Array Oper) (anc:List (Nat×Nat)) (canon:List Nat) (K:APred) (a0:AAct) (L:Nat->Bool) (pre suf:List Nat) (vals:List Ran) (recs:List Rec) (σ:AStore):Prop where
  split:canon=pre++suf
  idx:vals.map (·.i)=pre
  inpre:∀ i,L i=true->i∈pre
  eff:∀ i∈pre,effAt E ops i=true->L i=true
  closed:Closed ops L
  form:∃ n,aDrs E ops anc K (clearAll ops.toList a0) n suf recs (part everyOne vals a0) σ
  ents:∀ v1 r v2,vals=v1++r::v2->∃ o,ops[r.i]?=some o/\r.dst=o.dst/\(L r.i=false->isEff E o.op=false/\
    ((∃ j want b,o.guard=some (j,want)/\aYield ops (part everyOne v1 a0) j=some b/\b≠some want/\r.x=some undefA)\/
     ((o.guard=none\/∃ j b,o.guard=some (j,b)/\aYield ops (part everyOne v1 a0) j=some (some b))/\
      ∃ v,r.x=some v/\(⟨r.i,o.op,part everyOne v1 a0,v⟩:Rec)∈recs/\aRead E o.op ((part everyOne v1 a0).ev E.G) σ=some v)))
theorem DInv.read1 {L : Nat → Bool} {σ : AStore} {i : Nat} {suf pre : List Nat} {vals : List Ran} {recs : List Rec} {n : Nat} {o : Oper} (ho : ops[i]? = some o) (heb : effAt E ops i = false)
    (split:canon=pre++i::suf) (idx:vals.map (·.i)=pre) (inpre:∀ i,L i=true->i∈pre) (eff:∀ i∈pre,effAt E ops i=true->L i=true) (closed:Closed ops L)
    (ents:∀ v1 r v2,vals=v1++r::v2->∃ o,ops[r.i]?=some o/\r.dst=o.dst/\(L r.i=false->isEff E o.op=false/\
    ((∃ j want b,o.guard=some (j,want)/\aYield ops (part everyOne v1 a0) j=some b/\b≠some want/\r.x=some undefA)\/
     ((o.guard=none\/∃ j b,o.guard=some (j,b)/\aYield ops (part everyOne v1 a0) j=some (some b))/\
      ∃ v,r.x=some v/\(⟨r.i,o.op,part everyOne v1 a0,v⟩:Rec)∈recs/\aRead E o.op ((part everyOne v1 a0).ev E.G) σ=some v))))
    (hf:aSt E ops anc K (clearAll ops.toList a0) i (aDrs E ops anc K (clearAll ops.toList a0) n suf) recs (part everyOne vals a0) σ):
    ∃ x recs',DInv E ops anc canon K a0 L (pre++[i]) suf (vals++[⟨i,o.dst,x⟩]) recs' σ:=by
  unfold aSt at hf
  rw [ho] at hf
  have hie:isEff E o.op=false:=by simpa [effAt,ho] using heb
  simp only [hie] at hf
  have key : ∀ (x : Option AVal) (recs' : List Rec), (∀ r ∈ recs, r ∈ recs') →
      (∃ n,aDrs E ops anc K (clearAll ops.toList a0) n suf recs' ((part everyOne vals a0).put o.dst x) σ)->
      ((∃ j want b,o.guard=some (j,want)/\aYield ops (part everyOne vals a0) j=some b/\b≠some want/\x=some undefA)\/
       ((o.guard=none\/∃ j b,o.guard=some (j,b)/\aYield ops (part everyOne vals a0) j=some (some b))/\
        ∃ v,x=some v/\(⟨i,o.op,part everyOne vals a0,v⟩:Rec)∈recs'/\aRead E o.op ((part everyOne vals a0).ev E.G) σ=some v))->
      ∃ x recs',DInv E ops anc canon K a0 L (pre++[i]) suf (vals++[⟨i,o.dst,x⟩]) recs' σ:=by
    intro x recs' hsub hform hcase
    refine ⟨x,recs',by simp [split],by simp [idx],fun k hk=>by simp [inpre k hk],?_,closed,?_,?_⟩
    · intro k hk hke
      simp at hk
      rcases hk with hk|rfl
      · exact eff k hk hke
      · rw [heb] at hke; cases hke
    · rw [part_append]
      exact hform
    · intro v1 r v2 hv
      by_cases hv2:v2=[]
      · subst hv2
        have:=List.append_inj' hv (by simp)
        obtain ⟨rfl,hr⟩:=this
        simp at hr
        subst hr
        exact ⟨o,ho,rfl,fun _=>⟨hie,hcase⟩⟩
      · obtain ⟨v2',z,rfl⟩:∃ v2' z,v2=v2'++[z]:=⟨v2.dropLast,v2.getLast hv2,(List.dropLast_concat_getLast hv2).symm⟩
        have hv':vals++[⟨i,o.dst,x⟩]=(v1++r::v2')++[z]:=by simpa using hv
        have:=List.append_inj' hv' (by simp)
        obtain ⟨o',q1,q2,q3⟩:=ents v1 r v2' this.1
        refine ⟨o',q1,q2,fun hl=>?_⟩
        obtain ⟨q4,q5⟩:=q3 hl
        refine ⟨q4,?_⟩
        rcases q5 with q5|⟨q5,v,q6,q7,q8⟩
        · exact .inl q5
        · exact .inr ⟨q5,v,q6,hsub _ q7,q8⟩
  have read : (match aRead E o.op ((part everyOne vals a0).ev E.G) σ with
      | some v=>aDrs E ops anc K (clearAll ops.toList a0) n suf (⟨i,o.op,part everyOne vals a0,v⟩::recs) ((part everyOne vals a0).put o.dst (some v)) σ
      | none=>False)->(o.guard=none\/∃ j b,o.guard=some (j,b)/\aYield ops (part everyOne vals a0) j=some (some b))->
      ∃ x recs',DInv E ops anc canon K a0 L (pre++[i]) suf (vals++[⟨i,o.dst,x⟩]) recs' σ:=by
    intro hr hg
    split at hr
    · rename_i v hv
      exact key (some v) _ (fun r hr=>by simp [hr]) ⟨n,hr⟩ (.inr ⟨hg,v,rfl,by simp,hv⟩)
    · exact hr.elim
  split at hf
  · rename_i hg
    exact read hf (.inl hg)
  · rename_i j want hg
    split at hf
    · exact hf.elim
    · rename_i b hy
      by_cases hb:b=some want
      · exact read (hf.1 hb) (.inr ⟨j,want,hg,by rw [hy,hb]⟩)
      · exact key (some undefA) recs (fun r hr=>hr) ⟨n,hf.2 hb⟩ (.inl ⟨j,want,b,hg,hy,hb,rfl⟩)
theorem DInv.advance (hok : DOk ops anc canon) {L : Nat → Bool} {σ : AStore} : ∀ (suf pre : List Nat) (vals : List Ran) (recs : List Rec), DInv E ops anc canon K a0 L pre suf vals recs σ →
    ∃ pre' suf' vals' recs' add,DInv E ops anc canon K a0 L pre' suf' vals' recs' σ/\Settled E ops suf'/\vals'=vals++add/\∀ r∈add,L r.i=false
  | [],pre,vals,recs,h=>⟨pre,[],vals,recs,[],h,.inl rfl,by simp,by simp⟩
  | i :: suf, pre, vals, recs, h => by
      by_cases he:effAt E ops i=true
      · exact ⟨pre,i::suf,vals,recs,[],h,.inr ⟨i,suf,rfl,he⟩,by simp,by simp⟩
      · have hnd:=hok.nodup h.split
        have hLi:L i=false:=by
          cases hl:L i with
          | false=>rfl
          | true=>exact absurd (h.inpre i hl) hnd.1
        obtain ⟨n,hf⟩:=h.form
        obtain ⟨n,hf⟩:=aDrs_cons hf
        have hf:=hf (i,suf) alts_head
        have heb:effAt E ops i=false:=by simpa using he
        cases ho:ops[i]? with
        | none=>unfold aSt at hf; rw [ho] at hf; exact hf.elim
        | some o=>
          obtain ⟨x,recs',hinv⟩:=DInv.read1 ho heb h.split h.idx h.inpre h.eff h.closed h.ents hf
          obtain ⟨pre',suf',vals',recs'',add,g1,g2,g3,g4⟩:=DInv.advance hok suf _ _ _ hinv
          refine ⟨pre',suf',vals',recs'',⟨i,o.dst,x⟩::add,g1,g2,by rw [g3]; simp,?_⟩
          intro r hr
          simp at hr
          rcases hr with rfl|hr
          · exact hLi
          · exact g4 r hr
theorem reads_same (hok:DOk ops anc canon) (hfit:∀ (i:Nat) (o:Oper),ops[i]?=some o->a0.fits o.dst=true) {L:Nat->Bool} {vals:List Ran} (hents:∀ r∈vals,∃ o,ops[r.i]?=some o/\r.dst=o.dst) {i:Nat} {o:Oper} (ho:ops[i]?=some o) (hLi:L i=false)
  (hL:Closed ops L) (hb:∀ on∈boundAt ops i,L on=true) {rs1 rest:List Ran} (hv:vals=rs1++rest) {suf':List Nat}
  (hc:canon=rs1.map (·.i)++i::suf') (hrest:rest=[]\/∃ r v2 q,rest=r::v2/\r.i=i/\suf'=v2.map (·.i)++q):
  ∀ t∈readsOf ops o,(part L vals a0).tmps.get t=(part everyOne rs1 a0).tmps.get t:=by
 intro t ht
 have hf1:∀ r∈vals,a0.fits r.dst=true:=by
  intro r hr
  obtain ⟨o',h1,h2⟩:=hents r hr
  rw [h2]; exact hfit _ _ h1
 rw [part_get _ _ _ _ hf1,part_get _ _ _ _ (fun r hr=>hf1 r (by rw [hv]; simp [hr]))]
 congr 1
 have hL':=hL.withOne hb
 have h1:∀ r∈rs1,r.dst=some t->L r.i=true:=by
  intro r hr hd
  obtain ⟨o',q1,q2⟩:=hents r (by rw [hv]; simp [hr])
  have hcl:clashAt ops r.i i=true:=by
   simp only [clashAt,q1,ho,clash]
   rw [<-q2,hd]
   simp [ht]
  obtain ⟨p1,p2,hp⟩:=List.append_of_mem hr
  have hci:canon=p1.map (·.i)++r.i::p2.map (·.i)++i::suf':=by rw [hc,hp]; simp
  have hb':=hok.pairs _ _ _ _ _ hci hcl
  have:=hok.ance hL' (withOne_self L i) hb'
  have hne:r.i≠i:=by
   intro he
   have:=(hok.nodup (p:=rs1.map (·.i)) (i:=i) (q:=suf') hc).1
   exact this (List.mem_map.2 ⟨r,hr,he⟩)
  rwa [withOne_ne hne] at this
 have h2:∀ r∈rest,r.dst=some t->L r.i=false:=by
  intro r hr hd
  rcases hrest with rfl|⟨r0,v2,q,rfl,hr0,rfl⟩
  ·simp at hr
  ·simp at hr
   rcases hr with rfl|hr
   ·rw [hr0]; exact hLi
   ·obtain ⟨o',q1,q2⟩:=hents r (by rw [hv]; simp [hr])
    have hcl:clashAt ops i r.i=true:=by
     simp only [clashAt,q1,ho,clash]
     rw [<-q2,hd]
     simp [ht]
    obtain ⟨p1,p2,hp⟩:=List.append_of_mem hr
    have hci:canon=rs1.map (·.i)++i::p1.map (·.i)++r.i::(p2.map (·.i)++q):=by rw [hc,hp]; simp
    have hb':=hok.pairs _ _ _ _ _ hci hcl
    cases hl:L r.i with
    | false=>rfl
    | true=>have:=hok.ance hL hl hb'; rw [hLi] at this; cases this
 rw [hv,lastW_append,lastW_none h2,lastW_all h1]
 simp
theorem part_withOne (hok:DOk ops anc canon) (hfit:∀ (i:Nat) (o:Oper),ops[i]?=some o->a0.fits o.dst=true) {L:Nat->Bool} {vals:List Ran} (hents:∀ r∈vals,∃ o,ops[r.i]?=some o/\r.dst=o.dst) {i:Nat} (hLi:L i=false)
  (hL:Closed ops L) {v1 v2:List Ran} {r:Ran} (hri:r.i=i) (hv:vals=v1++r::v2) {q:List Nat} (hc:canon=vals.map (·.i)++q):
  (part (withOne L i) vals a0).Le ((part L vals a0).put r.dst r.x):=by
 have hf1:∀ r∈vals,a0.fits r.dst=true:=by
  intro r hr
  obtain ⟨o',h1,h2⟩:=hents r hr
  rw [h2]; exact hfit _ _ h1
 obtain ⟨n1,n2⟩:=part_n (withOne L i) vals a0
 obtain ⟨n3,n4⟩:=part_n L vals a0
 obtain ⟨n5,n6⟩:=(part L vals a0).put_n r.dst r.x
 refine ⟨by rw [n1,n5,n3],by rw [n2,n6,n4],?_⟩
 intro t v ht
 rw [AAct.put_get (by rw [AAct.fits_n n3]; exact hf1 r (by rw [hv]; simp))]
 rw [part_get _ _ _ _ hf1] at ht
 have hcr:canon=v1.map (·.i)++i::(v2.map (·.i)++q):=by rw [hc,hv]; simp [hri]
 have hnd:=hok.nodup hcr
 by_cases hd:r.dst=some t
 ·rw [if_pos hd]
  have h2:∀ r'∈v2,r'.dst=some t->withOne L i r'.i=false:=by
   intro r' hr' hd'
   obtain ⟨o',q1,q2⟩:=hents r' (by rw [hv]; simp [hr'])
   obtain ⟨o,q3,q4⟩:=hents r (by rw [hv]; simp)
   rw [hri] at q3
   have hcl:clashAt ops i r'.i=true:=by
    simp only [clashAt,q1,q3,clash]
    rw [<-q2,<-q4,hd,hd']
    simp
   obtain ⟨p1,p2,hp⟩:=List.append_of_mem hr'
   have hci:canon=v1.map (·.i)++i::p1.map (·.i)++r'.i::(p2.map (·.i)++q):=by rw [hcr,hp]; simp
   have hb':=hok.pairs _ _ _ _ _ hci hcl
   have hne:r'.i≠i:=by
    intro he
    exact hnd.2 (by simp; exact .inl ⟨r',hr',he⟩)
   rw [withOne_ne hne]
   cases hl:L r'.i with
   | false=>rfl
   | true=>have:=hok.ance hL hl hb'; rw [hLi] at this; cases this
  rw [hv,lastW_append,lastW,lastW_none h2] at ht
  simp only [] at ht
  rw [if_pos ⟨by rw [hri]; exact withOne_self L i,hd⟩] at ht
  simpa using ht
 ·rw [if_neg hd,part_get _ _ _ _ hf1]
  rw [<-ht]
  congr 1
  refine lastW_congr ?_
  intro r' hr' hd'
  rw [hv] at hr'
  simp at hr'
  rcases hr' with hr'|rfl|hr'
  ·have:r'.i≠i:=fun he=>hnd.1 (List.mem_map.2 ⟨r',hr',he⟩)
   rw [withOne_ne this]
  ·exact absurd hd' hd
  ·have:r'.i≠i:=fun he=>hnd.2 (by simp; exact .inl ⟨r',hr',he⟩)
   rw [withOne_ne this]
theorem DInv.ents' {L:Nat->Bool} {pre suf:List Nat} {vals:List Ran} {recs:List Rec} {σ:AStore} (h:DInv E ops anc canon K a0 L pre suf vals recs σ):∀ r∈vals,∃ o,ops[r.i]?=some o/\r.dst=o.dst:=by
 intro r hr
 obtain ⟨v1,v2,hv⟩:=List.append_of_mem hr
 obtain ⟨o,h1,h2,_⟩:=h.ents v1 r v2 hv
 exact ⟨o,h1,h2⟩
theorem draw_fin (hok:DOk ops anc canon) {n0:Nat} {ι0:Inj} {H0:Imm} {L:Nat->Bool} {pre suf:List Nat} {vals:List Ran} {recs:List Rec} {σ:AStore} {ι:Inj} {H:Imm} {w:World} {ac:Act}
  (hinv:DInv E ops anc canon K a0 L pre suf vals recs σ) (hset:Settled E ops suf) (hR:Rel E ι H σ w) (ha:ActRel σ.next ι H (part L vals a0) ac) (he:Ext n0 ι0 H0 σ.next ι H)
  (hall:∀ i∈canon,L i=true):APost E n0 ι0 H0 K .normal ac w:=by
 have hs:suf=[]:=by
  rcases hset with h|⟨e,s,h,_⟩
  ·exact h
  ·subst h
   have:=hinv.inpre e (hall e (by rw [hinv.split]; simp))
   exact absurd this (hok.nodup hinv.split).1
 subst hs
 have hp:part L vals a0=part everyOne vals a0:=part_eq vals a0 (fun r hr=>hall _ (by
  rw [hinv.split,<-hinv.idx]; simp; exact ⟨r,hr,rfl⟩))
 rw [hp] at ha
 obtain ⟨n,hf⟩:=hinv.form
 exact ⟨ι,H,σ,_,.normal,aDrs_nil hf,.normal,ha,hR,he⟩
theorem draw_all (hok:DOk ops anc canon) {L:Nat->Bool} {listed:Array Bool} (hsz:listed.size=ops.size) (hl:∀ i,i < ops.size->listed.getD i true=L i)
  (hr:Region.ready .any ops listed=[]):∀ i∈canon,L i=true:=by
 intro i hi
 cases hL:L i with
 | true=>rfl
 | false=>
  obtain ⟨p,j,q,h1,h2,h3⟩:=first_open canon ⟨i,hi,hL⟩
  obtain ⟨g1,g2,g3⟩:=hok.top p j q h1
  have:j∈Region.ready .any ops listed:=(ready_spec hl hsz).2 ⟨g3,h2,fun on hon=>by
   have hp:=g1 on hon
   obtain ⟨p1,p2,rfl⟩:=List.append_of_mem hp
   exact ⟨(hok.top p1 on (p2++j::q) (by rw [h1]; simp)).2.2,h3 on hp⟩⟩
  rw [hr] at this
  simp at this
theorem draw_main (ιr : Inj) (hfit : ∀ (i : Nat) (o : Oper), ops[i]? = some o → a0.fits o.dst = true) {n0 : Nat} {ι0 : Inj} {H0 : Imm} : ∀ (fuel : Nat) (canon : List Nat) (_ : DOk ops anc canon) (L : Nat → Bool) (listed : Array Bool) (pre suf : List Nat) (vals : List Ran) (recs : List Rec)
    (σ:AStore) (ι:Inj) (H:Imm) (w:World) (ac:Act),listed.size=ops.size->(∀ i,i < ops.size->listed.getD i true=L i)->(canon.filter fun i=>!(L i)).length<=fuel->
    DInv E ops anc canon K a0 L pre suf vals recs σ->Settled E ops suf->Rel E ι H σ w->ActRel σ.next ι H (part L vals a0) ac->Ext n0 ι0 H0 σ.next ι H->
    wpAnyIn (FR ιr E.rd) 0 E.P .any ops (APost E n0 ι0 H0 K) fuel listed ac w:=by
  intro fuel
  induction fuel with
  | zero=>
    intro canon hok L listed pre suf vals recs σ ι H w ac hsz hl hcnt hinv hset hR ha he
    have hall:∀ i∈canon,L i=true:=by
      intro i hi
      cases hL:L i with
      | true=>rfl
      | false=>
        have:i∈canon.filter (fun i=>!(L i)):=List.mem_filter.2 ⟨hi,by simp [hL]⟩
        have h0:canon.filter (fun i=>!(L i))=[]:=List.length_eq_zero_iff.1 (by omega)
        rw [h0] at this; simp at this
    refine ⟨?_,draw_fin hok hinv hset hR ha he hall⟩
    cases hr:Region.ready .any ops listed with
    | nil=>rfl
    | cons i l=>
      have:i∈Region.ready .any ops listed:=by rw [hr]; simp
      obtain ⟨h1,h2,_⟩:=(ready_spec hl hsz).1 this
      rw [hall i (hok.all i h1)] at h2; cases h2
  | succ fuel ih=>
    intro canon hok L listed pre suf vals recs σ ι H w ac hsz hl hcnt hinv hset hR ha he
    refine ⟨fun hr=>draw_fin hok hinv hset hR ha he (draw_all hok hsz hl hr),?_⟩
    intro i hi
    obtain ⟨h1,h2,h3⟩:=(ready_spec hl hsz).1 hi
    have hb:∀ on∈boundAt ops i,L on=true:=fun on hon=>(h3 on hon).2
    have hic:=hok.all i h1
    have hL':=hinv.closed.withOne hb
    have hents:=hinv.ents'
    have hsz':(listed.setIfInBounds i true).size=ops.size:=by simpa using hsz
    have hl':∀ k,k < ops.size->(listed.setIfInBounds i true).getD k true=withOne L i k:=by
      intro k hk
      by_cases hki:k=i
      · subst hki
        rw [withOne_self,Array.getD_eq_getD_getElem?]
        simp [hsz,hk]
      · rw [withOne_ne hki,<-hl k hk,Array.getD_eq_getD_getElem?,Array.getD_eq_getD_getElem?]
        simp [Ne.symm hki]
    have hcnt':(canon.filter fun k=>!(withOne L i k)).length<=fuel:=by
      have:=filter_withOne h2 canon hic
      omega
    have next : ∀ (canon : List Nat) (hok : DOk ops anc canon) (hcnt' : (canon.filter fun k => !(withOne L i k)).length ≤ fuel) (pre suf : List Nat) (vals : List Ran) (recs : List Rec) (σ : AStore) (ι : Inj) (H : Imm) (w : World) (ac : Act), DInv E ops anc canon K a0 (withOne L i) pre suf vals recs σ →
        Rel E ι H σ w->ActRel σ.next ι H (part (withOne L i) vals a0) ac->Ext n0 ι0 H0 σ.next ι H->wpAnyIn (FR ιr E.rd) 0 E.P .any ops (APost E n0 ι0 H0 K) fuel (listed.setIfInBounds i true) ac w:=by
      intro canon hok hcnt' pre suf vals recs σ ι H w ac hinv hR ha he
      obtain ⟨pre',suf',vals',recs',add,g1,g2,g3,g4⟩:=DInv.advance hok _ _ _ _ hinv
      have ha':ActRel σ.next ι H (part (withOne L i) vals' a0) ac:=by
        rw [g3,part_append,part_skip add _ g4]; exact ha
      exact ih _ hok _ _ _ _ _ _ _ _ _ _ _ hsz' hl' hcnt' g1 g2 hR ha' he
    have ho:ops[i]?=some ops[i]:=Array.getElem?_eq_getElem h1
    generalize hoo:ops[i]=o at ho
    unfold wpOpIn
    simp only [ho]
    have late : ∀ (canon : List Nat) (hok : DOk ops anc canon) (hcnt' : (canon.filter fun k => !(withOne L i k)).length ≤ fuel) (pre suf : List Nat) (vals : List Ran) (recs : List Rec), DInv E ops anc canon K a0 L pre suf vals recs σ →
        ActRel σ.next ι H (part L vals a0) ac → i ∈ pre → (if Region.wanted o (yielded ops ac.tmps) = true then o.wpIn (FR ιr E.rd) 0 E.P ac w (wpAnyIn (FR ιr E.rd) 0 E.P .any ops (APost E n0 ι0 H0 K) fuel (listed.setIfInBounds i true)) (APost E n0 ι0 H0 K)
            else (∀ f,o.about E.P w ac.eval=some f->(FR ιr E.rd).fn f)/\wpAnyIn (FR ιr E.rd) 0 E.P .any ops (APost E n0 ι0 H0 K) fuel (listed.setIfInBounds i true) (ac.put o.dst undef) w):=by
      intro canon hok hcnt' pre suf vals recs hinv ha hip
      have hents:=hinv.ents'
      have hip':=hip
      rw [<-hinv.idx,List.mem_map] at hip'
      obtain ⟨r,hr,hri⟩:=hip'
      obtain ⟨v1,v2,hv⟩:=List.append_of_mem hr
      obtain ⟨o',q1,q2,q3⟩:=hinv.ents v1 r v2 hv
      rw [hri,ho] at q1
      cases q1
      obtain ⟨q4,q5⟩:=q3 (by rw [hri]; exact h2)
      have hcv:canon=v1.map (·.i)++i::(v2.map (·.i)++suf):=by rw [hinv.split,<-hinv.idx,hv]; simp [hri]
      have same:=reads_same hok hfit hents ho h2 hinv.closed hb hv hcv (.inr ⟨r,v2,suf,rfl,hri,rfl⟩)
      have hle:=part_withOne hok hfit hents h2 hinv.closed hri hv (q:=suf) (by rw [hinv.idx]; exact hinv.split)
      have hfo:(part L vals a0).fits o.dst=true:=by rw [AAct.fits_n (part_n L vals a0).1]; exact hfit i o ho
      have hinv':DInv E ops anc canon K a0 (withOne L i) pre suf vals recs σ:=by
        refine ⟨hinv.split,hinv.idx,?_,fun k hk hke=>withOne_mono (hinv.eff k hk hke),hL',hinv.form,?_⟩
        · intro k hk
          by_cases hki:k=i
          · rw [hki]; exact hip
          · rw [withOne_ne hki] at hk; exact hinv.inpre k hk
        · intro u1 r' u2 hu
          obtain ⟨o',p1,p2,p3⟩:=hinv.ents u1 r' u2 hu
          refine ⟨o',p1,p2,fun hl=>p3 ?_⟩
          cases hll:L r'.i with
          | false=>rfl
          | true=>rw [withOne_mono hll] at hl; cases hl
      rcases q5 with ⟨j,want,b,hg,hy,hbw,hx⟩|⟨hw,v,hx,hrec,hread⟩
      · -- it is left out
        rw [<-yield_same hg same] at hy
        have hy':=aYield_sound ha hy
        have hnw:¬ Region.wanted o (yielded ops ac.tmps)=true:=by simp [Region.wanted,hg,hy',hbw]
        rw [if_neg hnw]
        refine ⟨fun _ _=>trivial,?_⟩
        have ha':=(ha.put hfo undefA_rel).le (a:=part (withOne L i) vals a0) (by rw [q2,hx] at hle; exact hle)
        exact next canon hok hcnt' pre suf vals recs σ ι H w _ hinv' hR ha' he
      · have hwant:Region.wanted o (yielded ops ac.tmps)=true:=by
          rcases hw with hg|⟨j,b,hg,hy⟩
          · simp [Region.wanted,hg]
          · rw [<-yield_same hg same] at hy
            have hy':=aYield_sound ha hy
            simp [Region.wanted,hg,hy']
        rw [if_pos hwant]
        have hop:=aRead_some q4 hread
        rw [<-aOp_congr E true o.op σ (ev_same (ops:=ops) (G:=E.G) same)] at hop
        have hs:=aOp_sound hR (ha.rho hR) true o
        rw [hop] at hs
        obtain ⟨v',w',ι',H',hrun,hvr,hR',he'⟩:=hs
        refine ⟨fun _ _=>trivial,?_⟩
        rw [semAt_run (E:=E) (σ:=σ) (lit:=true) (ρ:=(part L vals a0).ev E.G) (.inl ⟨by rw [hop]; simp,by rw [hop]; simp⟩),hrun]
        have ha':=((ha.ext he').put hfo hvr).le (a:=part (withOne L i) vals a0) (by rw [q2,hx] at hle; exact hle)
        exact next canon hok hcnt' pre suf vals recs σ ι' H' w' _ hinv' hR' ha' (he.trans he')
    rw [hinv.split,List.mem_append] at hic
    by_cases hip:i∈pre
    · exact late canon hok hcnt' pre suf vals recs hinv ha hip
    · -- what may turn the store
      have his:=hic.resolve_left hip
      obtain ⟨e,s,hse,hee⟩:∃ e s,suf=e::s/\effAt E ops e=true:=by
        rcases hset with h|h
        · rw [h] at his; simp at his
        · exact h
      subst hse
      obtain ⟨q,s',hqs⟩:=List.append_of_mem his
      have hsp0:canon=pre++(q++i::s'):=by rw [hinv.split,hqs]
      have hq:∀ x∈q,freeAt ops anc x i=true:=by
        intro x hx
        obtain ⟨q1,q2,rfl⟩:=List.append_of_mem hx
        have hc:canon=(pre++q1)++x::q2++i::s':=by rw [hsp0]; simp
        have hne:x≠i:=pw_at hok.nd hc
        have hxL:withOne L i x=false:=by
          rw [withOne_ne hne]
          cases hl:L x with
          | false=>rfl
          | true=>
            have hxp:=hinv.inpre x hl
            exact absurd (show x∈pre++q1 from List.mem_append_left _ hxp) (hok.nodup (p:=pre++q1) (i:=x) (q:=q2++i::s') (by rw [hsp0]; simp)).1
        have hnb:(look anc i).testBit x=false:=by
          cases hb':(look anc i).testBit x with
          | false=>rfl
          | true=>have:=hok.ance hL' (withOne_self L i) hb'; rw [hxL] at this; cases this
        rcases pw_at hok.prs hc with hb'|hb'
        · rw [hnb] at hb'; cases hb'
        · exact hb'
      obtain ⟨n,hf0⟩:=hinv.form
      obtain ⟨n,hf0⟩:=aDrs_cons hf0
      have hform:aSt E ops anc K (clearAll ops.toList a0) i (aDrs E ops anc K (clearAll ops.toList a0) n (q++s')) recs (part everyOne vals a0) σ:=by
        cases q with
        | nil=>
          simp only [List.nil_append,List.cons.injEq] at hqs
          obtain ⟨rfl,rfl⟩:=hqs
          exact hf0 (e,s) alts_head
        | cons e' q=>
          simp only [List.cons_append,List.cons.injEq] at hqs
          obtain ⟨rfl,rfl⟩:=hqs
          exact hf0 (i,e::q++s') (alts_mem hee hq)
      have hsp:canon=pre++(q++i::s'):=by rw [hinv.split,hqs]
      have hperm:(pre++i::(q++s')).Perm canon:=by
        rw [hsp]
        exact List.Perm.append_left _ (List.perm_middle.symm)
      obtain ⟨canon, hok, s, hspl, hcnt', hform⟩ : ∃ (canon : List Nat) (_ : DOk ops anc canon) (s : List Nat) (_ : canon = pre ++ i :: s) (_ : (canon.filter fun k => !(withOne L i k)).length ≤ fuel),
          aSt E ops anc K (clearAll ops.toList a0) i (aDrs E ops anc K (clearAll ops.toList a0) n s) recs (part everyOne vals a0) σ:=
        ⟨_,hok.front hsp hq,_,rfl,by rw [(hperm.filter _).length_eq]; exact hcnt',hform⟩
      cases heff0:effAt E ops i with
      | false=>
        obtain ⟨x,recs',hinv2⟩:=DInv.read1 ho heff0 hspl hinv.idx hinv.inpre hinv.eff hinv.closed hinv.ents hform
        refine late canon hok hcnt' _ _ _ _ hinv2 ?_ (by simp)
        rw [part_append,part_skip _ _ (by intro r hr; simp at hr; subst hr; exact h2)]
        exact ha
      | true=>
      have heff:isEff E o.op=true:=by simpa [effAt,ho] using heff0
      have same:=reads_same hok hfit hents ho h2 hinv.closed hb (rs1:=vals) (rest:=[]) (by simp) (suf':=s) (by rw [hinv.idx]; exact hspl) (.inl rfl)
      have hfo:(part L vals a0).fits o.dst=true:=by rw [AAct.fits_n (part_n L vals a0).1]; exact hfit i o ho
      simp only [aSt,ho,heff] at hform
      have hvi:vals.map (·.i)=pre:=hinv.idx
      have step : ∀ (x : Option AVal) (σ' : AStore) (ι' : Inj) (H' : Imm) (w' : World) (ac' : Act), (σ' = σ ∨ ∀ r ∈ recs, (look anc i).testBit r.i = true ∨ (r.holds E σ → r.holds E σ')) →
          ∀ recs2:List Rec,(∀ r∈recs,(look anc i).testBit r.i=true\/r∈recs2)->aDrs E ops anc K (clearAll ops.toList a0) n s recs2 ((part everyOne vals a0).put o.dst x) σ'->Rel E ι' H' σ' w'->
          ActRel σ'.next ι' H' ((part L vals a0).put o.dst x) ac'->Ext n0 ι0 H0 σ'.next ι' H'->wpAnyIn (FR ιr E.rd) 0 E.P .any ops (APost E n0 ι0 H0 K) fuel (listed.setIfInBounds i true) ac' w':=by
        intro x σ' ι' H' w' ac' hrecs recs2 hkeep hf hR' ha' he'
        have hpart:part (withOne L i) (vals++[⟨i,o.dst,x⟩]) a0=(part L vals a0).put o.dst x:=by
          rw [part_append]
          simp only [part,withOne_self,if_true]
          congr 1
          have:∀ (rs:List Ran) (a:AAct),(∀ r∈rs,r.i≠i)->part (withOne L i) rs a=part L rs a:=by
            intro rs
            induction rs with
            | nil=>intro a _; rfl
            | cons r rs ih2=>
              intro a h
              simp only [part]
              rw [withOne_ne (h r (by simp))]
              exact ih2 _ (fun r' hr'=>h r' (by simp [hr']))
          refine this vals a0 ?_
          intro r hr hri
          exact hip (by rw [<-hvi]; exact List.mem_map.2 ⟨r,hr,hri⟩)
        refine next canon hok hcnt' (pre++[i]) s (vals++[⟨i,o.dst,x⟩]) recs2 σ' ι' H' w' ac' ?_ hR' (by rw [hpart]; exact ha') he'
        refine ⟨by simp [hspl],by simp [hvi],?_,?_,hL',⟨n,by rw [part_append]; exact hf⟩,?_⟩
        · intro k hk
          by_cases hki:k=i
          · simp [hki]
          · rw [withOne_ne hki] at hk; simp [hinv.inpre k hk]
        · intro k hk hke
          simp at hk
          rcases hk with hk|rfl
          · exact withOne_mono (hinv.eff k hk hke)
          · exact withOne_self L k
        · intro u1 r u2 hu
          by_cases hu2:u2=[]
          · subst hu2
            have:=List.append_inj' hu (by simp)
            obtain ⟨rfl,hr⟩:=this
            simp at hr
            subst hr
            exact ⟨o,ho,rfl,fun hh=>by rw [withOne_self] at hh; cases hh⟩
          · obtain ⟨u2',z,rfl⟩:∃ u2' z,u2=u2'++[z]:=⟨u2.dropLast,u2.getLast hu2,(List.dropLast_concat_getLast hu2).symm⟩
            have hu':vals++[⟨i,o.dst,x⟩]=(u1++r::u2')++[z]:=by simpa using hu
            have:=List.append_inj' hu' (by simp)
            obtain ⟨o',p1,p2,p3⟩:=hinv.ents u1 r u2' this.1
            refine ⟨o',p1,p2,fun hh=>?_⟩
            have hLr:L r.i=false:=by
              cases hll:L r.i with
              | false=>rfl
              | true=>rw [withOne_mono hll] at hh; cases hh
            obtain ⟨p4,p5⟩:=p3 hLr
            refine ⟨p4,?_⟩
            rcases p5 with p5|⟨p5,v,p6,p7,p8⟩
            · exact .inl p5
            · refine .inr ⟨p5,v,p6,(hkeep _ p7).resolve_left (fun hb'=>by have:=hok.ance hL' (withOne_self L i) hb'; rw [this] at hh; cases hh),?_⟩
              rcases hrecs with rfl|hrecs
              · exact p8
              rcases hrecs _ p7 with hb'|hh'
              · have:=hok.ance hL' (withOne_self L i) hb'
                rw [this] at hh; cases hh
              · exact hh' p8
      have clear:=clearAll_part hfit hents (L:=L)
      have go : aGoD E K (clearAll ops.toList a0) (fun x σ' => recsOk E (look anc i) σ' (needR o.op recs) ∧ aDrs E ops anc K (clearAll ops.toList a0) n s (keepR (look anc i) recs) ((part everyOne vals a0).put o.dst x) σ') σ
          (aOp E true o.op ((part everyOne vals a0).ev E.G) σ)->Region.wanted o (yielded ops ac.tmps)=true->
          (if Region.wanted o (yielded ops ac.tmps)=true then o.wpIn (FR ιr E.rd) 0 E.P ac w (wpAnyIn (FR ιr E.rd) 0 E.P .any ops (APost E n0 ι0 H0 K) fuel (listed.setIfInBounds i true)) (APost E n0 ι0 H0 K)
            else (∀ f,o.about E.P w ac.eval=some f->(FR ιr E.rd).fn f)/\wpAnyIn (FR ιr E.rd) 0 E.P .any ops (APost E n0 ι0 H0 K) fuel (listed.setIfInBounds i true) (ac.put o.dst undef) w):=by
        intro hgo hwant
        rw [if_pos hwant]
        rw [<-aOp_congr E true o.op σ (ev_same (ops:=ops) (G:=E.G) same)] at hgo
        have hs:=aOp_sound hR (ha.rho hR) true o
        refine ⟨fun _ _=>trivial,?_⟩
        have hsem:o.semAt (FR ιr E.rd).round ac.eval=execOp ac.eval o:=by
          refine semAt_run (E:=E) (σ:=σ) (lit:=true) (ρ:=(part L vals a0).ev E.G) (.inl ⟨?_,?_⟩)
          · intro d hd; rw [hd] at hgo; exact hgo
          · intro hd; rw [hd] at hgo; exact hgo
        rw [hsem]
        have hal:=allocOp_res (E:=E) (op:=o.op) (ρ:=(part L vals a0).ev E.G) (σ:=σ)
        generalize aOp E true o.op ((part L vals a0).ev E.G) σ=res at hgo hs hal
        cases res with
        | val v σ'=>
          obtain ⟨v',w',ι',H',hrun,hvr,hR',he'⟩:=hs
          rw [hrun]
          exact step (some v) σ' ι' H' w' _ (.inr (needR_mem (fun hh=>by rcases hal hh with ⟨v2,σ2,h1,h2⟩|h1<;>cases h1; exact h2) (recsOk_mem hgo.1))) _ (fun _ h=>keepR_mem h) hgo.2 hR' ((ha.ext he').put hfo hvr) (he.trans he')
        | vals l=>
          obtain ⟨p,hp,v',w',ι',H',hrun,hvr,hR',he'⟩:=hs
          rw [hrun]
          have:=hgo p hp
          exact step (some p.1) p.2 ι' H' w' _ (.inr (needR_mem (fun hh=>by rcases hal hh with ⟨v2,σ2,h1,h2⟩|h1<;>cases h1) (recsOk_mem this.1))) _ (fun _ h=>keepR_mem h) this.2 hR' ((ha.ext he').put hfo hvr) (he.trans he')
        | skip σ'=>
          obtain ⟨w',hrun,hR',hn⟩:=hs
          rw [hrun]
          have he':Ext σ.next ι H σ'.next ι H:=⟨by omega,fun _ _=>rfl,Imm.Le.refl _⟩
          exact step (some undefA) σ' ι H w' _ (.inr (needR_mem (fun hh=>by rcases hal hh with ⟨v2,σ2,h1,h2⟩|h1<;>cases h1) (recsOk_mem hgo.1))) _ (fun _ h=>keepR_mem h) hgo.2 hR' ((ha.ext he').put hfo undefA_rel) (he.trans he')
        | enter t args=>
         cases t with
         | yld b=>
          obtain ⟨args',hargs,st,pend,ps,as,bd,tm,nt,d,fn,tmps,y1,y2,y3,y4,y5,y6,hrun⟩:=hs
          rw [hrun]
          refine ⟨(fun hh=>by cases hh),RoundIn.mono (ARound.sound hgo hR hargs y1 y2 y3 y4 y5 y6 ιr) ?_⟩
          rintro ex w1 ⟨ι1,H1,σ1,ae,hq,hx,hR1,he1⟩
          cases hx with
          | ret v v' hv=>exact step (some v) σ1 ι1 H1 w1 _ (.inr (needR_mem (fun hh=>by rcases hal hh with ⟨v2,σ2,h1,h2⟩|h1<;>cases h1) (recsOk_mem hq.1))) _ (fun _ h=>keepR_mem h) hq.2 hR1 ((ha.ext he1).put hfo hv) (he.trans he1)
          | pan v v' hv=>exact ⟨ι1,H1,σ1,_,_,hq,.pan v v' hv,(ha.ext he1).le clear,hR1,he.trans he1⟩
         | fn f=>
          obtain ⟨args',hrun,hargs⟩:=hs
          rw [hrun]
          refine ⟨(fun hh=>by cases hh),callsIn_FR (Calls.mono (hgo ι H w args' hR hargs) ?_)⟩
          rintro ex w1 ⟨ι1,H1,σ1,ae,hq,hx,hR1,he1⟩
          cases hx with
          | ret v v' hv=>exact step (some v) σ1 ι1 H1 w1 _ (.inr (needR_mem (fun hh=>by rcases hal hh with ⟨v2,σ2,h1,h2⟩|h1<;>cases h1) (recsOk_mem hq.1))) _ (fun _ h=>keepR_mem h) hq.2 hR1 ((ha.ext he1).put hfo hv) (he.trans he1)
          | pan v v' hv=>exact ⟨ι1,H1,σ1,_,_,hq,.pan v v' hv,(ha.ext he1).le clear,hR1,he.trans he1⟩
        | pan v=>
          obtain ⟨v',hrun,hv⟩:=hs
          rw [hrun]
          exact ⟨ι,H,σ,_,_,hgo,.pan v v' hv,ha.le clear,hR,he⟩
        | dfr d=>exact hgo.elim
        | recov=>exact hgo.elim
        | bad=>exact hgo.elim
      split at hform
      · rename_i hg
        exact go hform (by simp [Region.wanted,hg])
      · rename_i j want hg
        split at hform
        · exact hform.elim
        · rename_i b hy
          rw [<-yield_same hg same] at hy
          have hy':=aYield_sound ha hy
          by_cases hbw:b=some want
          · exact go (hform.1 hbw) (by simp [Region.wanted,hg,hy',hbw])
          · have hnw:¬ Region.wanted o (yielded ops ac.tmps)=true:=by simp [Region.wanted,hg,hy',hbw]
            rw [if_neg hnw]
            refine ⟨fun _ _=>trivial,?_⟩
            exact step (some undefA) σ ι H w _ (.inl rfl) recs (fun _ h=>.inr h) (hform.2 hbw) hR (ha.put hfo undefA_rel) he
theorem region_drawF {id:Nat} (hm:E.P.follows .mixedOrders=true) {canon:List Nat} {n:Nat} {σ:AStore} (h1:drawOkF ops canon=true) (h2:fitsAll ops.toList a0=true)
  (h3:aDrs E ops (ancs ops canon []) K (clearAll ops.toList a0) n canon [] a0 σ):AWp E (.region id ops true) K a0 σ:=by
 have hok:=DOk.of h1
 have hfit:∀ (i:Nat) (o:Oper),ops[i]?=some o->a0.fits o.dst=true:=by
  intro i o ho
  simp only [fitsAll,List.all_eq_true] at h2
  have:=Array.mem_of_getElem? ho
  exact h2 o (by simpa using this)
 intro ι H w ac hR ha _
 refine wpIn_region_any hm ?_
 have hR':Rel E ι H σ {w with drawn:=w.drawn+1}:=hR.congr rfl ⟨rfl,rfl⟩
 have hinv:DInv E ops (ancs ops canon []) canon K a0 (fun _=>false) [] canon [] [] σ:=
  ⟨rfl,rfl,by simp,by simp,(fun i hi=>by cases hi),⟨n,h3⟩,fun v1 r v2 hv=>by simp at hv⟩
 obtain ⟨pre',suf',vals',recs',add,g1,g2,g3,g4⟩:=DInv.advance hok _ _ _ _ hinv
 refine draw_main ι hfit ops.size canon hok (fun _=>false) _ pre' suf' vals' recs' σ ι H _ ac (by simp) ?_ ?_ g1 g2 hR' ?_ (Ext.refl _ _ _)
 ·intro i hi
  rw [Array.getD_eq_getD_getElem?]
  simp [hi]
 ·rw [<-hok.len]
  exact List.length_filter_le _ _
 ·rw [g3]
  simp only [List.nil_append]
  rw [part_skip add _ g4]
  exact ha
end
end Abs.Fr
end
