/- Part of the abstract layer; it proves no statement by itself. -/
import Derived.Test.YtkhjmhdpaikokaaGreatDoorAbsV3
import Derived.Test.YtkhjmhdpaikokaaGreatDoorAbsEq
set_option linter.unusedVariables false
set_option linter.unusedSimpArgs false
set_option linter.unusedSectionVars false
noncomputable section
namespace Abs.Fr
open Go Abs
def swapN (p q b:Nat):Nat:=
 match Nat.beq b p with
 | true=>q
 | false=>match Nat.beq b q with
  | true=>p
  | false=>b
def permF (n0:Nat) (L:List Nat) (b:Nat):Nat:=
 match Nat.blt b n0 with
 | true=>b
 | false=>match L[Nat.sub b n0]? with
  | some x=>x
  | none=>b
theorem permF_low {n0:Nat} {L:List Nat} {b:Nat} (h:b < n0):permF n0 L b=b:=by
 have:Nat.blt b n0=true:=by rw [Nat.blt_eq]; exact h
 simp [permF,this]
def okP (n0 n:Nat) (L R:List Nat):Nat->Bool
 | 0=>true
 | k+1=>(Nat.blt (permF n0 R (n0+k)) n && (Nat.beq (permF n0 L (permF n0 R (n0+k))) (n0+k) && Nat.beq (permF n0 R (permF n0 L (n0+k))) (n0+k))) && okP n0 n L R k
theorem okP_spec {n0 n:Nat} {L R:List Nat}:∀ {m:Nat},okP n0 n L R m=true->∀ k,k < m->permF n0 R (n0+k) < n/\permF n0 L (permF n0 R (n0+k))=n0+k/\permF n0 R (permF n0 L (n0+k))=n0+k
 | 0,_,k,hk=>by omega
 | m+1,h,k,hk=>by
  simp only [okP,Bool.and_eq_true,Nat.blt_eq] at h
  obtain ⟨⟨h1,h2,h3⟩,h4⟩:=h
  rcases Nat.lt_or_ge k m with hk'|hk'
  ·exact okP_spec h4 k hk'
  ·obtain rfl:k=m:=by omega
   exact ⟨h1,Nat.eq_of_beq_eq_true h2,Nat.eq_of_beq_eq_true h3⟩
theorem okP_all {n0 n:Nat} {L R:List Nat} (hn:n0<=n) (h:okP n0 n L R (n - n0)=true) (b:Nat) (hb:b < n):permF n0 R b < n/\permF n0 L (permF n0 R b)=b/\permF n0 R (permF n0 L b)=b:=by
 rcases Nat.lt_or_ge b n0 with h1|h1
 ·rw [permF_low (L:=R) h1,permF_low (L:=L) h1,permF_low (L:=R) h1]
  exact ⟨hb,rfl,rfl⟩
 ·have:=okP_spec h (b - n0) (by omega)
  rwa [show n0+(b - n0)=b by omega] at this
mutual
def ren (π:Nat->Nat):AVal->AVal
 | .sc v=>.sc v
 | .ptr b i k=>.ptr (π b) i k
 | .iptr cs=>.iptr (rens π cs)
 | .slice b off len=>.slice (π b) off len
 | .view b off len=>.view (π b) off len
 | .data sz t els=>.data sz t (rens π els)
 | .map b=>.map (π b)
 | .yld b=>.yld (π b)
 | .endS b off=>.endS (π b) off
 | .func fn fs cs=>.func fn (rens π fs) (rens π cs)
 | .iface t v=>.iface t (ren π v)
 | .agg cs=>.agg (rens π cs)
 | .tuple cs=>.tuple (rens π cs)
def rens (π:Nat->Nat):List AVal->List AVal
 | []=>[]
 | v::vs=>ren π v::rens π vs
end
theorem rens_length (π:Nat->Nat):∀ l,(rens π l).length=l.length
 | []=>rfl
 | v::vs=>by simp [rens,rens_length π vs]
theorem ren_isAgg (π:Nat->Nat) (v:AVal):(ren π v).isAgg=v.isAgg:=by cases v<;>rfl
section
variable {π:Nat->Nat} {n:Nat} {ι ι':Inj} {H:Imm}
mutual
theorem VRel.ren (hπ:∀ b,b < n->π b < n/\ι' (π b)=ι b):∀ {v:AVal} {w:Value},VRel n ι H v w->VRel n ι' H (ren π v) w
 | _,_,.sc v=>.sc v
 | _,_,.ptr b i k h=>by have:=(hπ b h).2; rw [<-this]; exact .ptr (π b) i k (hπ b h).1
 | _,_,.iptr cs b o h=>.iptr _ b o (CRel.ren hπ h)
 | _,_,.slice b off len cap h hl hc=>by have:=(hπ b h).2; rw [<-this]; exact .slice (π b) off len cap (hπ b h).1 hl (by rw [this]; exact hc)
 | _,_,.view b off len h hc=>by have:=(hπ b h).2; rw [<-this]; exact .view (π b) off len (hπ b h).1 (by rw [this]; exact hc)
 | _,_,.data sz t els b o len cap hlen hl ht h=>.data sz t _ b o len cap (by rw [rens_length]; exact hlen) hl ht (DRel.ren hπ h)
 | _,_,.map b h=>by have:=(hπ b h).2; rw [<-this]; exact .map (π b) (hπ b h).1
 | _,_,.yld b h=>by have:=(hπ b h).2; rw [<-this]; exact .yld (π b) (hπ b h).1
 | _,_,.endS b off o cap h hc ho=>by have:=(hπ b h).2; rw [<-this]; exact .endS (π b) off o cap (hπ b h).1 (by rw [this]; exact hc) (by rw [this]; exact ho)
 | _,_,.func fn fs cs fs' cs' hf hc=>.func fn _ _ fs' cs' (LRel.ren hπ hf) (LRel.ren hπ hc)
 | _,_,.iface t v v' h=>.iface t _ v' (VRel.ren hπ h)
 | _,_,.agg cs cs' h=>.agg _ cs' (LRel.ren hπ h)
 | _,_,.tuple cs cs' h=>.tuple _ cs' (LRel.ren hπ h)
theorem LRel.ren (hπ:∀ b,b < n->π b < n/\ι' (π b)=ι b):∀ {vs:List AVal} {ws:List Value},LRel n ι H vs ws->LRel n ι' H (rens π vs) ws
 | _,_,.nil=>.nil
 | _,_,.cons v w vs ws h hs=>.cons _ w _ ws (VRel.ren hπ h) (LRel.ren hπ hs)
theorem CRel.ren (hπ:∀ b,b < n->π b < n/\ι' (π b)=ι b):∀ {g:Nat->Option Value} {vs:List AVal} {o:Nat},CRel n ι H g vs o->CRel n ι' H g (rens π vs) o
 | _,_,_,.nil g o=>.nil g o
 | _,_,_,.cons g v w vs o hg h hs=>.cons g _ w _ o hg (VRel.ren hπ h) (CRel.ren hπ hs)
theorem DRel.ren (hπ:∀ b,b < n->π b < n/\ι' (π b)=ι b):∀ {g:Nat->Option Value} {sz:Nat} {vs:List AVal} {o:Nat},DRel n ι H g sz vs o->DRel n ι' H g sz (rens π vs) o
 | _,_,_,_,.nil g sz o=>.nil g sz o
 | _,_,_,_,.agg g sz cs es o hsz h hs=>.agg g sz _ _ o (by rw [rens_length]; exact hsz) (CRel.ren hπ h) (DRel.ren hπ hs)
 | _,_,_,_,.one g v w es o hv hg h hs=>.one g _ w _ o (by rw [ren_isAgg]; exact hv) hg (VRel.ren hπ h) (DRel.ren hπ hs)
end
def renKs (π:Nat->Nat):List (AVal×AVal)->List (AVal×AVal)
 | []=>[]
 | (k,v)::r=>(Fr.ren π k,Fr.ren π v)::renKs π r
theorem KRel.ren (hπ:∀ b,b < n->π b < n/\ι' (π b)=ι b):∀ {kvs:List (AVal×AVal)} {es:List MapEntry},KRel n ι H kvs es->KRel n ι' H (renKs π kvs) es
 | _,_,.nil=>.nil
 | _,_,.cons k v e kvs es hk hv hs=>.cons _ _ e _ es (VRel.ren hπ hk) (VRel.ren hπ hv) (KRel.ren hπ hs)
def renT (π:Nat->Nat):T AVal->T AVal
 | .leaf=>.leaf
 | .node l v r=>.node (renT π l) (match v with|some x=>some (Fr.ren π x)|none=>none) (renT π r)
theorem renT_get (π:Nat->Nat):∀ (t:T AVal) (k:Nat),(renT π t).getS k=(t.getS k).map (Fr.ren π)
  | .leaf,k=>rfl
  | .node l v r, k => by
      simp only [renT]
      conv=>lhs; unfold T.getS
      conv=>rhs; unfold T.getS
      split
      · cases v<;>rfl
      · split
        · exact renT_get π l _
        · exact renT_get π r _
def renBlk (π:Nat->Nat):ABlk->ABlk
 | .cells sz els=>.cells sz (rens π els)
 | .map kvs clock=>.map (renKs π kvs) clock
 | .miter m since seen=>.miter (π m) since seen
 | .mitern=>.mitern
 | .siter s pos=>.siter s pos
 | .loop st pend ps as bd tm nt d=>.loop st pend ps as bd (renT π tm) nt (π d)
 | .dfd=>.dfd
theorem BlkRel.ren {w:World} {p:Place} {x:ABlk} (hπ:∀ b,b < n->π b < n/\ι' (π b)=ι b) (h:BlkRel n ι H w p x):BlkRel n ι' H w p (renBlk π x):=by
 cases x with
 | cells sz els=>
  obtain ⟨h1,h2,c,elem,fr,h3,hf,h4,h5,h6⟩:=h
  exact ⟨h1,by rw [rens_length]; exact h2,c,elem,fr,h3,hf,h4,DRel.ren hπ h5,h6⟩
 | map kvs clock=>
  obtain ⟨es,h1,h2,h3⟩:=h
  exact ⟨es,h1,KRel.ren hπ h2,h3⟩
 | miter m since seen=>
  obtain ⟨⟨h0,h0',h0''⟩,s',se',st,h1,h2,h3,h4⟩:=h
  have:=(hπ m h0).2
  refine ⟨⟨(hπ m h0).1,by rw [this]; exact h0',h0''⟩,s',se',st,by rw [this]; exact h1,h2,h3,?_⟩
  intro es clock hh
  rw [this] at hh
  exact h4 es clock hh
 | mitern=>exact h
 | siter s pos=>exact h
 | loop st pend ps as bd tm nt d=>
  obtain ⟨z,hd,fn,tmps,h1,h2,h3⟩:=h
  refine ⟨z,(hπ d hd).1,fn,tmps,by rw [(hπ d hd).2]; exact h1,h2,fun t v ht=>?_⟩
  rw [T.get_eq,renT_get] at ht
  cases hg:tm.getS t with
  | none=>rw [hg] at ht; cases ht
  | some v0=>
   rw [hg] at ht
   cases ht
   obtain ⟨g1,g2⟩:=h3 t v0 (by rw [T.get_eq]; exact hg)
   exact ⟨g1,VRel.ren hπ g2⟩
 | dfd=>exact h
end
def scEqs:List Value->List Value->Bool
 | [],[]=>true
 | a::as,b::bs=>scEq a b && scEqs as bs
 | _,_=>false
theorem scEqs_eq:∀ {a b:List Value},scEqs a b=true->a=b
  | [],[],_=>rfl
  | [],_::_,h=>by cases h
  | _::_,[],h=>by cases h
  | a :: as, b :: bs, h => by
      simp only [scEqs,Bool.and_eq_true] at h
      rw [scEq_eq h.1,scEqs_eq h.2]
def keqs:List (AVal×AVal)->List (AVal×AVal)->Bool
 | [],[]=>true
 | (a,b)::as,(c,d)::bs=>aeq a c && aeq b d && keqs as bs
 | _,_=>false
theorem keqs_eq:∀ {a b:List (AVal×AVal)},keqs a b=true->a=b
  | [],[],_=>rfl
  | [],_::_,h=>by cases h
  | _::_,[],h=>by cases h
  | (a, b) :: as, (c, d) :: bs, h => by
      simp only [keqs,Bool.and_eq_true] at h
      rw [aeq_eq h.1.1,aeq_eq h.1.2,keqs_eq h.2]
def tEq:T AVal->T AVal->Bool
 | .leaf,.leaf=>true
 | .node l v r,.node l' v' r'=>(match v,v' with|none,none=>true|some x,some y=>aeq x y|_,_=>false) && (tEq l l' && tEq r r')
 | _,_=>false
theorem tEq_eq:∀ {a b:T AVal},tEq a b=true->a=b
  | .leaf,.leaf,_=>rfl
  | .leaf,.node ..,h=>by cases h
  | .node ..,.leaf,h=>by cases h
  | .node l v r, .node l' v' r', h => by
      simp only [tEq,Bool.and_eq_true] at h
      obtain ⟨h1,h2,h3⟩:=h
      rw [tEq_eq h2,tEq_eq h3]
      cases v<;>cases v'<;>first|rfl|(cases h1; done)|(rw [aeq_eq h1])
def beqBlk:ABlk->ABlk->Bool
 | .loop st pend ps as bd tm nt d,.loop st' pend' ps' as' bd' tm' nt' d'=>decide (st=st') && (Nat.beq nt nt' && (Nat.beq d d' && (tEq tm tm' && (opEq cEq pend pend' && (arEq Nat.beq ps ps' && (cEq as as' && cEq bd bd'))))))
 | .cells sz els,.cells sz' els'=>Nat.beq sz sz' && aeqs els els'
 | .map k c,.map k' c'=>keqs k k' && Nat.beq c c'
 | .miter m s seen,.miter m' s' seen'=>Nat.beq m m' && Nat.beq s s' && scEqs seen seen'
 | .mitern,.mitern=>true
 | .dfd,.dfd=>true
 | .siter s p,.siter s' p'=>decide (s=s') && Nat.beq p p'
 | _,_=>false
theorem beqBlk_eq {a b:ABlk} (h:beqBlk a b=true):a=b:=by
 unfold beqBlk at h
 split at h
 ·simp only [Bool.and_eq_true] at h
  obtain ⟨h1,h2,h3,h4,h5,h6,h7,h8⟩:=h
  rw [of_decide_eq_true h1,nEq h2,nEq h3,tEq_eq h4,opEq_eq cEq_eq h5,arEq_eq (fun _ _ h=>nEq h) h6,cEq_eq _ _ h7,cEq_eq _ _ h8]
 ·simp only [Bool.and_eq_true] at h; rw [Nat.eq_of_beq_eq_true h.1,aeqs_eq h.2]
 ·simp only [Bool.and_eq_true] at h; rw [keqs_eq h.1,Nat.eq_of_beq_eq_true h.2]
 ·simp only [Bool.and_eq_true] at h; rw [Nat.eq_of_beq_eq_true h.1.1,Nat.eq_of_beq_eq_true h.1.2,scEqs_eq h.2]
 ·rfl
 ·rfl
 ·simp only [Bool.and_eq_true] at h; rw [of_decide_eq_true h.1,Nat.eq_of_beq_eq_true h.2]
 ·cases h
def tSub (chk:AVal->AVal->Bool):T AVal->T AVal->Bool
 | .leaf,_=>true
 | .node l v r,.leaf=>(match v with|none=>true|some _=>false) && tSub chk l .leaf && tSub chk r .leaf
 | .node l v r,.node l' v' r'=>(match v,v' with|none,_=>true|some x,some y=>chk x y|some _,none=>false) && tSub chk l l' && tSub chk r r'
theorem tSub_spec {chk:AVal->AVal->Bool}:∀ (t t':T AVal),tSub chk t t'=true->∀ k v,t.getS k=some v->∃ v',t'.getS k=some v'/\chk v v'=true
  | .leaf,_,_,k,v,h=>by simp [T.getS] at h
  | .node l x r, .leaf, h, k, v, hk => by
      simp only [tSub,Bool.and_eq_true] at h
      obtain ⟨⟨h1,h2⟩,h3⟩:=h
      unfold T.getS at hk
      split at hk
      · subst hk; cases h1
      · split at hk
        · obtain ⟨v',g,_⟩:=tSub_spec l .leaf h2 _ v hk; simp [T.getS] at g
        · obtain ⟨v',g,_⟩:=tSub_spec r .leaf h3 _ v hk; simp [T.getS] at g
  | .node l x r, .node l' x' r', h, k, v, hk => by
      simp only [tSub,Bool.and_eq_true] at h
      obtain ⟨⟨h1,h2⟩,h3⟩:=h
      unfold T.getS at hk ⊢
      split at hk
      · subst hk
        cases x' with
        | none=>cases h1
        | some y=>exact ⟨y,rfl,h1⟩
      · split at hk
        · exact tSub_spec l l' h2 _ v hk
        · exact tSub_spec r r' h3 _ v hk
mutual
def lowA (n0:Nat):AVal->Bool
 | .sc _=>true
 | .ptr b _ _=>Nat.blt b n0
 | .iptr cs=>lowAs n0 cs
 | .slice b _ _=>Nat.blt b n0
 | .view b _ _=>Nat.blt b n0
 | .data _ _ els=>lowAs n0 els
 | .map b=>Nat.blt b n0
 | .yld b=>Nat.blt b n0
 | .endS b _=>Nat.blt b n0
 | .func _ fs cs=>lowAs n0 fs && lowAs n0 cs
 | .iface _ v=>lowA n0 v
 | .agg cs=>lowAs n0 cs
 | .tuple cs=>lowAs n0 cs
def lowAs (n0:Nat):List AVal->Bool
 | []=>true
 | v::vs=>lowA n0 v && lowAs n0 vs
end
mutual
theorem ren_low {n0:Nat} {π:Nat->Nat} (hπ:∀ b,b < n0->π b=b):∀ {v:AVal},lowA n0 v=true->ren π v=v
 | .sc v,_=>rfl
 | .ptr b i k,h=>by simp only [lowA,Nat.blt_eq] at h; simp only [ren,hπ b h]
 | .iptr cs,h=>by simp only [lowA] at h; simp only [ren,rens_low hπ h]
 | .slice b o l,h=>by simp only [lowA,Nat.blt_eq] at h; simp only [ren,hπ b h]
 | .view b o l,h=>by simp only [lowA,Nat.blt_eq] at h; simp only [ren,hπ b h]
 | .data s t els,h=>by simp only [lowA] at h; simp only [ren,rens_low hπ h]
 | .map b,h=>by simp only [lowA,Nat.blt_eq] at h; simp only [ren,hπ b h]
 | .yld b,h=>by simp only [lowA,Nat.blt_eq] at h; simp only [ren,hπ b h]
 | .endS b o,h=>by simp only [lowA,Nat.blt_eq] at h; simp only [ren,hπ b h]
 | .func f a b,h=>by simp only [lowA,Bool.and_eq_true] at h; simp only [ren,rens_low hπ h.1,rens_low hπ h.2]
 | .iface t v,h=>by simp only [lowA] at h; simp only [ren,ren_low hπ h]
 | .agg cs,h=>by simp only [lowA] at h; simp only [ren,rens_low hπ h]
 | .tuple cs,h=>by simp only [lowA] at h; simp only [ren,rens_low hπ h]
theorem rens_low {n0:Nat} {π:Nat->Nat} (hπ:∀ b,b < n0->π b=b):∀ {vs:List AVal},lowAs n0 vs=true->rens π vs=vs
 | [],_=>rfl
 | v::vs,h=>by simp only [lowAs,Bool.and_eq_true] at h; simp only [rens,ren_low hπ h.1,rens_low hπ h.2]
end
def lowKs (n0:Nat):List (AVal×AVal)->Bool
 | []=>true
 | (k,v)::r=>lowA n0 k && lowA n0 v && lowKs n0 r
theorem renKs_low {n0:Nat} {π:Nat->Nat} (hπ:∀ b,b < n0->π b=b):∀ {l:List (AVal×AVal)},lowKs n0 l=true->renKs π l=l
 | [],_=>rfl
 | (k,v)::r,h=>by simp only [lowKs,Bool.and_eq_true] at h; simp only [renKs,ren_low hπ h.1.1,ren_low hπ h.1.2,renKs_low hπ h.2]
def lowBlk (n0:Nat):ABlk->Bool
 | .cells _ els=>lowAs n0 els
 | .map kvs _=>lowKs n0 kvs
 | .miter m _ _=>Nat.blt m n0
 | .mitern=>true
 | .siter _ _=>true
 | .loop ..=>false
 | .dfd=>true
theorem renBlk_low {n0:Nat} {π:Nat->Nat} (hπ:∀ b,b < n0->π b=b) {x:ABlk} (h:lowBlk n0 x=true):renBlk π x=x:=by
 cases x with
 | cells sz els=>simp only [lowBlk] at h; simp only [renBlk,rens_low hπ h]
 | map kvs c=>simp only [lowBlk] at h; simp only [renBlk,renKs_low hπ h]
 | miter m s seen=>simp only [lowBlk,Nat.blt_eq] at h; simp only [renBlk,hπ m h]
 | mitern=>rfl
 | siter s p=>rfl
 | loop=>cases h
 | dfd=>rfl
def chkV (n0:Nat) (R:List Nat) (x y:AVal):Bool:=
 match lowA n0 y with
 | true=>aeq x y
 | false=>aeq x (ren (permF n0 R) y)
theorem chkV_eq {n0:Nat} {R:List Nat} {x y:AVal} (h:chkV n0 R x y=true):x=ren (permF n0 R) y:=by
 unfold chkV at h
 split at h
 ·rename_i hl; rw [ren_low (fun b hb=>permF_low hb) hl]; exact aeq_eq h
 ·exact aeq_eq h
def chkB (n0:Nat) (R:List Nat) (x y:ABlk):Bool:=
 match lowBlk n0 y with
 | true=>beqBlk x y
 | false=>beqBlk x (renBlk (permF n0 R) y)
theorem chkB_eq {n0:Nat} {R:List Nat} {x y:ABlk} (h:chkB n0 R x y=true):x=renBlk (permF n0 R) y:=by
 unfold chkB at h
 split at h
 ·rename_i hl; rw [renBlk_low (fun b hb=>permF_low hb) hl]; exact beqBlk_eq h
 ·exact beqBlk_eq h
def sSub (n0:Nat) (L R:List Nat) (σ1 σ2:AStore):List Nat->Bool
 | []=>true
 | b::r=>(match σ1.get b with
  | none=>true
  | some x=>match σ2.get (permF n0 L b) with
   | some y=>chkB n0 R x y
   | none=>false) && sSub n0 L R σ1 σ2 r
theorem sSub_spec {n0:Nat} {L R:List Nat} {σ1 σ2:AStore}:∀ {l:List Nat},sSub n0 L R σ1 σ2 l=true->∀ b∈l,∀ x,σ1.get b=some x->∃ y,σ2.get (permF n0 L b)=some y/\x=renBlk (permF n0 R) y
  | [],_,b,hb=>by simp at hb
  | c :: r, h, b, hb => by
      simp only [sSub,Bool.and_eq_true] at h
      simp at hb
      rcases hb with rfl|hb
      · intro x hx
        rw [hx] at h
        have h1:=h.1
        simp only [] at h1
        split at h1
        · rename_i y hy; exact ⟨y,hy,chkB_eq h1⟩
        · cases h1
      · exact sSub_spec h.2 b hb
def tySub (n:Nat) (τ:Nat->Nat) (l1 l2:List (Nat×Nat)):Bool:=l1.all fun p=>Nat.blt p.1 n && hasTy l2 (τ p.1) p.2
def simO (n0:Nat) (L R:List Nat) (o1 o2:Out):Bool:=
 match o1,o2 with
 | (.normal,a1,σ1),(.normal,a2,σ2)=>
  Nat.beq σ1.next σ2.next && Nat.ble n0 σ1.next && okP n0 σ1.next L R (σ1.next - n0) && Nat.beq a1.n a2.n && a1.defers.isEmpty && a2.defers.isEmpty &&
   tSub (chkV n0 R) a1.tmps a2.tmps && sSub n0 L R σ1 σ2 (List.range σ1.next) && tySub σ1.next (permF n0 L) σ1.tys σ2.tys
 | _,_=>false
theorem simO_sound {E:Env} (hG:∀ g,WF 0 (E.G g)) {n0:Nat} {L R:List Nat} {ι0:Inj} {H0:Imm} {o1 o2:Out} (h:simO n0 L R o1 o2=true):o1.1=.normal/\o2.1=.normal/\
  ∀ {ι:Inj} {H:Imm} {w:World} {ac:Act},Rel E ι H o2.2.2 w->ActRel o2.2.2.next ι H o2.2.1 ac->Ext n0 ι0 H0 o2.2.2.next ι H->
   ∃ ι',Rel E ι' H o1.2.2 w/\ActRel o1.2.2.next ι' H o1.2.1 ac/\Ext n0 ι0 H0 o1.2.2.next ι' H:=by
 unfold simO at h
 split at h
 ·rename_i a1 σ1 a2 σ2
  simp only [Bool.and_eq_true,Nat.ble_eq] at h
  obtain ⟨⟨⟨⟨⟨⟨⟨⟨h1,h2⟩,h3⟩,h6⟩,h7⟩,h8⟩,h9⟩,h10⟩,h11⟩:=h
  have hn:=Nat.eq_of_beq_eq_true h1
  have hP:=okP_all h2 h3
  refine ⟨rfl,rfl,?_⟩
  intro ι H w ac hR ha he
  simp only [] at hR ha he ⊢
  rw [<-hn] at ha he
  have hπ:∀ b,b < σ1.next->permF n0 R b < σ1.next/\(fun b=>ι (permF n0 L b)) (permF n0 R b)=ι b:=
   fun b hb=>⟨(hP b hb).1,by simp only [(hP b hb).2.1]⟩
  refine ⟨fun b=>ι (permF n0 L b),?_,?_,?_⟩
  ·have get:∀ b x,σ1.get b=some x->∃ y,σ2.get (permF n0 L b)=some y/\x=renBlk (permF n0 R) y:=
    fun b x hx=>sSub_spec h10 b (by simpa using AStore.lt_of_get hx) x hx
   refine ⟨hR.imm,?_,?_,?_,hR.keep,?_⟩
   rotate_left 3
   ·intro b t hb
    unfold tySub at h11
    rw [List.all_eq_true] at h11
    have:=h11 (b,t) hb
    simp only [Bool.and_eq_true,Nat.blt_eq] at this
    obtain ⟨_,g2,g3⟩:=hR.tys _ _ (hasTy_mem this.2)
    exact ⟨this.1,g2,g3⟩
   ·intro b x hx
    obtain ⟨y,hy,rfl⟩:=get b x hx
    obtain ⟨g1,g2,g3⟩:=hR.live _ y hy
    rw [<-hn] at g1
    exact ⟨BlkRel.ren hπ g1,g2,g3⟩
   ·intro b b' x x' hx hx' hb
    obtain ⟨y,hy,_⟩:=get b x hx
    obtain ⟨y',hy',_⟩:=get b' x' hx'
    have:=hR.inj _ _ y y' hy hy' hb
    have h2:=congrArg (permF n0 R) this
    rwa [(hP b (AStore.lt_of_get hx)).2.2,(hP b' (AStore.lt_of_get hx')).2.2] at h2
   ·intro g
    exact (hR.glob g).mono (m:=0) (fun b hb=>by omega) (Nat.zero_le _) (Imm.Le.refl H).cle (hG g)
  ·refine ⟨ha.size.trans (Nat.eq_of_beq_eq_true h6).symm,?_,?_⟩
   ·intro t v ht
    rw [T.get_eq] at ht
    obtain ⟨v',hv',hc⟩:=tSub_spec _ _ h9 t v ht
    obtain ⟨g1,g2⟩:=ha.tmps t v' (by rw [T.get_eq]; exact hv')
    rw [chkV_eq hc]
    exact ⟨by rw [Nat.eq_of_beq_eq_true h6]; exact g1,VRel.ren hπ g2⟩
   ·have hd:=ha.defers
    have e1:a1.defers=[]:=List.isEmpty_iff.1 h7
    have e2:a2.defers=[]:=List.isEmpty_iff.1 h8
    rw [e2] at hd
    rw [e1]
    cases hh:ac.defers with
    | nil=>exact .nil
    | cons x xs=>rw [hh] at hd; cases hd
  ·exact ⟨he.next,fun b hb=>by show ι (permF n0 L b)=_; rw [permF_low hb]; exact he.inj b hb,he.imm⟩
 ·cases h
def hdB:AVal->Option Nat
 | .ptr b _ _|.slice b _ _|.view b _ _|.map b|.yld b|.endS b _=>some b
 | _=>none
def tmPairs:T AVal->T AVal->List (AVal×AVal)
 | .node l v r,.node l' v' r'=>
  match v,v' with
  | some x,some y=>(x,y)::(tmPairs l l'++tmPairs r r')
  | _,_=>tmPairs l l'++tmPairs r r'
 | _,_=>[]
def kvPairs:List (AVal×AVal)->List (AVal×AVal)->List (AVal×AVal)
 | (k,v)::l,(k',v')::l'=>(k,k')::(v,v')::kvPairs l l'
 | _,_=>[]
def blkPairs:Option ABlk->Option ABlk->List (AVal×AVal)
 | some (.cells _ a),some (.cells _ b)=>List.zip a b
 | some (.map a _),some (.map b _)=>kvPairs a b
 | some (.miter m _ _),some (.miter m' _ _)=>[(.map m,.map m')]
 | some (.loop _ _ _ _ _ tm _ d),some (.loop _ _ _ _ _ tm' _ d')=>(.yld d,.yld d')::tmPairs tm tm'
 | _,_=>[]
def hasB (b:Nat):List (Nat×Nat)->Bool
 | []=>false
 | p::r=>match Nat.beq p.1 b with
  | true=>true
  | false=>hasB b r
def match2 (n0:Nat) (σ1 σ2:AStore):Nat->List (AVal×AVal)->List (Nat×Nat)->List (Nat×Nat)
 | 0,_,acc=>acc
 | _+1,[],acc=>acc
 | f+1,(x,y)::r,acc=>
  match x,y with
  | .agg xs,.agg ys=>match2 n0 σ1 σ2 f (List.zip xs ys++r) acc
  | .tuple xs,.tuple ys=>match2 n0 σ1 σ2 f (List.zip xs ys++r) acc
  | .iface _ v,.iface _ v'=>match2 n0 σ1 σ2 f ((v,v')::r) acc
  | .func _ a b,.func _ a' b'=>match2 n0 σ1 σ2 f (List.zip a a'++(List.zip b b'++r)) acc
  | x,y=>match hdB x,hdB y with
   | some b,some b'=>match Nat.blt b n0 || hasB b acc with
    | true=>match2 n0 σ1 σ2 f r acc
    | false=>match2 n0 σ1 σ2 f (blkPairs (σ1.get b) (σ2.get b')++r) ((b,b')::acc)
   | _,_=>match2 n0 σ1 σ2 f r acc
def lookB (b:Nat):List (Nat×Nat)->Option Nat
 | []=>none
 | p::r=>match Nat.beq p.1 b with
  | true=>some p.2
  | false=>lookB b r
def swapP:List (Nat×Nat)->List (Nat×Nat)
 | []=>[]
 | p::r=>(p.2,p.1)::swapP r
def freeB (acc:List (Nat×Nat)):Nat->Nat->List Nat
 | 0,_=>[]
 | k+1,b=>match hasB b acc with
  | true=>freeB acc k (b+1)
  | false=>b::freeB acc k (b+1)
def fillB (acc:List (Nat×Nat)):Nat->Nat->List Nat->List Nat
 | 0,_,_=>[]
 | k+1,b,fs=>match lookB b acc with
  | some x=>x::fillB acc k (b+1) fs
  | none=>match fs with
   | x::fs=>x::fillB acc k (b+1) fs
   | []=>b::fillB acc k (b+1) []
def permOf (n0 k:Nat) (acc:List (Nat×Nat)):List Nat×List Nat:=
 (fillB acc k n0 (freeB (swapP acc) k n0),fillB (swapP acc) k n0 (freeB acc k n0))
def oldPairs (σ1 σ2:AStore):Nat->List (AVal×AVal)
 | 0=>[]
 | b+1=>blkPairs (σ1.get b) (σ2.get b)++oldPairs σ1 σ2 b
def simG (n0:Nat) (o1 o:Out) (acc:List (Nat×Nat)):Bool:=
 match permOf n0 (Nat.sub o1.2.2.next n0) acc with
 | (L,R)=>simO n0 L R o1 o
def simX (n0:Nat) (o1 o:Out):Bool:=
 simG n0 o1 o (match2 n0 o1.2.2 o.2.2 3000 (tmPairs o1.2.1.tmps o.2.1.tmps) []) ||
 simG n0 o1 o (match2 n0 o1.2.2 o.2.2 6000 (tmPairs o1.2.1.tmps o.2.1.tmps++oldPairs o1.2.2 o.2.2 n0) [])
theorem simX_spec {n0:Nat} {o1 o:Out} (h:simX n0 o1 o=true):∃ L R,simO n0 L R o1 o=true:=by
 unfold simX at h
 simp only [Bool.or_eq_true] at h
 rcases h with h|h<;>exact ⟨_,_,h⟩
def prune (n0:Nat):List Out->List Out
 | []=>[]
 | o::os=>match (prune n0 os).any (fun o1=>simX n0 o1 o) with
  | true=>prune n0 os
  | false=>o::prune n0 os
theorem prune_spec {n0:Nat}:∀ {l:List Out} {o:Out},o∈l->o∈prune n0 l\/∃ o1∈prune n0 l,∃ L R,simO n0 L R o1 o=true
  | [],o,h=>by simp at h
  | x :: l, o, h => by
      unfold prune
      simp at h
      cases hx:(prune n0 l).any (fun o1=>simX n0 o1 x) with
      | true=>
        rcases h with rfl|h
        · rw [List.any_eq_true] at hx
          obtain ⟨o1,h1,h2⟩:=hx
          exact .inr ⟨o1,h1,simX_spec h2⟩
        · exact prune_spec h
      | false=>
        rcases h with rfl|h
        · exact .inl (by simp)
        · rcases prune_spec (n0:=n0) h with h|⟨o1,h1,h2⟩
          · exact .inl (by simp [h])
          · exact .inr ⟨o1,by simp [h1],h2⟩
theorem AWp.prune {E:Env} (hG:∀ g,WF 0 (E.G g)) {c:Code} {a:AAct} {σ:AStore} {outs:List Out} {Q:APred} (h:AWp E c (fun e a σ=>(e,a,σ)∈outs) a σ) (hQ:∀ o∈Fr.prune σ.next outs,Q o.1 o.2.1 o.2.2):AWp E c Q a σ:=by
 intro ι H w ac hR ha hr
 refine wpIn_mono (h ι H w ac hR ha hr) ?_
 rintro e ac' w' ⟨ι',H',σ',a',ae,hm,hx,ha',hR',he⟩
 rcases prune_spec (n0:=σ.next) hm with hm|⟨o1,h1,L,R,hs⟩
 ·exact ⟨ι',H',σ',a',ae,hQ _ hm,hx,ha',hR',he⟩
 ·obtain ⟨e1,e2,hh⟩:=simO_sound (ι0:=ι) (H0:=H) hG hs
  obtain ⟨ι'',g1,g2,g3⟩:=hh hR' ha' he
  simp only [] at e2
  subst e2
  have hq:=hQ _ h1
  rw [e1] at hq
  cases hx
  exact ⟨ι'',H',o1.2.2,o1.2.1,.normal,hq,.normal,g2,g1,g3⟩
end Abs.Fr
end
