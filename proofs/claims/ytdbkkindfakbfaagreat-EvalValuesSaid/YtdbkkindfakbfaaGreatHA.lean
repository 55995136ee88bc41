/-
  Functions of the program walked: each is shown to compute a plain function (HA).
-/
import Derived.Test.YtdbkkindfakbfaaGreatEvL
import Derived.Test.YtdbkkindfakbfaaGreatEvP
import Derived.Test.YtdbkkindfakbfaaGreatEvG
set_option linter.unusedSimpArgs false
set_option linter.unusedVariables false
set_option maxRecDepth 100000
set_option maxHeartbeats 16000000
set_option linter.unusedSectionVars false
noncomputable section
namespace Abs
open Go Go.Proofs
def nmsF (o:Fr):List ByteArray:=o.map (·.1)
theorem nmsF_app {a b:Fr}:nmsF (a++b)=nmsF a++nmsF b:=by simp [nmsF]
theorem fset_app {k:ByteArray} {v:Int}:∀ {o:Fr},k ∉ nmsF o->fset o k v=o++[(k,v)]
  | [],_=>rfl
  | p :: o, h => by
      simp only [nmsF,List.map_cons,List.mem_cons,not_or] at h
      have:=fset_app (v:=v) (o:=o) h.2
      simp only [fset,if_neg (Ne.symm h.1),this,List.cons_append]
theorem fset_map {k:ByteArray} {v:Int}:∀ {o:Fr},(nmsF o).Nodup->k∈nmsF o->fset o k v=o.map fun p=>if p.1=k then (p.1,v) else p
  | [],_,h=>by cases h
  | p :: o, hn, h => by
      simp only [nmsF,List.map_cons,List.nodup_cons] at hn h
      by_cases hk:p.1=k
      · have:o.map (fun p=>if p.1=k then (p.1,v) else p)=o:=by
          conv=>rhs; rw [<-List.map_id o]
          refine List.map_congr_left fun q hq=>?_
          rw [if_neg]
          · rfl
          · intro hqk
            exact hn.1 (List.mem_map.2 ⟨q,hq,hqk.trans hk.symm⟩)
        subst hk; simp only [fset,if_true,List.map_cons,this]
      · have:=fset_map (v:=v) (o:=o) hn.2 ((List.mem_cons.1 h).resolve_left (Ne.symm hk))
        simp only [fset,if_neg hk,List.map_cons,this]
theorem fset_nms {k:ByteArray} {v:Int}:∀ {o:Fr},k∈nmsF o->nmsF (fset o k v)=nmsF o
  | [],h=>by cases h
  | p :: o, h => by
      by_cases hk:p.1=k
      · simp [fset,hk,nmsF]
      · simp only [nmsF,List.map_cons,List.mem_cons] at h
        have:=fset_nms (v:=v) (o:=o) (h.resolve_left (Ne.symm hk))
        simp only [nmsF] at this
        simp only [fset,if_neg hk,nmsF,List.map_cons,this]
theorem fdel_mid:∀ {a ms:List ByteArray} {o:Fr} {m:ByteArray},nmsF o=a++m::ms->m ∉ a->fdel o m=o.take a.length++o.drop (a.length+1)
  | [],ms,[],m,h,_=>by simp [nmsF] at h
  | [], ms, p :: o, m, h, _ => by
      simp only [nmsF,List.map_cons,List.nil_append,List.cons.injEq] at h
      simp [fdel,h.1]
  | x::a,ms,[],m,h,_=>by simp [nmsF] at h
  | x :: a, ms, p :: o, m, h, hm => by
      simp only [nmsF,List.map_cons,List.cons_append,List.cons.injEq] at h
      simp only [List.mem_cons,not_or] at hm
      have:=fdel_mid (a:=a) (ms:=ms) (o:=o) h.2 hm.2
      have hne:p.1≠m:=by rw [h.1]; exact Ne.symm hm.1
      simp only [fdel,if_neg hne,this,List.length_cons,List.take_succ_cons,List.drop_succ_cons,List.cons_append]
/-- Names that were made are forgotten: what was there before is left. -/
theorem fdels_take:∀ {made a:List ByteArray} {o:Fr},nmsF o=a++made->(nmsF o).Nodup->fdels o made=o.take a.length
  | [], a, o, h, _ => by
      rw [List.append_nil] at h
      have:o.length=a.length:=by rw [<-h]; simp [nmsF]
      rw [<-this,List.take_length]; rfl
  | m :: ms, a, o, h, hn => by
      have hm:m ∉ a:=by
        rw [h,List.nodup_append] at hn
        exact fun hc=>hn.2.2 m hc m (by simp) rfl
      have h1:=fdel_mid h hm
      have hl:(nmsF o).length=o.length:=by simp [nmsF]
      have hle:a.length < o.length:=by rw [<-hl,h]; simp
      have h2:nmsF (fdel o m)=a++ms:=by
        rw [h1,nmsF_app]
        have e1:nmsF (o.take a.length)=a:=by
          simp only [nmsF,List.map_take]
          rw [show o.map (·.1)=a++m::ms from h]; simp
        have e2:nmsF (o.drop (a.length+1))=ms:=by
          simp only [nmsF,List.map_drop]
          rw [show o.map (·.1)=a++m::ms from h]; simp [List.drop_append]
        rw [e1,e2]
      show fdels (fdel o m) ms=_
      rw [fdels_take h2 (by rw [h2]; rw [h,List.nodup_append] at hn; rw [List.nodup_append]; exact ⟨hn.1,(List.nodup_cons.1 hn.2.1).2,fun x hx y hy=>hn.2.2 x hx y (List.mem_cons_of_mem _ hy)⟩),h1]
      rw [List.take_append_of_le_length (by rw [List.length_take]; omega),List.take_take,Nat.min_self]
theorem fget_none {k:ByteArray}:∀ {o:Fr},k ∉ nmsF o->fget o k=none
  | [],_=>rfl
  | p :: o, h => by
      simp only [nmsF,List.map_cons,List.mem_cons,not_or] at h
      simp only [fget,if_neg (Ne.symm h.1),fget_none h.2]
theorem fget_at {p:ByteArray×Int}:∀ {o:Fr} {i:Nat},(nmsF o).Nodup->o[i]?=some p->fget o p.1=some p.2
  | [],i,_,h=>by simp at h
  | q :: o, 0, _, h => by
      simp at h; subst h
      simp [fget]
  | q :: o, i + 1, hn, h => by
      simp only [nmsF,List.map_cons,List.nodup_cons] at hn
      simp only [List.getElem?_cons_succ] at h
      have hne:q.1≠p.1:=fun hc=>hn.1 (by rw [hc]; exact List.mem_map.2 ⟨p,List.mem_of_getElem? h,rfl⟩)
      simp only [fget,if_neg hne,fget_at hn.2 h]
theorem gval_get {s:ByteArray}:∀ gl:List (ByteArray×Int),gval gl s=(fget gl s).getD 0
  | []=>rfl
  | p :: gl => by
      simp only [gval,fget]
      split
      · rfl
      · exact gval_get gl
theorem fcOf_app {l r:List Fc} {nm:ByteArray} {f:Fc} (h:fcOf l nm=some f):fcOf (l++r) nm=some f:=by
 unfold fcOf at h ⊢
 rw [List.find?_append,h]; rfl
section
variable {g:List ByteArray} {l r:List Fc}
mutual
theorem expE_plus {o:List ByteArray}:∀ {x:Ex},expE g o l x=0->expE g o (l++r) x=0
  | .mk k nm i zs, h => by
      unfold expE at h ⊢
      split at h
      · rename_i h0
        rw [expEs_plus h0]
        show (if k=2 then _ else _)=_
        split
        · rename_i hk; rw [if_pos hk] at h; exact h
        · rename_i hk
          rw [if_neg hk] at h
          split
          · rename_i hk2
            rw [if_pos hk2] at h
            cases hf:fcOf l nm with
            | none=>rw [hf] at h; cases h
            | some f=>rw [hf] at h; rw [fcOf_app hf]; exact h
          · rfl
      · rename_i h0; exact absurd h h0
theorem expEs_plus {o:List ByteArray}:∀ {xs:List Ex},expEs g o l xs=0->expEs g o (l++r) xs=0
  | [],_=>rfl
  | x :: xs, h => by
      unfold expEs at h ⊢
      split at h
      · rename_i h0
        rw [expE_plus h0]
        exact expEs_plus h
      · rename_i h0; exact absurd h h0
end
mutual
theorem stE_plus:∀ {x:St} {o:List ByteArray},stE g o l x=0->stE g o (l++r) x=0
  | .mk k nm v b e, o, h => by
      unfold stE at h ⊢
      split at h
      · rename_i h0
        rw [expE_plus h0]
        split at h
        · cases h
        · rename_i hc
          rw [if_neg hc]
          split at h
          · rename_i h1
            rw [stEs_plus h1]
            exact stEs_plus h
          · rename_i h1; exact absurd h h1
      · rename_i h0; exact absurd h h0
theorem stEs_plus:∀ {xs:List St} {o:List ByteArray},stEs g o l xs=0->stEs g o (l++r) xs=0
  | [],_,_=>rfl
  | .mk k nm v b e :: xs, o, h => by
      unfold stEs at h ⊢
      split at h
      · rename_i h0
        rw [stE_plus h0]
        exact stEs_plus h
      · rename_i h0; exact absurd h h0
end
end
theorem parsBad_ok {g:List ByteArray}:∀ {ps o:List ByteArray},parsBad g o ps=false->o.Nodup->(o++ps).Nodup
  | [],o,_,h=>by simpa using h
  | p :: ps, o, h, ho => by
      unfold parsBad at h
      simp only [Bool.or_eq_false_iff,decide_eq_false_iff_not,not_or] at h
      have:=parsBad_ok (o:=o++[p]) h.2 (by
        rw [List.nodup_append]
        refine ⟨ho,by simp,fun a ha b hb hab=>?_⟩
        simp only [List.mem_singleton] at hb
        subst hb; subst hab
        exact h.1.2 ha)
      simpa using this
/-- Functions without static errors. -/
def FnTy (g:List ByteArray) (fs:List Fc):Prop:=∀ f∈fs,f.ps.Nodup/\stEs g f.ps fs f.body=0
theorem fnE_ty {g:List ByteArray} {d r:List Fc} {f:Fc} (h:fnE g d f=0):f.ps.Nodup/\stEs g f.ps (d++r) f.body=0:=by
 unfold fnE at h
 split at h
 ·cases h
 ·split at h
  ·cases h
  ·rename_i hp
   have hp:parsBad g [] f.ps=false:=by simpa using hp
   split at h
   ·rename_i h0
    exact ⟨by simpa using parsBad_ok hp List.nodup_nil,stEs_plus h0⟩
   ·rename_i h0; exact absurd h h0
theorem goF_ty {g:List ByteArray} {fs:List Fc}:∀ (r d:List Fc),(goF g d r).2=0->fs=d++r->(∀ f∈d,f.ps.Nodup/\stEs g f.ps fs f.body=0)->FnTy g fs
  | [],d,_,hfs,hd=>by rw [List.append_nil] at hfs; subst hfs; exact hd
  | f :: r, d, h, hfs, hd => by
      rw [goF_cons] at h
      by_cases h0:fnE g d f=0
      · rw [if_pos h0] at h
        refine goF_ty r (d++[f]) h (by rw [hfs]; simp) fun f' hf'=>?_
        rcases List.mem_append.1 hf' with h1|h1
        · exact hd f' h1
        · simp only [List.mem_singleton] at h1
          subst h1
          rw [hfs]
          exact fnE_ty h0
      · rw [if_neg h0] at h; exact absurd h h0
theorem expP_ty {x:Ex} {g:List ByteArray} {l:List Fc} (h:expP nameB x g l=0):expE g [] l x=0/\FnTy g l:=by
 rw [expP_if] at h
 split at h
 ·split at h
  ·rename_i h2
   have hc:checkF nameB l=0:=by
    unfold funcsP at h2
    split at h2
    ·assumption
    ·exact h2
   have hgo:(goF g [] l).2=0:=by
    unfold funcsP at h2
    rw [hc] at h2
    exact h2
   exact ⟨h,goF_ty l [] hgo rfl fun f hf=>by cases hf⟩
  ·rename_i h2; exact absurd h h2
 ·rename_i h1; exact absurd h h1
theorem expE_args {g o:List ByteArray} {l:List Fc} {k i:Int} {nm:ByteArray} {zs:List Ex} (h:expE g o l (.mk k nm i zs)=0):
  (∀ z∈zs,expE g o l z=0)/\(k=19->∃ f,fcOf l nm=some f/\f.ps.length=zs.length):=by
 unfold expE at h
 split at h
 ·rename_i h0
  refine ⟨?_,fun hk=>?_⟩
  ·clear h
   induction zs with
   | nil=>intro z hz; cases hz
   | cons x xs ih=>
    unfold expEs at h0
    split at h0
    ·rename_i h1
     intro z hz
     rcases List.mem_cons.1 hz with rfl|hz
     ·exact h1
     ·exact ih h0 z hz
    ·rename_i h1; exact absurd h0 h1
  ·subst hk
   rw [if_neg (by decide),if_pos rfl] at h
   cases hf:fcOf l nm with
   | none=>rw [hf] at h; cases h
   | some f=>
    rw [hf] at h
    dsimp only at h
    split at h
    ·rename_i h1; exact ⟨f,rfl,h1⟩
    ·cases h
 ·rename_i h0; exact absurd h h0
theorem stEs_cut {g o:List ByteArray} {l:List Fc} {k:Int} {nm:ByteArray} {v:Ex} {b e:List St} {xs:List St} (h:stEs g o l (.mk k nm v b e::xs)=0):
  expE g o l v=0/\(k=1->nm ∉ o)/\(k=2->nm∈o)/\stEs g (if k=1 then o++[nm] else o) l b=0/\stEs g (if k=1 then o++[nm] else o) l e=0/\stEs g (if k=1 then o++[nm] else o) l xs=0:=by
 unfold stEs at h
 split at h
 ·rename_i h0
  unfold stE at h0
  split at h0
  ·rename_i h1
   split at h0
   ·cases h0
   ·rename_i h2
    split at h0
    ·rename_i h3
     refine ⟨h1,fun hk hm=>h2 (.inl ⟨hk,.inr hm⟩),fun hk=>?_,h3,h0,h⟩
     rcases Decidable.em (nm∈o) with hm|hm
     ·exact hm
     ·exact absurd (.inr ⟨hk,hm⟩) h2
    ·rename_i h3; exact absurd h0 h3
  ·rename_i h1; exact absurd h0 h1
 ·rename_i h0; exact absurd h h0
/-- The frame of a call. -/
theorem frG_nms {vs:List Int}:∀ (ps:List ByteArray) (i:Nat) {o:Fr},(nmsF o++ps).Nodup->nmsF (frG vs ps i o)=nmsF o++ps
  | [],_,o,_=>by simp [frG]
  | p :: ps, i, o, h => by
      have hp:p ∉ nmsF o:=by
        rw [List.nodup_append] at h
        exact fun hc=>h.2.2 p hc p (by simp) rfl
      show nmsF (frG vs ps (i+1) (fset o p (vAt vs i)))=_
      have e:nmsF (fset o p (vAt vs i))=nmsF o++[p]:=by rw [fset_app hp,nmsF_app]; rfl
      rw [frG_nms ps (i+1) (by rw [e]; simpa using h),e]
      simp
def nA (p:ByteArray×Int):AVal:=.agg [.sc (.string p.1),(.sc (.int .i64 (p.2)))]
/-- A list of names and values in memory, in a block not below 'm'. -/
def NmR (m:Nat) (σ:AStore) (S:AVal) (o:Fr):Prop:=(o=[]/\(S=(.sc (.slice none 0 0))\/S=.data 2 true []))\/∃ b els,m<=b/\S=.slice b 0 o.length/\σ.get b=some (.cells 2 els)/\els.take o.length=o.map nA
section
variable {m m':Nat} {σ τ:AStore} {S:AVal} {o:Fr}
theorem NmR.nil:NmR m σ (.sc (.slice none 0 0)) []:=.inl ⟨rfl,.inl rfl⟩
theorem NmR.keep (h:NmR m σ S o) (hk:∀ b y,m<=b->σ.get b=some y->τ.get b=some y):NmR m τ S o:=by
 rcases h with h|⟨b,els,h1,h2,h3,h4⟩
 ·exact .inl h
 ·exact .inr ⟨b,els,h1,h2,hk _ _ h1 h3,h4⟩
theorem NmR.low (h:NmR m σ S o) (hm:m'<=m):NmR m' σ S o:=by
 rcases h with h|⟨b,els,h1,h2,h3,h4⟩
 ·exact .inl h
 ·exact .inr ⟨b,els,vom,h2,h3,h4⟩
theorem NmR.len (h:NmR m σ S o) {τ:AStore}:aLen (.slice 0) S τ=some (.sc (.int .i64 (o.length))):=by
 rcases h with ⟨rfl,rfl|rfl⟩|⟨b,els,h1,rfl,h3,h4⟩<;>rfl
theorem NmR.fit (h:NmR m σ S o):S.fit=true:=by
 rcases h with ⟨rfl,rfl|rfl⟩|⟨b,els,h1,rfl,h3,h4⟩<;>rfl
theorem NmR.cells (h:NmR m σ S o):S.cells=[S]:=by
 rcases h with ⟨rfl,rfl|rfl⟩|⟨b,els,h1,rfl,h3,h4⟩<;>rfl
theorem NmR.isCell (h:NmR m σ S o):S.isCell=true:=by
 rcases h with ⟨rfl,rfl|rfl⟩|⟨b,els,h1,rfl,h3,h4⟩<;>rfl
theorem take_get {els:List AVal} {n:Nat} {l:List AVal} (h:els.take n=l) {i:Nat} {x:AVal} (hx:l[i]?=some x):els[i]?=some x:=by
 subst h
 rw [List.getElem?_take] at hx
 split at hx
 ·exact hx
 ·cases hx
/-- Where an element lies. -/
theorem NmR.at (h:NmR m σ S o) {i:Nat} {p:ByteArray×Int} (hp:o[i]?=some p):∃ b els,m<=b/\S=.slice b 0 o.length/\σ.get b=some (.cells 2 els)/\els[i]?=some (nA p)/\els.take o.length=o.map nA:=by
 rcases h with ⟨rfl,_⟩|⟨b,els,h1,h2,h3,h4⟩
 ·simp at hp
 ·exact ⟨b,els,h1,h2,h3,take_get h4 (by rw [List.getElem?_map,hp]; rfl),h4⟩
theorem NmR.src (h:NmR m σ S o):aSrc 2 S σ=some (o.map nA):=by
 rcases h with ⟨rfl,rfl|rfl⟩|⟨b,els,h1,rfl,h3,h4⟩
 ·rfl
 ·exact aSrc_data
 ·have hle:o.length<=els.length:=by have:=congrArg List.length h4; simp at this; omega
  rw [aSrc_slice,h3,elAt_cells,if_pos ⟨rfl,by omega⟩,List.drop_zero,h4]
theorem ix_at {b l i:Nat} {els:List AVal} (h:i < l):ixSl b 0 2 (.sc (.int .i64 (i))) l (some (.cells 2 els))=some (.ptr b i 0):=by
 rw [ixSl_cells,if_pos rfl]
 simp only [aIdx]
 rw [if_pos (by omega)]
 simp
/-- One is appended. -/
theorem NmR.push (h:NmR m σ S o) (p:ByteArray×Int) {bytes:Nat} (hm:m<=σ.next) (hl:(o.length+1)*bytes<=140737488355328) (h2:bytes≠0):
  ∃ b' σ',aAppend 2 bytes S [nA p] σ=some (.slice b' 0 (o.length+1),σ')/\NmR m σ' (.slice b' 0 (o.length+1)) (o++[p])/\σ.next<=σ'.next/\(∀ b y,b < m->σ.get b=some y->σ'.get b=some y):=by
 have key:∀ {b:Nat} {els:List AVal},m<=b->els=o.map nA++[nA p]->∀ {τ:AStore},τ.get b=some (.cells 2 els)->NmR m τ (.slice b 0 (o.length+1)) (o++[p]):=by
  intro b els hb he τ hg
  refine .inr ⟨b,els,hb,by simp,hg,?_⟩
  rw [he,List.take_of_length_le (by simp)]; simp
 rcases h with ⟨rfl,rfl|rfl⟩|⟨b,els,h1,rfl,h3,h4⟩
 ·exact ⟨σ.next,_,app_nil (by simp) (by simpa using hl) (by decide) h2,key hm rfl (by rw [AStore.get_alloc,if_pos rfl]; rfl),by rw [alloc_next]; omega,fun b y _ hy=>get_alloc_old hy⟩
 ·exact ⟨σ.next,_,app_d0 (by simp) (by simpa using hl) (by decide) h2,key hm rfl (by rw [AStore.get_alloc,if_pos rfl]; rfl),by rw [alloc_next]; omega,fun b y _ hy=>get_alloc_old hy⟩
 ·have hle:o.length<=els.length:=by have:=congrArg List.length h4; simp at this; omega
  have hlt:=AStore.lt_of_get h3
  by_cases he:o.length+1<=els.length
  ·refine ⟨b,σ.set b (.cells 2 (overlay els o.length [nA p])),?_,.inr ⟨b,_,h1,by simp,gss hlt,?_⟩,by rw [set_next]; omega,fun b' y hb' hy=>?_⟩
   ·rw [aAppend_slice,h3,appAt_cells,if_pos ⟨rfl,by decide,h2,by omega,rfl⟩,if_pos (by simpa using he),List.length_singleton]
   ·have ho:overlay els o.length [nA p]=els.set o.length (nA p):=rfl
    rw [ho,List.length_append,List.length_cons,List.length_nil,List.take_add_one]
    rw [List.take_set_of_le (Nat.le_refl _),h4,List.map_append]
    rw [List.getElem?_set_self (by omega)]
    rfl
   ·rw [AStore.get_set,if_neg (by omega)]; exact hy
  ·have hee:els=o.map nA:=by rw [<-h4,List.take_of_length_le (by omega)]
   refine ⟨σ.next,(σ.del b).alloc (.cells 2 (els++[nA p])),?_,key (els:=els++[nA p]) hm (by rw [hee]) (by rw [AStore.get_alloc,if_pos (show σ.next=(σ.del b).next from rfl)]),by rw [alloc_next]; show σ.next<=σ.next+1; omega,fun b' y hb' hy=>?_⟩
   ·have hl':o.length=els.length:=by rw [hee]; simp
    rw [hl']
    rw [app_full h3 (by simp) (by rw [<-hl']; simpa using hl) (by decide) h2 rfl]; rfl
   ·refine get_alloc_old ?_
    rw [AStore.get_del,if_neg (by omega)]; exact hy
/-- The first ones. -/
theorem NmR.cut (h:NmR m σ S o) {n:Nat} (hn:n<=o.length):∃ S',aSlice 2 S none (some (.sc (.int .i64 (n)))) σ=some S'/\NmR m σ S' (o.take n):=by
 have hb:∀ l:Nat,n<=l->aBounds l none (some (.sc (.int .i64 (n))))=some (0,n):=fun l h=>by
  have:(0:Int)<=(0:Int)/\(0:Int)<=(n:Int)/\(n:Int)<=(l:Int):=⟨Int.le_refl _,vom,vom⟩
  show (if (0:Int)<=(0:Int)/\(0:Int)<=(n:Int)/\(n:Int)<=(l:Int) then some ((0:Int).toNat,(n:Int).toNat) else none)=_
  rw [if_pos this]; rfl
 rcases h with ⟨rfl,rfl|rfl⟩|⟨b,els,h1,rfl,h3,h4⟩
 ·simp only [List.length_nil,Nat.le_zero] at hn
  subst hn
  exact ⟨_,rfl,.inl ⟨rfl,.inl rfl⟩⟩
 ·simp only [List.length_nil,Nat.le_zero] at hn
  subst hn
  exact ⟨_,rfl,.inl ⟨rfl,.inr rfl⟩⟩
 ·refine ⟨.slice b 0 n,?_,.inr ⟨b,els,h1,by rw [List.length_take,Nat.min_eq_left hn],h3,?_⟩⟩
  ·simp only [aSlice,h3,if_true,hb _ hn]
   simp
  ·rw [List.length_take,Nat.min_eq_left hn,List.map_take,<-h4,List.take_take,Nat.min_eq_left hn]
end
/-- The machine's block. -/
def mcR (G L:AVal) (n:Nat) (e:Int):ABlk:=.cells 4 [.agg [G,L,(.sc (.int .i64 (n))),(.sc (.int .i64 (e)))]]
theorem rstepC {w:WD} {σ:AStore} {pm n:Nat} {G L:AVal} (hm:σ.get pm=some (mcR G L n 0)) (hn:n<=1000):
  ACalls (EE w) 61 [.ptr pm 0 0] σ fun e σ'=>(∃ v,e=.ret v)/\KeepM pm σ σ'/\σ'.get pm=some (if n=1000 then mcR G L 1000 101 else mcR G L (n+1) 0):=by
 have hlt:=AStore.lt_of_get hm
 have hw:IntKind.i64.wrap ((n:Int)+1)=((n+1:Nat):Int):=wrapS (by omega)
 unfold mcR at hm ⊢
 refine of_61 rfl rfl rfl (by kernel_rfl) ?_
 by_cases h1:n=1000
 ·subst h1
  simp -implicitDefEqProofs only [go_sem,hm]
  (repeat' first|refine vw ?_ ?_<;>intro hq|refine vz ?_|simp -implicitDefEqProofs only [go_sem,hm])
  exact ⟨⟨_,rfl⟩,(KeepM.refl pm σ).set _,by rw [if_pos hlt]⟩
 ·have h2:¬ ((n:Int)>=1000):=by omega
  simp -implicitDefEqProofs only [go_sem,hm,dcf h2]
  (repeat' first|refine vw ?_ ?_<;>intro hq|refine vz ?_|simp -implicitDefEqProofs only [go_sem,hm,hw,dcf h2])
  exact ⟨⟨_,rfl⟩,(KeepM.refl pm σ).set _,by rw [if_neg h1,if_pos hlt]⟩
theorem findC {w:WD} {σ:AStore} {m:Nat} {S:AVal} {o:Fr} (h:NmR m σ S o) (hn:(nmsF o).Nodup) (hl:o.length<=1000000) (nm:ByteArray):
  ACalls (EE w) 62 [S,.sc (.string nm)] σ fun e σ'=>σ'=σ/\e=.ret (.tuple [(.sc (.int .i64 ((fget o nm).getD 0))),(.sc (.bool ((fget o nm).isSome)))]):=by
 have hL:=fun τ:AStore=>h.len (τ:=τ)
 have hw0:IntKind.i64.wrap ((o.length:Int) - 1)=(o.length:Int) - 1:=wrap64 (by omega) (by omega)
 refine of_62 rfl rfl rfl (by kernel_rfl) ?_
 simp -implicitDefEqProofs only [go_sem,hL,hw0]
 refine vlp (ι:=Nat) (fun j=>[(0,S),(1,.sc (.string nm)),(6,(.sc (.int .i64 ((j:Int) - 1))))]) (fun j τ=>j<=o.length/\τ=σ/\∀ i p,j<=i->o[i]?=some p->p.1≠nm) (fun j=>j) (fun _=>rfl) o.length ?_ ?_ ?_
 ·exact vsu
 ·exact ⟨Nat.le_refl _,rfl,fun i p hi hp=>by rw [List.getElem?_eq_none (by omega)] at hp; cases hp⟩
 rintro j τ ⟨hj,rfl,hno⟩
 rcases j with _|i
 ·have hnn:nm ∉ nmsF o:=fun hc=>by
   obtain ⟨p,hp,rfl⟩:=List.mem_map.1 hc
   obtain ⟨i,hi,rfl⟩:=List.mem_iff_getElem.1 hp
   exact hno i _ (Nat.zero_le _) (List.getElem?_eq_getElem hi) rfl
  rw [fget_none hnn]
  (repeat' first|refine vw ?_ ?_<;>intro hq|refine vz ?_|simp -implicitDefEqProofs only [go_sem,show decide ((((0:Nat):Int)) - 1>=0)=false from rfl])
  exact rfl
 ·obtain ⟨p,hp⟩:∃ p,o[i]?=some p:=⟨o[i]'(by omega),by simp⟩
  obtain ⟨b,els,hb,rfl,hg,hx,_⟩:=h.at hp
  have e1:(((i+1:Nat):Int)) - 1=(i:Int):=by omega
  have e2:decide ((i:Int)>=0)=true:=dct (by omega)
  have hix:ixSl b 0 2 (.sc (.int .i64 (i))) o.length (some (.cells 2 els))=some (.ptr b i 0):=ix_at (by omega)
  have hx':els[i]?=some (.agg [.sc (.string p.1),(.sc (.int .i64 (p.2)))]):=hx
  have hw:IntKind.i64.wrap ((i:Int) - 1)=(i:Int) - 1:=wrap64 (by omega) (by omega)
  rw [e1]
  by_cases hpn:p.1=nm
  ·have:=fget_at hn hp
   rw [hpn] at this
   rw [this]
   (repeat' first|refine vw ?_ ?_<;>intro hq|refine vz ?_|simp -implicitDefEqProofs only [go_sem,e2,hg,hix,hx',ba_list,dct hpn])
   exact rfl
  ·(repeat' first|refine vw ?_ ?_<;>intro hq|refine vz ?_|simp -implicitDefEqProofs only [go_sem,e2,hg,hix,hx',ba_list,dcf hpn,hw])
   exact ⟨i,vom,⟨vom,rfl,fun i' p' hi' hp'=>by
    rcases Nat.lt_or_ge i i' with h1|h1
    ·exact hno i' p' h1 hp'
    ·obtain rfl:i'=i:=by omega
     rw [hp] at hp'; cases hp'; exact hpn⟩,vsu⟩
theorem oneTC {w:WD} (p:Bool):GivesV (EE w) 63 [(.sc (.bool (p)))] (.sc (.int .i64 (oneI p))):=by
 refine GivesV.of (fun _=>.sc _) (.cons _ _ (.sc _) .nil) 1 ?_
 refine of_63 rfl rfl rfl (by kernel_rfl) ?_
 cases p with
 | true=>
  (repeat' first|refine vw ?_ ?_<;>intro hq|refine vz ?_|simp -implicitDefEqProofs only [go_sem])
  exact ⟨_,rfl,rfl⟩
 | false=>
  (repeat' first|refine vw ?_ ?_<;>intro hq|refine vz ?_|simp -implicitDefEqProofs only [go_sem])
  exact ⟨_,rfl,rfl⟩
def iA (x:Int):AVal:=(.sc (.int .i64 (x)))
/-- A slice that a function has made itself, or nil; its block is not below 'm'. -/
def Gw (m:Nat) (σ:AStore) (sz:Nat) (v:AVal) (els:List AVal):Prop:=(els=[]/\v=(.sc (.slice none 0 0)))\/∃ b,m<=b/\v=.slice b 0 els.length/\σ.get b=some (.cells sz els)
theorem Gw.nil {m:Nat} {σ:AStore} {sz:Nat}:Gw m σ sz (.sc (.slice none 0 0)) []:=.inl ⟨rfl,rfl⟩
theorem Gw.keep {m:Nat} {σ τ:AStore} {sz:Nat} {v:AVal} {els:List AVal} (h:Gw m σ sz v els) (hk:∀ b x,m<=b->σ.get b=some x->τ.get b=some x):Gw m τ sz v els:=by
 rcases h with h|⟨b,h1,h2,h3⟩
 ·exact .inl h
 ·exact .inr ⟨b,h1,h2,hk b _ h1 h3⟩
theorem Gw.facts {m:Nat} {σ:AStore} {sz:Nat} {v:AVal} {els:List AVal} (h:Gw m σ sz v els):v.cells=[v]/\v.isCell=true/\v.fit=true:=by
 rcases h with ⟨_,rfl⟩|⟨b,_,rfl,_⟩<;>exact ⟨rfl,rfl,rfl⟩
theorem Gw.len {m:Nat} {σ:AStore} {sz:Nat} {v:AVal} {els:List AVal} (h:Gw m σ sz v els) {τ:AStore}:aLen (.slice 0) v τ=some (.sc (.int .i64 (els.length))):=by
 rcases h with ⟨rfl,rfl⟩|⟨b,_,rfl,_⟩<;>rfl
theorem Gw.at {m:Nat} {σ:AStore} {sz:Nat} {v:AVal} {els:List AVal} (h:Gw m σ sz v els) (hp:els≠[]):∃ b,m<=b/\v=.slice b 0 els.length/\σ.get b=some (.cells sz els):=by
 rcases h with ⟨h,_⟩|h
 ·exact absurd h hp
 ·exact h
theorem Gw.add {m:Nat} {σ:AStore} {sz:Nat} {v:AVal} {els:List AVal} (h:Gw m σ sz v els) (bytes:Nat) (x:AVal) (hm:m<=σ.next) (hb:(els.length+1)*bytes<=140737488355328) (h1:sz≠0) (h2:bytes≠0) (hc:allCells [x]=true):
  ∃ σ',aAppend sz bytes v [x] σ=some (.slice σ.next 0 (els.length+1),σ')/\Gw m σ' sz (.slice σ.next 0 (els.length+1)) (els++[x])/\σ'.next=σ.next+1/\(∀ b z,b < m->σ.get b=some z->σ'.get b=some z)/\∀ b z,σ.get b=some z->(∀ l,v≠.slice b 0 l)->σ'.get b=some z:=by
 rcases h with ⟨rfl,rfl⟩|⟨b,hmb,rfl,hg⟩
 ·refine ⟨σ.alloc (.cells sz [x]),?_,.inr ⟨σ.next,vom,rfl,?_⟩,rfl,?_,?_⟩
  ·exact app_nil (by simp) (by simpa using hb) h1 h2
  ·rw [AStore.get_alloc,if_pos rfl]; rfl
  ·intro b z _ hz; exact get_alloc_old hz
  ·intro b z hz _; exact get_alloc_old hz
 ·have kp:∀ b' z,σ.get b'=some z->b'≠b->((σ.del b).alloc (.cells sz (els++[x]))).get b'=some z:=by
   intro b' z hz hne
   refine get_alloc_old ?_
   rw [AStore.get_del,if_neg (fun hc=>hne hc)]
   exact hz
  refine ⟨(σ.del b).alloc (.cells sz (els++[x])),?_,.inr ⟨σ.next,vom,by simp,?_⟩,rfl,?_,?_⟩
  ·rw [app_full hg (by simp) hb h1 h2 hc]; rfl
  ·have:(σ.del b).next=σ.next:=rfl
   rw [AStore.get_alloc,this,if_pos rfl]
  ·intro b' z hb' hz; exact kp b' z hz (by omega)
  ·intro b' z hz hv; exact kp b' z hz fun hc=>by subst hc; exact hv _ rfl
theorem ix1_at {b l i:Nat} {els:List AVal} (h:i < l):ixSl b 0 1 (.sc (.int .i64 (i))) l (some (.cells 1 els))=some (.ptr b i 0):=by
 rw [ixSl_cells,if_pos rfl]
 simp only [aIdx]
 rw [if_pos (by omega)]
 simp
theorem Z_join {G:Prop} {E:Env} {n:Nat} {c:Code} {Q:SPred} {ι:Type} (S:ι->Ev) (I:ι->AStore->Prop) (okS:∀ i,okT (S i)=true)
  (main:(∀ i σ e,I i σ->subE (S i) e->Z E n c Q e σ)->G) (rest:∀ i σ,I i σ->Z E n c Q (S i) σ):G:=
 main fun i σ _ hi hs=>Z_less (rest i σ hi) (okS i) hs
/-- What 'done' leaves. -/
def Dn (pm:Nat) (G L:AVal) (n:Nat) (σ:AStore) (p:Int×Int) (e:AEnd) (σ':AStore):Prop:=e=.ret (.sc (.int .i64 (p.1)))/\KeepM pm σ σ'/\σ'.get pm=some (mcR G L n p.2)
section
variable {pm n:Nat} {G L:AVal} {σ:AStore} {k a b:Int}
theorem Dn.no (hz:(k=8\/k=9)/\b=0) (hlt:pm < σ.next):Dn pm G L n σ (finV 100 7 k a b) (.ret (.sc (.int .i64 (0)))) (σ.set pm (mcR G L n 100)):=by
 unfold finV; rw [if_pos hz]; exact ⟨rfl,(KeepM.refl pm σ).set _,gss hlt⟩
theorem Dn.big (hz:¬ ((k=8\/k=9)/\b=0)) (hlt:pm < σ.next) (h:opV k a b > 2147483648\/opV k a b < -2147483648):Dn pm G L n σ (finV 100 7 k a b) (.ret (.sc (.int .i64 (0)))) (σ.set pm (mcR G L n 7)):=by
 unfold finV; rw [if_neg hz,if_pos h]; exact ⟨rfl,(KeepM.refl pm σ).set _,gss hlt⟩
theorem Dn.ok (hz:¬ ((k=8\/k=9)/\b=0)) (hm:σ.get pm=some (mcR G L n 0)) (h:¬ opV k a b < -2147483648) (h2:¬ opV k a b > 2147483648):Dn pm G L n σ (finV 100 7 k a b) (.ret (.sc (.int .i64 (opV k a b)))) σ:=by
 unfold finV; rw [if_neg hz,if_neg (by omega)]; exact ⟨rfl,KeepM.refl pm σ,hm⟩
end
theorem doneC {w:WD} {σ:AStore} {pm n:Nat} {G L V:AVal} {vs:List Int} {k:Int} (hm:σ.get pm=some (mcR G L n 0)) (hV:Gw (pm+1) σ 1 V (vs.map iA)) (h1:3<=k) (h2:k<=15) (hl:1<=vs.length) (hl2:vs.length<=4) (hv:∀ i,inM (vAt vs i)):
  ACalls (EE w) 65 [.ptr pm 0 0,(.sc (.int .i64 (k))),V] σ (Dn pm G L n σ (finV 100 7 k (vAt vs 0) (vAt vs 1))):=by
 have hlt:=AStore.lt_of_get hm
 have hm0:=hm
 unfold mcR at hm
 have ha:=hv 0
 have hb:=hv 1
 have hLn:=fun τ:AStore=>hV.len (τ:=τ)
 simp only [List.length_map] at hLn
 obtain ⟨b,hpb,rfl,hg⟩:=hV.at (by cases vs<;>simp at hl ⊢)
 rw [List.length_map] at hLn ⊢
 have g0:(vs.map iA)[0]?=some (.sc (.int .i64 (vAt vs 0))):=by
  cases vs with
  | nil=>simp at hl
  | cons x xs=>rfl
 have i0:ixSl b 0 1 (.sc (.int .i64 (0))) vs.length (some (.cells 1 (vs.map iA)))=some (.ptr b 0 0):=ix1_at (i:=0) (by omega)
 refine of_65 rfl rfl rfl (by kernel_rfl) ?_
 simp -implicitDefEqProofs only [go_sem,hLn,hg,i0,g0]
 have hB0:vs.length<=1->vAt vs 1=0:=fun h=>by unfold vAt; rw [List.getElem?_eq_none (by omega)]; rfl
 have g1:1 < vs.length->(vs.map iA)[1]?=some (.sc (.int .i64 (vAt vs 1))):=fun h=>by
  rw [List.getElem?_map,List.getElem?_eq_getElem h]; unfold vAt; rw [List.getElem?_eq_getElem h]; rfl
 have i1:1 < vs.length->ixSl b 0 1 (.sc (.int .i64 (1))) vs.length (some (.cells 1 (vs.map iA)))=some (.ptr b 1 0):=fun h=>ix1_at (i:=1) h
 generalize vAt vs 1=B at hb hB0 g1 ⊢
 generalize vAt vs 0=A at ha ⊢
 apply Z_join (ι:=Unit) (fun _=>[(0,.ptr pm 0 0),(1,(.sc (.int .i64 (k)))),(7,(.sc (.int .i64 (A)))),(8,(.sc (.int .i64 (B)))),(9,(.sc (.int .i64 (0)))),(19,(.sc (.int .i64 (k))))]) (fun _ τ=>τ=σ) (fun _=>rfl)
 ·intro J
  by_cases hl1:1 < vs.length
  ·have g1:=g1 hl1
   have i1:=i1 hl1
   have d1:=dct (show (1:Int) < (vs.length:Int) by omega)
   simp -implicitDefEqProofs only [go_sem,d1]
   refine vzt ?_
   simp -implicitDefEqProofs only [go_sem,hg,i1,g1]
   exact J () _ _ rfl vsu
  ·obtain rfl:=hB0 (by omega)
   have d1:=dcf (show ¬ (1:Int) < (vs.length:Int) by omega)
   simp -implicitDefEqProofs only [go_sem,d1]
   refine vzf ?_
   simp -implicitDefEqProofs only [go_sem]
   exact J () _ _ rfl vsu
 rintro _ τ rfl
 have hmul:=mul_in31 ha hb
 have h31:=ha
 have h32:=hb
 unfold inM at h31 h32
 have hneg:IntKind.i64.wrap (0 - A)=-A:=by rw [Int.zero_sub]; exact wrap64 (by omega) (by omega)
 have hadd:IntKind.i64.wrap (A+B)=A+B:=wrap64 (by omega) (by omega)
 have hsub:IntKind.i64.wrap (A - B)=A - B:=wrap64 (by omega) (by omega)
 have hml:IntKind.i64.wrap (A*B)=A*B:=wrap64 (by omega) (by omega)
 have hdv:IntKind.i64.wrap (A.tdiv B)=A.tdiv B:=tdiv_wrap ha
 have htm:(A.tmod B).natAbs<=A.natAbs:=by rw [Int.natAbs_tmod]; exact Nat.mod_le _ _
 have htd:=Int.tmod_def A B
 have hbd:IntKind.i64.wrap (B*A.tdiv B)=B*A.tdiv B:=wrap64 (by omega) (by omega)
 have hmd:IntKind.i64.wrap (A - B*A.tdiv B)=A.tmod B:=by rw [<-htd]; exact wrap64 (by omega) (by omega)
 by_cases hB:B=0
 ·subst hB
  rcases op_cases h1 h2 with rfl|rfl|rfl|rfl|rfl|rfl|rfl|rfl|rfl|rfl|rfl|rfl|rfl
  all_goals (repeat' first|refine vw ?_ ?_<;>intro hq|refine vz ?_|simp -implicitDefEqProofs only [go_sem,Int.reduceEq,hneg,hadd,hsub,hml,hm])
  all_goals (try refine (oneTC _).use ?_)
  all_goals (try (repeat' first|refine vw ?_ ?_<;>intro hq|refine vz ?_|simp -implicitDefEqProofs only [go_sem,hm]))
  all_goals first
   | exact Dn.no (by omega) hlt
   | exact Dn.big (by omega) hlt (.inr hq)
   | exact Dn.big (by omega) hlt (.inl hq)
   | exact Dn.ok (by omega) hm0 ‹_› hq
 ·have dB:=dcf hB
  have q1:=sc_quo (k:=.i64) (a:=A) hB
  rcases op_cases h1 h2 with rfl|rfl|rfl|rfl|rfl|rfl|rfl|rfl|rfl|rfl|rfl|rfl|rfl
  all_goals (repeat' first|refine vw ?_ ?_<;>intro hq|refine vz ?_|simp -implicitDefEqProofs only [go_sem,Int.reduceEq,hneg,hadd,hsub,hml,hdv,hbd,hmd,hm,dB,q1])
  all_goals (try refine (oneTC _).use ?_)
  all_goals (try (repeat' first|refine vw ?_ ?_<;>intro hq|refine vz ?_|simp -implicitDefEqProofs only [go_sem,hm]))
  all_goals first
   | exact Dn.big (by omega) hlt (.inr hq)
   | exact Dn.big (by omega) hlt (.inl hq)
   | exact Dn.ok (by omega) hm0 ‹_› hq
structure Mr (σ:AStore) (pm n:Nat) (gl:Fr) (els:List AVal) (G L:AVal):Prop where
 m:σ.get pm=some (mcR G L n 0)
 g:NmR (pm+1) σ G gl
 l:IsD 3 L els
section
variable {σ σ':AStore} {pm n n':Nat} {gl:Fr} {els:List AVal} {G L:AVal}
theorem Mr.keep (h:Mr σ pm n gl els G L) (hk:KeepM pm σ σ') (hm:σ'.get pm=some (mcR G L n' 0)):Mr σ' pm n' gl els G L:=⟨hm,h.g.keep fun b y hb hg=>hk.2 _ _ (by omega) hg,h.l⟩
theorem Mr.keepS (h:Mr σ pm n gl els G L) (hk:KeepS σ σ'):Mr σ' pm n gl els G L:=h.keep hk.m (hk.2 _ _ h.m)
theorem NmR.keepM {S:AVal} {o:Fr} (h:NmR (pm+1) σ S o) (hk:KeepM pm σ σ'):NmR (pm+1) σ' S o:=h.keep fun b y hb hg=>hk.2 _ _ (by omega) hg
end
def XRr (pm:Nat) (G L:AVal) (n:Nat) (σ:AStore) (p:RX) (e:AEnd) (σ':AStore):Prop:=
 e=.ret (.sc (.int .i64 (if p.e=0 then p.v else 0)))/\(p.e=0->inM p.v/\n < p.n)/\KeepM pm σ σ'/\n<=p.n/\p.n<=1000/\σ'.get pm=some (mcR G L p.n p.e)
def SRr (pm:Nat) (G L:AVal) (n:Nat) (σ:AStore) (o:Fr) (p:RS) (e:AEnd) (σ':AStore):Prop:=
 ∃ S' o2,e=.ret (.tuple [S',(.sc (.int .i64 (if p.e=0 then p.v else 0))),(.sc (.bool (p.r || decide (p.e≠0))))])/\(p.e=0->inM p.v)/\KeepM pm σ σ'/\n<=p.n/\p.n<=1000/\σ'.get pm=some (mcR G L p.n p.e)/\NmR σ.next σ' S' o2/\
  (p.e=0->p.r=false->o2=p.o/\nmsF p.o=nmsF o/\okF p.o)
/-- What a call of exp does (N: so many calls deep). -/
def ExpRC (gl:Fr) (fs:List Fc) (els:List AVal) (N:Nat) (E:Ex->Fr->Nat->RX) (x:Ex):Prop:=∀ {w:WD} {v:AVal} {σ:AStore} {pm n:Nat} {S G L:AVal} {o:Fr},IsEx x v->okG x=true->expE (nmsF gl) (nmsF o) fs x=0->Mr σ pm n gl els G L->
 NmR (pm+1) σ S o->(nmsF o).Nodup->o.length<=n+4->okF o->n<=1000->1000<=N+n->ACalls (EE w) 31 [.ptr pm 0 0,v,S] σ (XRr pm G L n σ (E x o n))
def AllRC (gl:Fr) (fs:List Fc) (els:List AVal) (N:Nat) (A:List St->Fr->Nat->RS) (ss:List St):Prop:=∀ {w:WD} {Y:AVal} {es:List AVal} {σ:AStore} {pm n:Nat} {S G L:AVal} {o:Fr},IsD 8 Y es->IsSts ss es->es.length<=281474976710656->okSs ss=true->stEs (nmsF gl) (nmsF o) fs ss=0->Mr σ pm n gl els G L->
 NmR (pm+1) σ S o->(nmsF o).Nodup->o.length<=n+4->okF o->n<=1000->1000<=N+n->ACalls (EE w) 86 [.ptr pm 0 0,Y,S] σ (SRr pm G L n σ o (A ss o n))
theorem fcOf_mem {l:List Fc} {nm:ByteArray} {f:Fc} (h:fcOf l nm=some f):f∈l/\f.nm=nm:=by
 unfold fcOf at h
 exact ⟨List.mem_of_find?_eq_some h,by have:=List.find?_some h; simpa using this⟩
theorem vAt_of {vs:List Int} {j:Nat} (h:j < vs.length):(vs.map iA)[j]?=some (.sc (.int .i64 (vAt vs j))):=by
 rw [List.getElem?_map,List.getElem?_eq_getElem h]; unfold vAt; rw [List.getElem?_eq_getElem h]; rfl
theorem frG_nm {vs:List Int} {ps:List ByteArray} (h:ps.Nodup):nmsF (frG vs ps 0 [])=ps:=by
 have:=frG_nms (vs:=vs) ps 0 (o:=[]) (by simpa [nmsF] using h)
 simpa [nmsF] using this
theorem callRC {gl:Fr} {fs:List Fc} {els:List AVal} {M:Nat} {A:List St->Fr->Nat->RS} (hfs:FnOk fs els) (hty:FnTy (nmsF gl) fs) (hfl:fs.length<=1000000) (recA:∀ ss,AllRC gl fs els M A ss) {w:WD} {σ:AStore} {pm n:Nat} {G L V:AVal} {vs:List Int} {nm:ByteArray} {f:Fc}
  (hM:Mr σ pm n gl els G L) (hV:Gw (pm+1) σ 1 V (vs.map iA)) (hf:fcOf fs nm=some f) (hl:f.ps.length=vs.length) (hvi:∀ i,inM (vAt vs i)) (hn:n<=1000) (hN:1000<=M+n):
  ACalls (EE w) 64 [.ptr pm 0 0,.sc (.string nm),V] σ fun e σ'=>e=.ret (.sc (.int .i64 (if (A f.body (frG vs f.ps 0 []) n).e=0 then (A f.body (frG vs f.ps 0 []) n).v else 0)))/\((A f.body (frG vs f.ps 0 []) n).e=0->inM (A f.body (frG vs f.ps 0 []) n).v)/\
   KeepM pm σ σ'/\n<=(A f.body (frG vs f.ps 0 []) n).n/\(A f.body (frG vs f.ps 0 []) n).n<=1000/\σ'.get pm=some (mcR G L (A f.body (frG vs f.ps 0 []) n).n (A f.body (frG vs f.ps 0 []) n).e):=by
 have hll:=hfs.d.len
 have hLn:∀ τ:AStore,aLen (.slice 0) L τ=some (.sc (.int .i64 (fs.length))):=fun τ=>hM.l.lenN hll
 have hVn:∀ τ:AStore,aLen (.slice 0) V τ=some (.sc (.int .i64 (vs.length))):=fun τ=>by have:=hV.len (τ:=τ); rwa [List.length_map] at this
 have hmm:σ.get pm=some (.cells 4 [.agg [G,L,(.sc (.int .i64 (n))),(.sc (.int .i64 (0)))]]):=hM.m
 have lpm:=AStore.lt_of_get hmm
 have kL:=hM.l.fit
 have cL:=hM.l.cells
 have iL:=hM.l.isCell
 refine of_64 rfl rfl rfl (by kernel_rfl) ?_
 simp -implicitDefEqProofs only [go_sem]
 refine vlp (ι:=Nat) (fun j=>[(0,.ptr pm 0 0),(1,.sc (.string nm)),(2,V),(7,(.sc (.int .i64 (j))))]) (fun j τ=>j<=fs.length/\τ=σ/\fcOf (fs.take j) nm=none) (fun j=>fs.length - j) (fun _=>rfl) 0 ?_ ?_ ?_
 ·exact vsu
 ·exact ⟨Nat.zero_le _,rfl,rfl⟩
 rintro j τ ⟨hj,rfl,h0⟩
 simp -implicitDefEqProofs only [go_sem,hmm,kL,cL,iL,hLn]
 (refine vif ?_ ?_<;>intro hlt)
 ·obtain ⟨x,hx⟩:∃ x,fs[j]?=some x:=⟨fs[j]'(by omega),by simp⟩
  obtain ⟨y,hy,hxy⟩:=hfs.d.at' j x hx
  have hw:=wrapS (i:=j) (by omega)
  have hat:=fcOf_at (nm:=nm) hx h0
  have hxy':=hxy
  obtain ⟨SP,SB,eb,rfl,hP,hB,hbb,_,_,_,hbl⟩:=hxy'
  have kP:=hP.fit
  have cP:=hP.cells
  have iP:=hP.isCell
  have kB:=hB.fit
  have cB:=hB.cells
  have iB:=hB.isCell
  by_cases hxn:x.nm=nm
  ·rw [if_pos hxn] at hat
   have hfx:f=x:=by
    have:=fcOf_app (r:=fs.drop (j+1)) hat
    rw [List.take_append_drop,hf] at this
    exact Option.some.inj this
   subst hfx
   obtain ⟨hfm,_⟩:=fcOf_mem hf
   obtain ⟨hpn,hbt⟩:=hty f hfm
   have hp4:=hfs.p f hfm
   (repeat' first|refine vw ?_ ?_<;>intro hq|refine vz ?_|simp -implicitDefEqProofs only [go_sem,hmm,kL,cL,iL,hM.l.idx hy,kP,cP,iP,kB,cB,iB,dct hxn,ba_list])
   refine vlp (ι:=AVal×Nat) (fun s=>[(0,.ptr pm 0 0),(2,V),(7,(.sc (.int .i64 (j)))),(8,s.1),(9,(.sc (.int .i64 (s.2))))]) (fun s ρ=>s.2<=vs.length/\KeepS τ ρ/\NmR τ.next ρ s.1 (frG vs (f.ps.take s.2) 0 [])) (fun s=>vs.length - s.2) (fun _=>rfl) ((.sc (.slice none 0 0)),0) ?_ ?_ ?_
   ·exact vsu
   ·exact ⟨Nat.zero_le _,KeepS.refl _,NmR.nil⟩
   rintro ⟨S,q⟩ ρ ⟨hq,kk,hS⟩
   dsimp only at hq kk hS ⊢
   have hmr:=kk.2 _ _ hmm
   simp -implicitDefEqProofs only [go_sem,hVn]
   (refine vif ?_ ?_<;>intro hlt2)
   ·have hwq:=wrapS (i:=q) (by omega)
    obtain ⟨pn,hpq⟩:∃ pn,f.ps[q]?=some pn:=⟨f.ps[q]'(by omega),by simp⟩
    have e1:(f.ps.map sA)[q]?=some (sA pn):=by rw [List.getElem?_map,hpq]; rfl
    have hcs:(sA pn).cells=[.sc (.string pn)]:=rfl
    obtain ⟨bv,hbv,rfl,hgv⟩:=hV.at (by intro hc; rw [List.map_eq_nil_iff] at hc; have:=congrArg List.length hc; simp only [List.length_nil] at this; omega)
    have hgv:=kk.2 _ _ hgv
    have hxv:=vAt_of (vs:=vs) (j:=q) (by omega)
    have hiv:ixSl bv 0 1 (.sc (.int .i64 (q))) (vs.map iA).length (some (.cells 1 (vs.map iA)))=some (.ptr bv q 0):=ix1_at (by simp; omega)
    rw [List.length_map] at hiv
    have hfl2:(frG vs (f.ps.take q) 0 []).length<=4:=by
     have:=congrArg List.length (frG_nm (vs:=vs) (ps:=f.ps.take q) (hpn.sublist (List.take_sublist _ _)))
     simp only [nmsF,List.length_map,List.length_take] at this
     omega
    obtain ⟨b',ρ',a1,a2,a3,a4⟩:=hS.push (pn,vAt vs q) (bytes:=24) kk.1 (by omega) (by decide)
    have a1':aAppend 2 24 S [.agg [.sc (.string pn),(.sc (.int .i64 (vAt vs q)))]] ρ=some (.slice b' 0 ((frG vs (f.ps.take q) 0 []).length+1),ρ'):=a1
    have kS:=hS.fit
    have cS:=hS.cells
    have iS:=hS.isCell
    (repeat' first|refine vw ?_ ?_<;>intro hq|refine vz ?_|simp -implicitDefEqProofs only [go_sem])
    ((try (refine Z_seq ?_; (try simp -implicitDefEqProofs only [go_sem]))); refine Z_draw (by kernel_rfl) [0,1,2,3,4,5,6,7,8,9,10,11,12,13,14,15,16,17,18,19] [(19,524287),(18,262143),(17,131070),(16,65534),(15,28672),(14,12288),(13,0),(12,0),(11,2046),(10,1022),(9,0),(8,254),(7,126),(6,62),(5,0),(4,14),(3,6),(2,2),(1,0),(0,0)] (by kernel_rfl) (by kernel_rfl) ?_)
    simp -implicitDefEqProofs only [go_sem,hmr,kL,cL,iL,hM.l.idx hy,kP,cP,iP,kB,cB,iB,hP.idx e1,hcs,hgv,hxv,hiv,kS,cS,iS,a1']
    (repeat' first|refine vw ?_ ?_<;>intro hq|refine vz ?_|simp -implicitDefEqProofs only [go_sem,hwq])
    refine ⟨(_,q+1),vom,⟨vom,⟨by have:=kk.1; omega,fun b y hg=>a4 _ _ (AStore.lt_of_get hg) (kk.2 _ _ hg)⟩,?_⟩,vsu⟩
    dsimp only
    have ht:f.ps.take (q+1)=f.ps.take q++[pn]:=by rw [List.take_add_one,hpq]; rfl
    have hnn:pn ∉ nmsF (frG vs (f.ps.take q) 0 []):=by
     rw [frG_nm (hpn.sublist (List.take_sublist _ _))]
     intro hc
     have hnd:(f.ps.take (q+1)).Nodup:=hpn.sublist (List.take_sublist _ _)
     rw [ht,List.nodup_append] at hnd
     exact hnd.2.2 pn hc pn (by simp) rfl
    have hlq:(f.ps.take q).length=q:=by rw [List.length_take]; omega
    rw [ht,frG_snoc,fset_app hnn,hlq,Nat.zero_add]
    exact a2
   ·obtain rfl:q=vs.length:=by omega
    rw [List.take_of_length_le (by omega)] at hS
    have hM2:=hM.keepS kk
    have hnf:=frG_nm (vs:=vs) hpn
    have hlf:(frG vs f.ps 0 []).length<=4:=by
     have:=congrArg List.length hnf
     simp only [nmsF,List.length_map] at this
     omega
    (repeat' first|refine vw ?_ ?_<;>intro hq|refine vz ?_|simp -implicitDefEqProofs only [go_sem,hmr,kL,cL,iL,hM.l.idx hy,kP,cP,iP,kB,cB,iB])
    refine (recA f.body (w:=⟨w.w,[]⟩) hB hbb hbl (hfs.b f hfm) (by rw [hnf]; exact hbt) hM2 (hS.low (by omega)) (by rw [hnf]; exact hpn) (by omega) (okF_fr hvi f.ps 0 (fun p hp=>by cases hp)) hn (by omega)).mono ?_
    rintro _ σ' ⟨S',o2,rfl,i1,k1,l1,u1,m1,-,-⟩
    (repeat' first|refine vw ?_ ?_<;>intro hq|refine vz ?_|simp -implicitDefEqProofs only [go_sem])
    exact ⟨i1,kk.m.trans k1,l1,u1,m1⟩
  ·rw [if_neg hxn] at hat
   (repeat' first|refine vw ?_ ?_<;>intro hq|refine vz ?_|simp -implicitDefEqProofs only [go_sem,hmm,kL,cL,iL,hM.l.idx hy,kP,cP,iP,kB,cB,iB,dcf hxn,ba_list,hw])
   exact ⟨j+1,vom,⟨vom,rfl,hat⟩,vsu⟩
 ·obtain rfl:j=fs.length:=by omega
  rw [List.take_length,hf] at h0
  cases h0
theorem expHStep {k i : Int} {nm : ByteArray} {xs : List Ex} {gl : Fr} {fs : List Fc} {els : List AVal} {N : Nat} {E : Ex → Fr → Nat → RX} {A : List St → Fr → Nat → RS} (hgv : ∀ s, inM (gval gl s)) (hgn : (nmsF gl).Nodup) (hgl : gl.length ≤ 1000000)
    (hfs:FnOk fs els) (hty:FnTy (nmsF gl) fs) (hfl:fs.length<=1000000)
    (rec:∀ M,N=M+1->(∀ y,ExpRC gl fs els M E y)/\∀ ss,AllRC gl fs els M A ss):ExpRC gl fs els N (expG fs (gval gl) E A) (.mk k nm i xs):=by
  intro w v σ pm n S0 G L o h hok hte hM hS0 hnd hol hoF hn hN
  obtain ⟨htz,ht19⟩:=expE_args hte
  simp only [IsEx] at h
  obtain ⟨S,es,rfl,hS,hx,hk,hi,hnm,hl⟩:=h
  simp only [okG,Bool.and_eq_true,decide_eq_true_eq] at hok
  obtain ⟨⟨har,hz4,hii⟩,hoks⟩:=hok
  have hlen:=hx.len
  have hSn:=fun σ:AStore=>hS.lenN hlen (σ:=σ)
  have kS:=hS.fit
  have cS:=hS.cells
  have iS:=hS.isCell
  have kO:=hS0.fit
  have cO:=hS0.cells
  have iO:=hS0.isCell
  have kG:=hM.g.fit
  have cG:=hM.g.cells
  have iG:=hM.g.isCell
  have m0:=hM.m
  have hlt:=AStore.lt_of_get m0
  refine of_31 rfl rfl rfl (by kernel_rfl) ?_
  simp -implicitDefEqProofs only [go_sem,kS,cS,iS,kO,cO,iO]
  have hk0:∀ X,KeepM pm σ (σ.alloc X):=fun X=>(KeepS.alloc σ X).m
  have h64:∀ y∈xs,okG y=true:=fun y hy=>okGs_mem hoks y hy
  refine (rstepC (get_alloc_old m0) hn).mono ?_
  rintro _ τ ⟨⟨_,rfl⟩,kp,m1⟩
  by_cases hn0:n=1000
  · rw [if_pos hn0] at m1
    have m1':τ.get pm=some (.cells 4 [.agg [G,L,(.sc (.int .i64 (((1000:Nat):Int)))),(.sc (.int .i64 (101)))]]):=m1
    have hcm:expG fs (gval gl) E A (.mk k nm i xs) o n=⟨0,101,n⟩:=by rw [expG,if_pos hn0]
    rw [hcm]
    (repeat' first|refine vw ?_ ?_<;>intro hq|refine vz ?_|simp -implicitDefEqProofs only [go_sem,m1',show decide ((101:Int)=0)=false from rfl])
    exact ⟨rfl,fun h=>absurd (show (101:Int)=0 from h) (by decide),(hk0 _).trans kp,Nat.le_refl _,hn,by rw [hn0]; exact m1⟩
  rw [if_neg hn0] at m1
  have m1':τ.get pm=some (.cells 4 [.agg [G,L,(.sc (.int .i64 (((n+1:Nat):Int)))),(.sc (.int .i64 (0)))]]):=m1
  obtain ⟨M,rfl⟩:∃ M,N=M+1:=⟨N - 1,vom⟩
  obtain ⟨recE,recA⟩:=rec M rfl
  clear rec
  have hX:τ.get σ.next=some (.cells 4 [.agg [(.sc (.int .i64 (k))),.sc (.string nm),(.sc (.int .i64 (i))),S]]):=kp.2 _ _ (by omega) (by rw [AStore.get_alloc,if_pos rfl])
  have kp0:=(hk0 _).trans kp
  have hM1:=hM.keep kp0 m1
  have hO1:=hS0.keepM kp0
  clear kp
  (repeat' first|refine vw ?_ ?_<;>intro hq|refine vz ?_|simp -implicitDefEqProofs only [go_sem,m1',hX])
  · -- a number
    have hcm:expG fs (gval gl) E A (.mk k nm i xs) o n=⟨i,0,n+1⟩:=by rw [expG,if_neg hn0,if_pos hq]
    rw [hcm]
    exact ⟨rfl,fun _=>⟨hii,vom⟩,kp0,vom,vom,m1⟩
  · -- a name
    have hcm:expG fs (gval gl) E A (.mk k nm i xs) o n=⟨(fget o nm).getD (gval gl nm),0,n+1⟩:=by rw [expG,if_neg hn0,if_neg (by omega),if_pos hq]
    rw [hcm]
    refine (findC hO1 hnd (by omega) nm).mono ?_
    rintro _ _ ⟨rfl,rfl⟩
    cases hfg:fget o nm with
    | some vv=>
      (repeat' first|refine vw ?_ ?_<;>intro hq|refine vz ?_|simp -implicitDefEqProofs only [go_sem])
      exact ⟨rfl,fun _=>⟨okF_get hoF hfg,vom⟩,kp0,vom,vom,m1⟩
    | none=>
      (repeat' first|refine vw ?_ ?_<;>intro hq|refine vz ?_|simp -implicitDefEqProofs only [go_sem])
      ((try (refine Z_seq ?_; (try simp -implicitDefEqProofs only [go_sem]))); refine Z_draw (by kernel_rfl) [0,1,2,3,4,5,6,7,8,9,10] [(10,511),(9,255),(8,255),(7,127),(6,63),(5,16),(4,0),(3,7),(2,3),(1,1),(0,0)] (by kernel_rfl) (by kernel_rfl) ?_)
      simp -implicitDefEqProofs only [go_sem,hX,m1',kG,cG,iG]
      refine (findC hM1.g hgn hgl nm).mono ?_
      rintro _ _ ⟨rfl,rfl⟩
      refine .inl ⟨rfl,rfl,?_⟩
      (repeat' first|refine vw ?_ ?_<;>intro hq|refine vz ?_|simp -implicitDefEqProofs only [go_sem])
      exact ⟨by rw [gval_get]; rfl,fun _=>⟨hgv nm,vom⟩,kp0,vom,vom,m1⟩
  · -- and
    have k16:=hq
    obtain ⟨x0,x1,rfl⟩:=ar2G har (by omega) (by omega)
    obtain ⟨e0,he0,hx0⟩:=hx.at (j:=0) (x:=x0) rfl
    obtain ⟨e1,he1,hx1⟩:=hx.at (j:=1) (x:=x1) rfl
    obtain ⟨c1,c2,c3⟩:=hx0.isA.facts
    obtain ⟨d1,d2,d3⟩:=hx1.isA.facts
    have i0:=fun σ:AStore=>hS.idx he0 (σ:=σ) (k:=.i64)
    have i1:=fun σ:AStore=>hS.idx he1 (σ:=σ) (k:=.i64)
    simp only [Int.natCast_zero,Int.natCast_one,Int.cast_ofNat_Int] at i0 i1
    have hcm : expG fs (gval gl) E A (.mk k nm i [x0, x1]) o n = if (E x0 o (n + 1)).e ≠ 0 then ⟨0, (E x0 o (n + 1)).e, (E x0 o (n + 1)).n⟩ else if (E x0 o (n + 1)).v = 0 then ⟨0, 0, (E x0 o (n + 1)).n⟩ else
        if (E x1 o (E x0 o (n+1)).n).e≠0 then ⟨0,(E x1 o (E x0 o (n+1)).n).e,(E x1 o (E x0 o (n+1)).n).n⟩ else ⟨oneI (!decide ((E x1 o (E x0 o (n+1)).n).v=0)),0,(E x1 o (E x0 o (n+1)).n).n⟩:=by
      rw [expG,if_neg hn0,if_neg (by omega),if_neg (by omega),if_pos k16]; simp only [twoG,decide_eq_true_eq,Bool.not_eq_true',decide_eq_false_iff_not]
    rw [hcm]
    clear hcm
    simp -implicitDefEqProofs only [go_sem,i0,c1,c2,c3]
    refine (recE x0 (w:=⟨w.w,[]⟩) hx0 (h64 x0 (by simp)) (htz x0 (by simp)) hM1 hO1 hnd (by omega) hoF (by omega) (by omega)).mono ?_
    rintro _ τ1 ⟨rfl,in1,kp1,l1,u1,m2⟩
    have hX1:=kp1.2 _ _ (by omega) hX
    have kq1:=kp0.trans kp1
    generalize E x0 o (n+1)=p0 at in1 l1 u1 m2 ⊢
    by_cases h0:p0.e=0
    · rw [if_pos h0,if_neg (not_not_intro h0)]
      rw [h0] at m2
      by_cases hz:p0.v=0
      · rw [if_pos hz]
        (repeat' first|refine vw ?_ ?_<;>intro hq|refine vz ?_|simp -implicitDefEqProofs only [go_sem,dct hz])
        refine (oneTC _).use ?_
        (repeat' first|refine vw ?_ ?_<;>intro hq|refine vz ?_|simp -implicitDefEqProofs only [go_sem])
        exact ⟨rfl,fun _=>⟨inM_0,vom⟩,kq1,vom,u1,m2⟩
      · rw [if_neg hz]
        (repeat' first|refine vw ?_ ?_<;>intro hq|refine vz ?_|simp -implicitDefEqProofs only [go_sem,dcf hz,hX1,i1,d1,d2,d3])
        refine (recE x1 (w:=⟨w.w,[]⟩) hx1 (h64 x1 (by simp)) (htz x1 (by simp)) (hM1.keep kp1 m2) (hO1.keepM kp1) hnd (by omega) hoF u1 (by omega)).mono ?_
        rintro _ τ2 ⟨rfl,in2,kp2,l2,u2,m3⟩
        have kq2:=kq1.trans kp2
        generalize E x1 o p0.n=p1 at in2 l2 u2 m3 ⊢
        by_cases h1:p1.e=0
        · rw [if_pos h1,if_neg (not_not_intro h1)]
          rw [h1] at m3
          simp -implicitDefEqProofs only [go_sem]
          refine (oneTC _).use ?_
          (repeat' first|refine vw ?_ ?_<;>intro hq|refine vz ?_|simp -implicitDefEqProofs only [go_sem])
          exact ⟨rfl,fun _=>⟨by have:=oneI_in (!decide (p1.v=0)); exact ⟨vom,vom⟩,vom⟩,kq2,vom,u2,m3⟩
        · rw [if_neg h1,if_pos h1]
          simp -implicitDefEqProofs only [go_sem]
          refine (oneTC _).use ?_
          (repeat' first|refine vw ?_ ?_<;>intro hq|refine vz ?_|simp -implicitDefEqProofs only [go_sem])
          exact ⟨by rw [if_neg h1]; rfl,fun h=>absurd h h1,kq2,vom,u2,m3⟩
    · rw [if_neg h0,if_pos h0]
      (repeat' first|refine vw ?_ ?_<;>intro hq|refine vz ?_|simp -implicitDefEqProofs only [go_sem])
      refine (oneTC _).use ?_
      (repeat' first|refine vw ?_ ?_<;>intro hq|refine vz ?_|simp -implicitDefEqProofs only [go_sem])
      exact ⟨by rw [if_neg h0]; rfl,fun h=>absurd h h0,kq1,vom,u1,m2⟩
  · -- or
    have k17:=hq
    obtain ⟨x0,x1,rfl⟩:=ar2G har (by omega) (by omega)
    obtain ⟨e0,he0,hx0⟩:=hx.at (j:=0) (x:=x0) rfl
    obtain ⟨e1,he1,hx1⟩:=hx.at (j:=1) (x:=x1) rfl
    obtain ⟨c1,c2,c3⟩:=hx0.isA.facts
    obtain ⟨d1,d2,d3⟩:=hx1.isA.facts
    have i0:=fun σ:AStore=>hS.idx he0 (σ:=σ) (k:=.i64)
    have i1:=fun σ:AStore=>hS.idx he1 (σ:=σ) (k:=.i64)
    simp only [Int.natCast_zero,Int.natCast_one,Int.cast_ofNat_Int] at i0 i1
    have hcm : expG fs (gval gl) E A (.mk k nm i [x0, x1]) o n = if (E x0 o (n + 1)).e ≠ 0 then ⟨0, (E x0 o (n + 1)).e, (E x0 o (n + 1)).n⟩ else if (E x0 o (n + 1)).v ≠ 0 then ⟨1, 0, (E x0 o (n + 1)).n⟩ else
        if (E x1 o (E x0 o (n+1)).n).e≠0 then ⟨0,(E x1 o (E x0 o (n+1)).n).e,(E x1 o (E x0 o (n+1)).n).n⟩ else ⟨oneI (!decide ((E x1 o (E x0 o (n+1)).n).v=0)),0,(E x1 o (E x0 o (n+1)).n).n⟩:=by
      rw [expG,if_neg hn0,if_neg (by omega),if_neg (by omega),if_neg (by omega),if_pos k17]; simp only [twoG,decide_eq_true_eq,Bool.not_eq_true',decide_eq_false_iff_not]
    rw [hcm]
    clear hcm
    simp -implicitDefEqProofs only [go_sem,i0,c1,c2,c3]
    refine (recE x0 (w:=⟨w.w,[]⟩) hx0 (h64 x0 (by simp)) (htz x0 (by simp)) hM1 hO1 hnd (by omega) hoF (by omega) (by omega)).mono ?_
    rintro _ τ1 ⟨rfl,in1,kp1,l1,u1,m2⟩
    have hX1:=kp1.2 _ _ (by omega) hX
    have kq1:=kp0.trans kp1
    have m2':τ1.get pm=some (.cells 4 [.agg [G,L,(.sc (.int .i64 ((E x0 o (n+1)).n))),(.sc (.int .i64 ((E x0 o (n+1)).e)))]]):=m2
    generalize E x0 o (n+1)=p0 at in1 l1 u1 m2 m2' ⊢
    by_cases h0:p0.e=0
    · rw [if_pos h0,if_neg (not_not_intro h0)]
      rw [h0] at m2 m2'
      by_cases hz:p0.v=0
      · rw [if_neg (not_not_intro hz)]
        (repeat' first|refine vw ?_ ?_<;>intro hq|refine vz ?_|simp -implicitDefEqProofs only [go_sem,dct hz,m2',hX1,i1,d1,d2,d3])
        refine (recE x1 (w:=⟨w.w,[]⟩) hx1 (h64 x1 (by simp)) (htz x1 (by simp)) (hM1.keep kp1 m2) (hO1.keepM kp1) hnd (by omega) hoF u1 (by omega)).mono ?_
        rintro _ τ2 ⟨rfl,in2,kp2,l2,u2,m3⟩
        have kq2:=kq1.trans kp2
        generalize E x1 o p0.n=p1 at in2 l2 u2 m3 ⊢
        by_cases h1:p1.e=0
        · rw [if_pos h1,if_neg (not_not_intro h1)]
          rw [h1] at m3
          simp -implicitDefEqProofs only [go_sem]
          refine (oneTC _).use ?_
          (repeat' first|refine vw ?_ ?_<;>intro hq|refine vz ?_|simp -implicitDefEqProofs only [go_sem])
          exact ⟨rfl,fun _=>⟨by have:=oneI_in (!decide (p1.v=0)); exact ⟨vom,vom⟩,vom⟩,kq2,vom,u2,m3⟩
        · rw [if_neg h1,if_pos h1]
          simp -implicitDefEqProofs only [go_sem]
          refine (oneTC _).use ?_
          (repeat' first|refine vw ?_ ?_<;>intro hq|refine vz ?_|simp -implicitDefEqProofs only [go_sem])
          exact ⟨by rw [if_neg h1]; rfl,fun h=>absurd h h1,kq2,vom,u2,m3⟩
      · rw [if_pos hz]
        (repeat' first|refine vw ?_ ?_<;>intro hq|refine vz ?_|simp -implicitDefEqProofs only [go_sem,dcf hz])
        refine (oneTC _).use ?_
        (repeat' first|refine vw ?_ ?_<;>intro hq|refine vz ?_|simp -implicitDefEqProofs only [go_sem])
        exact ⟨rfl,fun _=>⟨inM_1,vom⟩,kq1,vom,u1,m2⟩
    · rw [if_neg h0,if_pos h0]
      (repeat' first|refine vw ?_ ?_<;>intro hq|refine vz ?_|simp -implicitDefEqProofs only [go_sem,m2',dcf h0])
      refine (oneTC _).use ?_
      (repeat' first|refine vw ?_ ?_<;>intro hq|refine vz ?_|simp -implicitDefEqProofs only [go_sem])
      exact ⟨by rw [if_neg h0]; rfl,fun h=>absurd h h0,kq1,vom,u1,m2⟩
  · -- if
    obtain rfl:=hq
    obtain ⟨x0,x1,x2,rfl⟩:=ar3G har
    obtain ⟨e0,he0,hx0⟩:=hx.at (j:=0) (x:=x0) rfl
    obtain ⟨e1,he1,hx1⟩:=hx.at (j:=1) (x:=x1) rfl
    obtain ⟨e2,he2,hx2⟩:=hx.at (j:=2) (x:=x2) rfl
    obtain ⟨c1,c2,c3⟩:=hx0.isA.facts
    obtain ⟨d1,d2,d3⟩:=hx1.isA.facts
    obtain ⟨f1,f2,f3⟩:=hx2.isA.facts
    have i0:=fun σ:AStore=>hS.idx he0 (σ:=σ) (k:=.i64)
    have i1:=fun σ:AStore=>hS.idx he1 (σ:=σ) (k:=.i64)
    have i2:=fun σ:AStore=>hS.idx he2 (σ:=σ) (k:=.i64)
    simp only [Int.natCast_zero,Int.natCast_one,Int.cast_ofNat_Int] at i0 i1 i2
    have hcm:expG fs (gval gl) E A (.mk 18 nm i [x0,x1,x2]) o n=if (E x0 o (n+1)).e≠0 then ⟨0,(E x0 o (n+1)).e,(E x0 o (n+1)).n⟩ else if (E x0 o (n+1)).v≠0 then E x1 o (E x0 o (n+1)).n else E x2 o (E x0 o (n+1)).n:=by
      rw [expG,if_neg hn0]; rfl
    rw [hcm]
    clear hcm
    simp -implicitDefEqProofs only [go_sem,i0,c1,c2,c3]
    refine (recE x0 (w:=⟨w.w,[]⟩) hx0 (h64 x0 (by simp)) (htz x0 (by simp)) hM1 hO1 hnd (by omega) hoF (by omega) (by omega)).mono ?_
    rintro _ τ1 ⟨rfl,in1,kp1,l1,u1,m2⟩
    have hX1:=kp1.2 _ _ (by omega) hX
    have kq1:=kp0.trans kp1
    have m2':τ1.get pm=some (.cells 4 [.agg [G,L,(.sc (.int .i64 ((E x0 o (n+1)).n))),(.sc (.int .i64 ((E x0 o (n+1)).e)))]]):=m2
    generalize E x0 o (n+1)=p0 at in1 l1 u1 m2 m2' ⊢
    by_cases h0:p0.e=0
    · rw [if_pos h0,if_neg (not_not_intro h0)]
      rw [h0] at m2 m2'
      by_cases hz:p0.v=0
      · rw [if_neg (not_not_intro hz)]
        (repeat' first|refine vw ?_ ?_<;>intro hq|refine vz ?_|simp -implicitDefEqProofs only [go_sem,dct hz,m2',hX1,i2,f1,f2,f3])
        refine (recE x2 (w:=⟨w.w,[]⟩) hx2 (h64 x2 (by simp)) (htz x2 (by simp)) (hM1.keep kp1 m2) (hO1.keepM kp1) hnd (by omega) hoF u1 (by omega)).mono ?_
        rintro _ τ2 ⟨rfl,in2,kp2,l2,u2,m3⟩
        (repeat' first|refine vw ?_ ?_<;>intro hq|refine vz ?_|simp -implicitDefEqProofs only [go_sem])
        exact ⟨rfl,fun h=>⟨(in2 h).1,by have:=(in2 h).2; omega⟩,kq1.trans kp2,vom,u2,m3⟩
      · rw [if_pos hz]
        (repeat' first|refine vw ?_ ?_<;>intro hq|refine vz ?_|simp -implicitDefEqProofs only [go_sem,dcf hz,hX1,i1,d1,d2,d3])
        refine (recE x1 (w:=⟨w.w,[]⟩) hx1 (h64 x1 (by simp)) (htz x1 (by simp)) (hM1.keep kp1 m2) (hO1.keepM kp1) hnd (by omega) hoF u1 (by omega)).mono ?_
        rintro _ τ2 ⟨rfl,in2,kp2,l2,u2,m3⟩
        (repeat' first|refine vw ?_ ?_<;>intro hq|refine vz ?_|simp -implicitDefEqProofs only [go_sem])
        exact ⟨rfl,fun h=>⟨(in2 h).1,by have:=(in2 h).2; omega⟩,kq1.trans kp2,vom,u2,m3⟩
    · rw [if_neg h0,if_pos h0]
      (repeat' first|refine vw ?_ ?_<;>intro hq|refine vz ?_|simp -implicitDefEqProofs only [go_sem,m2',dcf h0])
      exact ⟨by rw [if_neg h0],fun h=>absurd h h0,kq1,vom,u1,m2⟩
  · -- what is done, what is called
    have hk3:3<=k/\(k=19\/k<=15):=by
      unfold arityB at har
      rw [if_neg (by omega)] at har
      split at har
      · omega
      · split at har
        · omega
        · first
            | (have:=of_decide_eq_true har; omega)
            | (rw [if_neg hq] at har; have:=of_decide_eq_true har; omega)
    obtain ⟨k3,k15⟩:=hk3
    generalize hF0:(fun (x:Ex) (n:Nat)=>E x o n)=F
    have hFx:∀ x n,F x n=E x o n:=fun x n=>by rw [<-hF0]
    have hcm : expG fs (gval gl) E A (.mk k nm i xs) o n = if (argsG F xs (n + 1)).2.1 ≠ 0 then ⟨0, (argsG F xs (n + 1)).2.1, (argsG F xs (n + 1)).2.2⟩ else
        if k=19 then (if (A (fcD fs nm).body (frG (argsG F xs (n+1)).1 (fcD fs nm).ps 0 []) (argsG F xs (n+1)).2.2).e≠0 then ⟨0,(A (fcD fs nm).body (frG (argsG F xs (n+1)).1 (fcD fs nm).ps 0 []) (argsG F xs (n+1)).2.2).e,(A (fcD fs nm).body (frG (argsG F xs (n+1)).1 (fcD fs nm).ps 0 []) (argsG F xs (n+1)).2.2).n⟩ else ⟨(A (fcD fs nm).body (frG (argsG F xs (n+1)).1 (fcD fs nm).ps 0 []) (argsG F xs (n+1)).2.2).v,0,(A (fcD fs nm).body (frG (argsG F xs (n+1)).1 (fcD fs nm).ps 0 []) (argsG F xs (n+1)).2.2).n⟩)
        else ⟨(finV 100 7 k (vAt (argsG F xs (n+1)).1 0) (vAt (argsG F xs (n+1)).1 1)).1,(finV 100 7 k (vAt (argsG F xs (n+1)).1 0) (vAt (argsG F xs (n+1)).1 1)).2,(argsG F xs (n+1)).2.2⟩:=by
      rw [expG,if_neg hn0,if_neg (by omega),if_neg (by omega),if_neg (by omega),if_neg (by omega),if_neg (by omega),hF0]
    rw [hcm]
    clear hcm
    have hnx:=AStore.lt_of_get hX
    refine vlp (ι:=AVal×Nat) (fun s=>[(0,.ptr pm 0 0),(2,S0),(4,.ptr σ.next 0 0),(9,s.1),(10,(.sc (.int .i64 (s.2))))]) (fun s ρ=>s.2<=xs.length/\KeepM pm σ ρ/\∃ vs m,argsG F (xs.take s.2) (n+1)=(vs,0,m)/\n+1<=m/\m<=1000/\vs.length=s.2/\(∀ q,inM (vAt vs q))/\ρ.get pm=some (mcR G L m 0)/\ρ.get σ.next=some (.cells 4 [.agg [(.sc (.int .i64 (k))),.sc (.string nm),(.sc (.int .i64 (i))),S]])/\Gw (σ.next+1) ρ 1 s.1 (vs.map iA)) (fun s=>xs.length - s.2) (fun _=>rfl) ((.sc (.slice none 0 0)),0) ?_ ?_ ?_
    · exact vsu
    · exact ⟨Nat.zero_le _,kp0,[],n+1,rfl,by omega,by omega,rfl,fun q=>by simp only [vAt,List.getElem?_nil,Option.getD_none]; exact inM_0,m1,hX,Gw.nil⟩
    rintro ⟨V,j⟩ ρ ⟨hj,kr,vs,m,hag,l1,u1,hvl,hvi,m2,hX2,hV⟩
    dsimp only at hj hag hvl hV ⊢
    obtain ⟨v1,v2,v3⟩:=hV.facts
    have hnr:=AStore.lt_of_get hX2
    simp -implicitDefEqProofs only [go_sem,hX2,hSn,kS,cS,iS]
    (refine vif ?_ ?_<;>intro hlt)
    · obtain ⟨x,hx1⟩:∃ x,xs[j]?=some x:=⟨xs[j]'(by omega),by simp⟩
      obtain ⟨e,he,hxe⟩:=hx.at hx1
      obtain ⟨c1,c2,c3⟩:=hxe.isA.facts
      have cc:=hxe.cellsOk
      have hw:=wrapS (i:=j) (by omega)
      (repeat' first|refine vw ?_ ?_<;>intro hq|refine vz ?_|simp -implicitDefEqProofs only [go_sem,hX2,hS.idx he,c1,c2,c3,cc,kS,cS,iS,v1,v2,v3,kO,cO,iO])
      refine (recE x (w:=⟨w.w,[]⟩) hxe (h64 x (List.mem_of_getElem? hx1)) (htz x (List.mem_of_getElem? hx1)) (hM.keep kr m2) (hS0.keepM kr) hnd (by omega) hoF u1 (by omega)).mono ?_
      rintro _ ρ2 ⟨rfl,in2,kq,l2,u2,m3⟩
      have ks:=kr.trans kq
      have hX3:=kq.2 _ _ (by omega) hX2
      have hn3:=AStore.lt_of_get hX3
      have hok:=args_ok hag hx1
      have hbad:=args_bad hag hx1
      rw [hFx] at hok hbad
      have hV2:=hV.keep fun b y hb hg=>kq.2 b y (by omega) hg
      generalize E x o m=p at in2 l2 u2 m3 hok hbad ⊢
      have hV3:Gw (σ.next+1) (ρ2.alloc (.cells 1 [(.sc (.int .i64 (if p.e=0 then p.v else 0)))])) 1 V (vs.map iA):=hV2.keep fun b y _ hg=>get_alloc_old hg
      obtain ⟨ρ3,a1,a2,a3,a4,a5⟩:=hV3.add 8 (.sc (.int .i64 (if p.e=0 then p.v else 0))) (by rw [alloc_next]; omega) (by simp; omega) (by decide) (by decide) rfl
      rw [List.length_map] at a1 a2
      have m4:=a4 _ _ (show pm < σ.next+1 by omega) (get_alloc_old m3)
      have m4':ρ3.get pm=some (.cells 4 [.agg [G,L,(.sc (.int .i64 (p.n))),(.sc (.int .i64 (p.e)))]]):=m4
      have hX4:=a4 _ _ (by omega) (get_alloc_old hX3)
      have ks3:KeepM pm σ ρ3:=⟨by rw [a3,alloc_next]; have:=ks.1; omega,fun b y hb hg=>a4 _ _ (by have:=AStore.lt_of_get hg; omega) (get_alloc_old (ks.2 _ _ hb hg))⟩
      by_cases hp:p.e=0
      · have hok:=hok hp
        have in2:=(in2 hp).1
        rw [hp] at m4 m4'
        rw [if_pos hp] at a1 a2 ⊢
        (repeat' first|refine vw ?_ ?_<;>intro hq|refine vz ?_|simp -implicitDefEqProofs only [go_sem,a1,m4',hw])
        refine ⟨(.slice (ρ2.next+1) 0 (vs.length+1),j+1),vom,⟨vom,ks3,_,_,hok,by omega,u2,by simp [hvl],fun q=>?_,m4,hX4,by rw [List.map_append]; exact a2⟩,vsu⟩
        rw [vAt_snoc]; split
        · exact in2
        · exact hvi q
      · have hbad:=hbad hp
        rw [show (argsG F xs (n+1)).2.1=p.e by rw [hbad],show (argsG F xs (n+1)).2.2=p.n by rw [hbad],if_pos hp]
        (repeat' first|refine vw ?_ ?_<;>intro hq|refine vz ?_|simp -implicitDefEqProofs only [go_sem,a1,m4',dcf hp])
        exact ⟨by rw [if_neg hp],fun h=>absurd h hp,ks3,vom,u2,m4⟩
    · obtain rfl:j=xs.length:=by omega
      rw [List.take_length] at hag
      rw [hag]
      dsimp only
      rw [if_neg (show ¬ ((0:Int)≠0) by decide)]
      have hMr:=hM.keep kr m2
      have hVp:Gw (pm+1) ρ 1 V (vs.map iA):=by
        rcases hV with h|⟨b,h1,h2,h3⟩
        · exact .inl h
        · exact .inr ⟨b,vom,h2,h3⟩
      by_cases k19:k=19
      · rw [if_pos k19]
        obtain ⟨f,hf,hfl2⟩:=ht19 k19
        have hfd:fcD fs nm=f:=by unfold fcD; rw [hf]; rfl
        rw [hfd]
        (repeat' first|refine vw ?_ ?_<;>intro hq|refine vz ?_|simp -implicitDefEqProofs only [go_sem,hX2,dct k19])
        refine (callRC hfs hty hfl recA (w:=⟨w.w,[]⟩) hMr hVp hf (by omega) hvi u1 (by omega)).mono ?_
        rintro _ σ' ⟨rfl,i4,k4,l4,u4,m4⟩
        generalize A f.body (frG vs f.ps 0 []) m=p at i4 l4 u4 m4 ⊢
        by_cases hp:p.e=0
        · rw [if_pos hp,if_neg (not_not_intro hp)]
          rw [hp] at m4
          (repeat' first|refine vw ?_ ?_<;>intro hq|refine vz ?_|simp -implicitDefEqProofs only [go_sem])
          exact ⟨rfl,fun _=>⟨i4 hp,vom⟩,kr.trans k4,vom,u4,m4⟩
        · rw [if_neg hp,if_pos hp]
          (repeat' first|refine vw ?_ ?_<;>intro hq|refine vz ?_|simp -implicitDefEqProofs only [go_sem])
          exact ⟨by rw [if_neg hp],fun h=>absurd h hp,kr.trans k4,vom,u4,m4⟩
      · rw [if_neg k19]
        have k15':k<=15:=by omega
        have hl1:1<=vs.length:=by
          rw [hvl]
          unfold arityB at har
          rw [if_neg (by omega)] at har
          split at har
          · have:=of_decide_eq_true har; omega
          · split at har
            · have:=of_decide_eq_true har; omega
            · first
                | (have:=of_decide_eq_true har; omega)
                | (rw [if_neg hq] at har; have:=of_decide_eq_true har; omega)
        (repeat' first|refine vw ?_ ?_<;>intro hq|refine vz ?_|simp -implicitDefEqProofs only [go_sem,hX2,dcf k19])
        refine (doneC (w:=⟨w.w,[]⟩) hMr.m hVp k3 k15' hl1 (by omega) hvi).mono ?_
        rintro _ σ' ⟨rfl,k4,m4⟩
        (repeat' first|refine vw ?_ ?_<;>intro hq|refine vz ?_|simp -implicitDefEqProofs only [go_sem])
        have hfe:(finV 100 7 k (vAt vs 0) (vAt vs 1)).2≠0->(finV 100 7 k (vAt vs 0) (vAt vs 1)).1=0:=by
          unfold finV; split
          · intro _; rfl
          · split
            · intro _; rfl
            · intro h; exact absurd rfl h
        refine ⟨?_,fun _=>⟨finV_m _ _ _,vom⟩,kr.trans k4,vom,u1,m4⟩
        dsimp only
        split
        · rfl
        · rename_i h; rw [hfe h]
end Abs
end
