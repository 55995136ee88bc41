/- Part of the abstract layer; it proves no statement by itself. -/
import Derived.Test.YtkhjmhdpaikokaaGreatDoorAbsA
import Derived.RangeFuncLeaves
import Derived.OrdersIn
import Derived.RangeFuncCalls
import Derived.Scope
import Derived.ScopeJumps
import Derived.Deep.LoopGhost
set_option linter.unusedVariables false
set_option linter.unusedSimpArgs false
set_option linter.unusedSectionVars false
noncomputable section
namespace Abs
open Go
section
variable {E:Env} {ι:Inj} {H:Imm} {σ σ':AStore} {w:World}
def veq:Value->Value->Bool
 | .int k a,.int k' b=>decide (k=k') && decide (a=b)
 | .string a,.string b=>decide (a=b)
 | .bool a,.bool b=>a==b
 | _,_=>false
def isPlain:Value->Bool
 | .int _ _|.string _|.bool _=>true
 | _=>false
theorem veq_iff {a b:Value} (ha:isPlain a=true):veq a b=true ↔ a=b:=by
 cases a<;>simp [isPlain] at ha<;>cases b<;>simp [veq]
def aRange (d:TypeDesc) (x:AVal) (σ:AStore):Option (AVal×AStore):=
 match d,x with
 | .string,.sc (.string s)=>some (.ptr σ.next 0 0,σ.alloc (.siter s 0))
 | .map _ _,.sc (.map none)=>some (.ptr σ.next 0 0,σ.alloc .mitern)
 | .map _ _,.map b=>
  match σ.get b with
  | some (.map _ clock)=>some (.ptr σ.next 0 0,σ.alloc (.miter b clock []))
  | _=>none
 | _,_=>none
theorem aRange_sound (hR : Rel E ι H σ w) {t : TypeId} {i : TyI} (hs : E.ty t = some i) {x v : AVal} {x' : Value} (hx : VRel σ.next ι H x x') (h : aRange i.desc x σ = some (v, σ')) :
    SndV E ι H σ ((Instr.range t x').run E.P w) v σ':=by
  have hu:=run_underlying E.ok hs w
  have fin : ∀ (o : Obj) (y : ABlk), BlkRel σ.next ι H { w with heap := w.heap.push o } ⟨w.heap.size, 0, 0, 0, 0⟩ y →
      SndV E ι H σ (.ok (.pointer (some ⟨w.heap.size,0,none⟩)) {w with heap:=w.heap.push o}) (.ptr σ.next 0 0) (σ.alloc y):=by
    intro o y hy
    refine ⟨_,_,upd ι σ.next ⟨w.heap.size,0,0,0,0⟩,H,rfl,?_,hR.alloc rfl hy,Ext.upd _ _ _ _⟩
    have:=VRel.ptr (n:=σ.next+1) (ι:=upd ι σ.next ⟨w.heap.size,0,0,0,0⟩) (H:=H) σ.next 0 0 (by omega)
    simp only [upd_self,Nat.zero_mul,Nat.add_zero] at this
    exact this
  unfold aRange at h
  split at h
  · rename_i s hd
    obtain rfl:=hx.sc_inv
    cases h
    have:=fin (.stringIter s 0) (.siter s 0) (by simp [BlkRel])
    simp only [Instr.range,Sem.run_bind,hu,Result.andThen_ok,hd]
    exact this
  · rename_i hd
    obtain rfl:=hx.sc_inv
    cases h
    have:=fin (.mapIter none 0 #[] 0) .mitern ⟨rfl,0,#[],0,by simp⟩
    simp only [Instr.range,Sem.run_bind,hu,Result.andThen_ok,hd]
    exact this
  · rename_i b hd
    obtain ⟨hb,rfl⟩:=hx.map_inv
    split at h
    · rename_i kvs clock hg
      cases h
      obtain ⟨hb1,_,hb3⟩:=hR.live _ _ hg
      obtain ⟨es,h1,h2,h3,h4,h5⟩:=hb1
      have hne:(ι b).blk≠w.heap.size:=by omega
      have hpush:∀ o,(w.heap.push o)[(ι b).blk]?=some (.map es clock):=by
        intro o; simp [Array.getElem?_push,hne,h1]
      have:=fin (.mapIter (some (ι b).blk) clock #[] clock) (.miter b clock []) ⟨⟨hb,by simp; omega,rfl⟩,clock,#[],clock,by simp,rfl,rfl,by
        intro es' clock' hh
        have hh':=(hpush (.mapIter (some (ι b).blk) clock #[] clock)).symm.trans hh
        cases hh'
        exact ⟨Nat.le_refl _,fun _ e _=>by simp⟩⟩
      simp only [Instr.range,Sem.run_bind,hu,Result.andThen_ok,hd,run_getObj_map h1]
      exact this
    · cases h
  · cases h
def unseen (seen:List Value):List (AVal×AVal)->Option (List (AVal×AVal))
 | []=>some []
 | (.sc k,v)::rest=>
  if isPlain k then
   match unseen seen rest with
   | some l=>some (if seen.any (veq k) then l else (.sc k,v)::l)
   | none=>none
  else none
 | _::_=>none
def keyV:AVal->Value
 | .sc k=>k
 | _=>.bool false
def aNext (iter:AVal) (isString:Bool) (σ:AStore):Option (List (AVal×AStore)):=
 match iter with
 | .ptr b 0 0=>
  match σ.get b,isString with
  | some (.siter s pos),true=>
   if pos < s.size then
    let r:=Utf8.decode s pos
    some [(.tuple [.sc (.bool true),.sc (.int .i64 pos),.sc (.int .i32 r.1)],σ.set b (.siter s (pos+r.2)))]
   else some [(.tuple [.sc (.bool false)],σ)]
  | some .mitern,false=>some [(.tuple [.sc (.bool false)],σ)]
  | some (.miter m since seen),false=>
   match σ.get m with
   | some (.map kvs clock)=>
    if clock=since then
     match unseen seen kvs with
     | some []=>some [(.tuple [.sc (.bool false)],σ)]
     | some l=>some (l.map fun kv=>(.tuple [.sc (.bool true),kv.1,kv.2],σ.set b (.miter m since (seen++[keyV kv.1]))))
     | none=>none
    else none
   | _=>none
  | _,_=>none
 | _=>none
theorem unseen_sound {n : Nat} {seen : List Value} {seen' : Array Nat} : ∀ {kvs : List (AVal × AVal)} {es : List MapEntry} {l : List (AVal × AVal)}, KRel n ι H kvs es →
    (∀ e∈es,(e.born∈seen' ↔ e.key∈seen))->unseen seen kvs=some l->KRel n ι H l (es.filter fun e=>!seen'.contains e.born)/\∀ kv∈l,∃ k,kv.1=.sc k/\isPlain k=true
  | _,_,l,.nil,_,h=>by simp [unseen] at h; subst h; exact ⟨.nil,by simp⟩
  | _, _, l, .cons key v e kvs es hk hv hs, hse, h => by
      cases key with
      | sc k=>
        obtain rfl:=hk.sc_inv
        simp only [unseen] at h
        split at h
        · rename_i hp
          cases hr:unseen seen kvs with
          | none=>simp [hr] at h
          | some l'=>
            simp only [hr] at h
            obtain ⟨i1,i2⟩:=unseen_sound hs (fun e he=>hse e (by simp [he])) hr
            have hany:(seen.any (veq e.key))=seen'.contains e.born:=by
              have h0:=hse e (by simp)
              rw [Bool.eq_iff_iff,List.any_eq_true]
              simp only [Array.contains_iff_mem]
              rw [h0]
              constructor
              · rintro ⟨x,hx,hv⟩
                rw [(veq_iff hp).1 hv]; exact hx
              · intro hx
                exact ⟨e.key,hx,(veq_iff hp).2 rfl⟩
            cases hc:seen'.contains e.born with
            | true=>
              rw [hany,hc] at h
              simp at h
              subst h
              exact ⟨by rw [List.filter_cons,hc]; simpa using i1,i2⟩
            | false=>
              rw [hany,hc] at h
              simp at h
              subst h
              refine ⟨by rw [List.filter_cons,hc]; exact KRel.cons (.sc e.key) v e _ _ hk hv i1,?_⟩
              intro kv hkv
              simp at hkv
              rcases hkv with rfl|hkv
              · exact ⟨e.key,rfl,hp⟩
              · exact i2 kv hkv
        · cases h
      | _=>simp [unseen] at h
theorem nodup_inj {α β:Type} (f:α->β):∀ {l:List α},(l.map f).Nodup->∀ {x y:α},x∈l->y∈l->f x=f y->x=y
  | [],_,_,_,h,_,_=>by simp at h
  | a :: l, hn, x, y, hx, hy, hf => by
      simp only [List.map_cons,List.nodup_cons,List.mem_map,not_exists,not_and] at hn
      simp at hx hy
      rcases hx with rfl|hx<;>rcases hy with rfl|hy
      · rfl
      · exact absurd hf.symm (hn.1 y hy)
      · exact absurd hf (hn.1 x hx)
      · exact nodup_inj f hn.2 hx hy hf
def SndL (E:Env) (ι:Inj) (H:Imm) (σ:AStore) (r:Result Value) (l:List (AVal×AStore)):Prop:=∃ p∈l,SndV E ι H σ r p.1 p.2
theorem run_chooseNext (P:Program) (m:Nat) (hm:0 < m):∃ i w',i < m/\(choose (.mapNext m)).run P w=.ok i w'/\w'.heap=w.heap/\Same w w':=by
 by_cases hf:m<=1
 ·exact ⟨0,w,hm,by simp [Question.forced,hf],rfl,⟨rfl,rfl⟩⟩
 ·refine ⟨(Question.mapNext m).cut (w.tape w.drawn (.mapNext m)),{w with drawn:=w.drawn+1},?_,by simp [Question.forced,hf],rfl,⟨rfl,rfl⟩⟩
  simp only [Question.cut]
  exact Nat.mod_lt _ hm
theorem aNext_sound (hR:Rel E ι H σ w) {x:AVal} {x':Value} (hx:VRel σ.next ι H x x') {isS:Bool} {l:List (AVal×AStore)} (h:aNext x isS σ=some l) (t:TypeId):
  SndL E ι H σ ((Instr.next x' isS t).run E.P w) l:=by
 unfold aNext at h
 split at h
 ·rename_i b
  obtain ⟨hb,rfl⟩:=hx.ptr_inv
  split at h
  ·-- a string's
   rename_i s pos hg
   obtain ⟨⟨hbase,hb1⟩,hb2,hb3⟩:=hR.live _ _ hg
   have hget:∀ w':World,w'.heap=w.heap->(getObj (ι b).blk).run E.P w'=.ok (.stringIter s pos) w':=by
    intro w' hw'; simp [getObj,Sem.run,hw',hb1]
   split at h
   ·rename_i hlt
    cases h
    refine ⟨_,List.mem_singleton.2 rfl,.tuple #[.bool true,.int .i64 pos,.int .i32 (Utf8.decode s pos).1],{w with heap:=w.heap.setIfInBounds (ι b).blk (.stringIter s (pos+(Utf8.decode s pos).2))},ι,H,?_,?_,?_,Ext.refl _ _ _⟩
    ·simp only [Instr.next,Nat.zero_mul,Nat.add_zero,hbase,Sem.run_bind,hget w rfl,Result.andThen_ok,if_pos hlt]
     simp [setObj,Sem.run,hb1,goInt]
    ·exact .tuple _ [_,_,_] (.cons _ _ _ _ (.sc _) (.cons _ _ _ _ (.sc _) (.cons _ _ _ _ (.sc _) .nil)))
    ·refine hR.set hg (by simp) (fun c hc=>by simp [Ne.symm hc]) ⟨rfl,rfl⟩ ⟨hbase,by simp [hb3]⟩ ?_
     intro b' m since seen hne hz hmb
     obtain ⟨h1,h2,h3⟩:=hR.live b' _ hz
     have hne':(ι b').blk≠(ι b).blk:=fun hc=>hne (hR.inj b' b _ _ hz hg hc)
     obtain ⟨⟨g0,g0',g0''⟩,s',se',st,g1,g2,g3,g4⟩:=h1
     refine ⟨⟨g0,by simpa using g0',g0''⟩,s',se',st,by simp [Ne.symm hne',g1],g2,g3,?_⟩
     intro es clock hh
     rw [hmb] at hh
     simp [hb3] at hh
   ·rename_i hlt
    cases h
    refine ⟨_,List.mem_singleton.2 rfl,SndV.same hR (v':=.tuple #[.bool false]) ?_ (.tuple _ [_] (.cons _ _ _ _ (.sc _) .nil))⟩
    simp only [Instr.next,Nat.zero_mul,Nat.add_zero,hbase,Sem.run_bind,hget w rfl,Result.andThen_ok,if_neg hlt,Sem.run_pure]
  ·-- a nil map's
   rename_i hg
   obtain ⟨⟨hbase,si,se,st,hb1⟩,hb2,hb3⟩:=hR.live _ _ hg
   cases h
   refine ⟨_,List.mem_singleton.2 rfl,SndV.same hR (v':=.tuple #[.bool false]) ?_ (.tuple _ [_] (.cons _ _ _ _ (.sc _) .nil))⟩
   have hget:(getObj (ι b).blk).run E.P w=.ok (.mapIter none si se st) w:=by simp [getObj,Sem.run,hb1]
   simp only [Instr.next,Nat.zero_mul,Nat.add_zero,hbase,Sem.run_bind,hget,Result.andThen_ok,Sem.run_pure]
  ·-- a map's
   rename_i m since seen hg
   obtain ⟨hb1,hb2,hb3⟩:=hR.live _ _ hg
   obtain ⟨⟨g0,g0',g0''⟩,s',se',st,g1,g2,g3,g4⟩:=hb1
   subst g2
   split at h
   ·rename_i kvs clock hgm
    split at h
    ·rename_i hcl
     obtain ⟨es,e1,e2,e3,e4,e5⟩:=(hR.live _ _ hgm).1
     obtain ⟨q1,q2⟩:=g4 es clock e1
     have q2':∀ e∈es.toList,(e.born∈se' ↔ e.key∈seen):=fun e he=>(q2 hcl e he).1
     have g3:=g3.symm
     subst g3
     have hget:(getObj (ι b).blk).run E.P w=.ok (.mapIter (some (ι m).blk) s' se' s') w:=by simp [getObj,Sem.run,g1]
     have hgetm:(getObj (ι m).blk).run E.P w=.ok (.map es clock) w:=run_getObj_map e1
     have hguard:((!se'.isEmpty && !es.isEmpty && es.all (fun e=>decide (e.born>=s')))=true)=False:=by
      simp only [eq_iff_iff,iff_false]
      intro hc
      simp only [Bool.and_eq_true,Bool.not_eq_true'] at hc
      obtain ⟨⟨_,hne⟩,hall⟩:=hc
      have:0 < es.size:=by
       rcases Nat.eq_zero_or_pos es.size with h0|h0
       ·simp [Array.isEmpty,h0] at hne
       ·exact h0
      have h0:es[0]∈es.toList:=by simp
      have hb0:=e4 _ h0
      rw [Array.all_eq_true] at hall
      have:=hall 0 this
      simp at this
      omega
     have hold:(es.filter fun e=>!se'.contains e.born).filter (fun e=>decide (e.born < s'))=es.filter fun e=>!se'.contains e.born:=by
      rw [Array.filter_eq_self]
      intro e he
      have:=e4 e (by simpa using (Array.mem_filter.1 he).1)
      simp; omega
     have hnew:(es.filter fun e=>!se'.contains e.born).filter (fun e=>decide (e.born>=s'))=#[]:=by
      rw [Array.filter_eq_empty_iff]
      intro e he
      have:=e4 e (by simpa using (Array.mem_filter.1 he).1)
      simp; omega
     cases hu:unseen seen kvs with
     | none=>simp [hu] at h
     | some ll=>
      obtain ⟨u1,u2⟩:=unseen_sound e2 q2' hu
      have ulen:=u1.length
      have hfl:(es.filter fun e=>!se'.contains e.born).toList=es.toList.filter fun e=>!se'.contains e.born:=by simp
      generalize hL:(es.filter fun e=>!se'.contains e.born)=L at hold hnew hfl
      rw [<-hfl] at u1 ulen
      cases ll with
      | nil=>
       simp [hu] at h
       subst h
       have hL0:L=#[]:=by
        have:L.toList=[]:=List.length_eq_zero_iff.1 (by simpa using ulen.symm)
        exact Array.toList_eq_nil_iff.1 this
       refine ⟨_,List.mem_singleton.2 rfl,SndV.same hR (v':=.tuple #[.bool false]) ?_ (.tuple _ [_] (.cons _ _ _ _ (.sc _) .nil))⟩
       simp only [Instr.next,Nat.zero_mul,Nat.add_zero,g0'',Sem.run_bind,hget,hgetm,Result.andThen_ok,hguard,if_false,hL,hL0]
       simp [Question.forced]
      | cons kv0 lr=>
       simp only [hu,Option.some.injEq] at h
       subst h
       have hLpos:0 < L.size:=by
        have:L.toList.length=(kv0::lr).length:=ulen.symm
        simp at this; omega
       have hLne:L.isEmpty=false:=by
        cases hE:L.isEmpty with
        | false=>rfl
        | true=>
         rw [Array.isEmpty_iff] at hE
         rw [hE] at hLpos; simp at hLpos
       obtain ⟨i,w1,hi,hch,hw1,hs1⟩:=run_chooseNext (w:=w) E.P L.size hLpos
       have hgi:L.toList[i]?=some L[i]:=by simp [hi]
       obtain ⟨k,v,hkv,hk,hv⟩:=u1.get hgi
       obtain ⟨k0,hk0,hpk⟩:=u2 (k,v) (List.mem_of_getElem? hkv)
       simp only at hk0
       subst hk0
       obtain hkk:=hk.sc_inv
       have hcand:((if L.isEmpty=true then #[none] else #[])++(L++#[]).map some:Array (Option MapEntry))=L.map some:=by simp [hLne]
       have hR1:Rel E ι H σ w1:=hR.congr hw1 hs1
       have hb1':w1.heap[(ι b).blk]?=some (.mapIter (some (ι m).blk) s' se' s'):=by rw [hw1]; exact g1
       have hb3':(ι b).blk < w1.heap.size:=by rw [hw1]; exact hb3
       have hLi:L[i]∈es.toList:=by
        have:L[i]∈L.toList:=by simp
        rw [hfl] at this
        exact (List.mem_filter.1 this).1
       refine ⟨(.tuple [.sc (.bool true),.sc k0,v],σ.set b (.miter m s' (seen++[k0]))),?_,.tuple #[.bool true,L[i].key,L[i].val],
        {w1 with heap:=w1.heap.setIfInBounds (ι b).blk (.mapIter (some (ι m).blk) s' (se'.push L[i].born) clock)},ι,H,?_,?_,?_,Ext.refl _ _ _⟩
       ·exact List.mem_map.2 ⟨(.sc k0,v),List.mem_of_getElem? hkv,rfl⟩
       ·simp only [Instr.next,Nat.zero_mul,Nat.add_zero,g0'',Sem.run_bind,hget,hgetm,Result.andThen_ok,hguard,if_false,hL,hold,hnew,hcand,Array.size_map,hch]
        have hci:(L.map some)[i]?=some (some L[i]):=by simp [hi]
        rw [hci]
        simp [setObj,Sem.run,hb1']
       ·rw [hkk] at*
        exact .tuple _ [_,_,_] (.cons _ _ _ _ (.sc _) (.cons _ _ _ _ (.sc _) (.cons _ _ _ _ hv .nil)))
       ·refine hR1.set hg (by simp) (fun c hc=>by simp [Ne.symm hc]) ⟨rfl,rfl⟩ ?_ ?_
        ·have hne:(ι m).blk≠(ι b).blk:=by
          intro hc
          have:=hR.inj m b _ _ hgm hg hc
          subst this
          rw [hg] at hgm; cases hgm
         refine ⟨⟨g0,by simp [hw1]; exact g0',g0''⟩,s',se'.push L[i].born,clock,by simp [hb3'],rfl,by omega,?_⟩
         intro es' clock' hh
         simp [Ne.symm hne,hw1,e1] at hh
         obtain ⟨rfl,rfl⟩:=hh
         refine ⟨by omega,fun _ e he=>⟨?_,?_⟩⟩
         ·rw [Array.mem_push,List.mem_append,q2' e he]
          constructor
          ·rintro (h'|h')
           ·exact .inl h'
           ·right
            have:e=L[i]:=nodup_inj (·.born) e3 he hLi h'
            rw [this,hkk]; simp
          ·rintro (h'|h')
           ·exact .inl h'
           ·right
            simp at h'
            have:e=L[i]:=nodup_inj (·.key) e5 he hLi (by rw [h',hkk])
            rw [this]
         ·simp only [Array.back?_push,List.getLast?_append,List.getLast?_singleton,Option.some_or,Option.some.injEq]
          constructor
          ·intro h'
           have:e=L[i]:=nodup_inj (·.born) e3 he hLi h'.symm
           rw [this,hkk]
          ·intro h'
           have:e=L[i]:=nodup_inj (·.key) e5 he hLi (by rw [<-h',hkk])
           rw [this]
        ·intro b' m' since seen' hne hz hmb
         obtain ⟨h1,h2,h3⟩:=hR1.live b' _ hz
         have hne':(ι b').blk≠(ι b).blk:=fun hc=>hne (hR1.inj b' b _ _ hz hg hc)
         obtain ⟨⟨f0,f0',f0''⟩,s'',se'',st',f1,f2,f3,f4⟩:=h1
         refine ⟨⟨f0,by simpa using f0',f0''⟩,s'',se'',st',by simp [Ne.symm hne',f1],f2,f3,?_⟩
         intro es' clock' hh
         rw [hmb] at hh
         simp [hb3'] at hh
    ·cases h
   ·cases h
  ·cases h
 ·cases h
def findKey (k:Value):List (AVal×AVal)->Option AVal
 | []=>none
 | (.sc k',v)::rest=>if veq k k' then some v else findKey k rest
 | _::_=>none
def aEntry (iter:AVal) (σ:AStore):Option AVal:=
 match iter with
 | .ptr b 0 0=>
  match σ.get b with
  | some (.miter m since seen)=>
   match seen.getLast?,σ.get m with
   | some k,some (.map kvs clock)=>
    if clock=since then
     if isPlain k then
      match findKey k kvs with
      | some v=>some (.tuple [.sc k,v])
      | none=>none
     else none
    else none
   | _,_=>none
  | _=>none
 | _=>none
theorem findKey_sound {n : Nat} {k : Value} (hp : isPlain k = true) : ∀ {kvs : List (AVal × AVal)} {es : List MapEntry} {v : AVal}, KRel n ι H kvs es → findKey k kvs = some v →
    ∃ e∈es,e.key=k/\VRel n ι H v e.val
  | _,_,v,.nil,h=>by simp [findKey] at h
  | _, _, v, .cons key v0 e kvs es hk hv hs, h => by
      cases key with
      | sc k'=>
        obtain hkk:=hk.sc_inv
        simp only [findKey] at h
        split at h
        · rename_i hq
          cases h
          exact ⟨e,by simp,by rw [hkk]; exact ((veq_iff hp).1 hq).symm,hv⟩
        · obtain ⟨e',h1,h2,h3⟩:=findKey_sound hp hs h
          exact ⟨e',by simp [h1],h2,h3⟩
      | _=>simp [findKey] at h
theorem find_born {es:List MapEntry} (hn:(es.map (·.born)).Nodup) {e:MapEntry} (he:e∈es):es.find? (fun x=>x.born==e.born)=some e:=by
 induction es with
 | nil=>simp at he
 | cons x es ih=>
  simp only [List.map_cons,List.nodup_cons,List.mem_map,not_exists,not_and] at hn
  rw [List.find?_cons]
  simp at he
  rcases he with rfl|he
  ·simp
  ·have hne:(x.born==e.born)=false:=by
    rw [beq_eq_false_iff_ne]
    intro hc
    exact hn.1 e he hc.symm
   rw [hne]
   exact ih hn.2 he
theorem aEntry_sound (hR:Rel E ι H σ w) {x v:AVal} {x':Value} (hx:VRel σ.next ι H x x') (h:aEntry x σ=some v):
  SndV E ι H σ ((Instr.entry x').run E.P w) v σ:=by
 unfold aEntry at h
 split at h
 ·rename_i b
  obtain ⟨hb,rfl⟩:=hx.ptr_inv
  split at h
  ·rename_i m since seen hg
   split at h
   ·rename_i k kvs clock hlast hgm
    split at h
    ·rename_i hcl
     split at h
     ·rename_i hp
      split at h
      ·rename_i v0 hf
       cases h
       obtain ⟨hb1,hb2,hb3⟩:=hR.live _ _ hg
       obtain ⟨⟨g0,g0',g0''⟩,s',se',st,g1,g2,g3,g4⟩:=hb1
       subst g2
       have g3:=g3.symm
       subst g3
       obtain ⟨es,e1,e2,e3,e4,e5⟩:=(hR.live _ _ hgm).1
       obtain ⟨e,he,hek,hev⟩:=findKey_sound hp e2 hf
       have hbk:=(((g4 es clock e1).2 hcl e he).2).2 (by rw [hlast,hek])
       have hget:(getObj (ι b).blk).run E.P w=.ok (.mapIter (some (ι m).blk) s' se' s') w:=by simp [getObj,Sem.run,g1]
       have hgetm:(getObj (ι m).blk).run E.P w=.ok (.map es clock) w:=run_getObj_map e1
       have hfind:es.find? (fun x=>x.born==e.born)=some e:=by
        rw [<-Array.find?_toList]; exact find_born e3 he
       refine SndV.same hR (v':=.tuple #[e.key,e.val]) ?_ (.tuple _ [_,_] (.cons _ _ _ _ (by rw [hek]; exact .sc _) (.cons _ _ _ _ hev .nil)))
       simp only [Instr.entry,Nat.zero_mul,Nat.add_zero,g0'',Sem.run_bind,hget,hgetm,Result.andThen_ok,hbk,hcl,bne_self_eq_false,Bool.false_eq_true,if_false,hfind,Sem.run_pure]
      ·cases h
     ·cases h
    ·cases h
   ·cases h
  ·cases h
 ·cases h
end
end Abs
end
noncomputable section
namespace Abs
open Go
def sliceElem (E:Env) (t:TypeId):Option TyI:=
 match E.ty t with
 | some i=>match i.desc with
  | .slice e=>E.ty e
  | _=>none
 | none=>none
def u8z:AVal->Bool
 | .sc (.int .u8 _)=>true
 | _=>false
def byteElem (E:Env) (t:TypeId):Option Nat:=
 match E.ty t with
 | some i=>match i.desc with
  | .slice e=>match E.ty e with
   | some j=>match u8z (absV j.zero) with
    | true=>some e
    | false=>none
   | none=>none
  | _=>none
 | none=>none
def appTag (E:Env) (t:TypeId) (s:AVal) (σ:AStore) (o:Option (AVal×AStore)):Option (AVal×AStore):=
 match byteElem E t with
 | some e=>tagNew (tagS σ s e) e σ o
 | none=>o
def isBld:AVal->Bool
 | .agg [.sc (.pointer none),.sc (.slice none 0 0)]=>true
 | _=>false
def aSliceData (x:AVal):Option AVal:=
 match x with
 | .sc (.slice none _ _)=>some (.sc (.pointer none))
 | .slice b off len=>if len≠0 then some (.ptr b off 0) else none
 | _=>none
def ptrElem (E:Env) (t:TypeId):Option (Nat×TyI):=
 match E.ty t with
 | some i=>match i.desc with
  | .pointer e=>(E.ty e).map fun j=>(e,j)
  | _=>none
 | none=>none
def aUStr (E:Env) (pt:TypeId) (p n:AVal) (σ:AStore):Option (AVal×AStore):=
 match p,n with
 | .sc (.pointer none),.sc (.int .i64 0)=>some (.sc (.string ByteArray.empty),σ)
 | .ptr b 0 0,.sc (.int .i64 n)=>
  match ptrElem E pt,σ.get b with
  | some (e,j),some (.cells sz els)=>
   if j.size=1/\sz=1/\0 < n/\n < 4611686018427387904/\n.toNat<=els.length/\hasTy σ.tys b e=true then
    match unbytes (els.take n.toNat) with
    | some ns=>if (ns.all fun z=>decide (0<=z) && decide (z < 256))=true then some (.sc (.string (strOf ns)),σ.del b) else none
    | none=>none
   else none
  | _,_=>none
 | _,_=>none
section
variable {E:Env} {ι:Inj} {H:Imm} {σ σ':AStore} {w:World}
theorem byteElem_none {t:TypeId} {j:TyI} (h:sliceElem E t=some j) (hz:u8z (absV j.zero)=false):byteElem E t=none:=by
 unfold sliceElem at h
 unfold byteElem
 split at h
 ·rename_i i hi
  split at h
  ·rename_i e hd
   simp only [h,hz]
  ·cases h
 ·cases h
theorem byteElem_some {t:TypeId} {e:Nat} (h:byteElem E t=some e):∃ i j,E.ty t=some i/\i.desc=.slice e/\E.ty e=some j:=by
 unfold byteElem at h
 split at h
 ·rename_i i hi
  split at h
  ·rename_i e' hd
   split at h
   ·rename_i j hj
    split at h
    ·cases h; exact ⟨i,j,hi,hd,hj⟩
    ·cases h
   ·cases h
  ·cases h
 ·cases h
theorem appTag_sound {t:TypeId} {s v:AVal} {o:Option (AVal×AStore)} {r:Result Value}
  (hT:∀ e i,E.ty t=some i->i.desc=.slice e->∀ v σ',o=some (v,σ')->SndT (tagS σ s e) e E ι H σ r v σ') (hs:∃ e i,E.ty t=some i/\i.desc=.slice e) (h:appTag E t s σ o=some (v,σ')):SndV E ι H σ r v σ':=by
 unfold appTag at h
 split at h
 ·rename_i e he
  obtain ⟨i,j,h1,h2,_⟩:=byteElem_some he
  exact SndT.tag (hT e i h1 h2) h
 ·obtain ⟨e,i,h1,h2⟩:=hs
  exact (hT e i h1 h2 v σ' h).snd
theorem aSliceData_sound (hR:Rel E ι H σ w) {x v:AVal} {x':Value} (hx:VRel σ.next ι H x x') (h:aSliceData x=some v) (ts:Array TypeId) (ty:TypeId):
  SndV E ι H σ ((Builtin.unsafeSliceData_ ts ty #[x']).run E.P w) v σ:=by
 unfold aSliceData at h
 split at h
 ·obtain rfl:=hx.sc_inv
  cases h
  exact SndV.same hR rfl (.sc _)
 ·rename_i b off len
  obtain ⟨cap,rfl,hb,hl,hcap⟩:=hx.slice_inv
  split at h
  ·rename_i hn
   cases h
   refine SndV.same hR (Lib.run_unsafeSliceData_row w ts ty _ len cap (by omega)) ?_
   have:=VRel.ptr (n:=σ.next) (ι:=ι) (H:=H) b off 0 hb
   rwa [Nat.add_zero] at this
  ·cases h
 ·cases h
theorem ptrElem_some {t:TypeId} {e:Nat} {j:TyI} (h:ptrElem E t=some (e,j)):∃ i,E.ty t=some i/\i.desc=.pointer e/\E.ty e=some j:=by
 unfold ptrElem at h
 split at h
 ·rename_i i hi
  split at h
  ·rename_i e' hd
   cases hj:E.ty e' with
   | none=>rw [hj] at h; cases h
   | some j'=>rw [hj] at h; cases h; exact ⟨i,hi,hd,hj⟩
  ·cases h
 ·cases h
theorem strOf_eq (ns:List Int):strOf ns=⟨(ns.map fun z=>UInt8.ofNat z.toNat).toArray⟩:=by
 have:∀ (l:List Int) (r:ByteArray),l.foldl (fun r n=>r.push (UInt8.ofNat n.toNat)) r=⟨r.data++(l.map fun z=>UInt8.ofNat z.toNat).toArray⟩:=by
  intro l
  induction l with
  | nil=>intro r; simp
  | cons z l ih=>
   intro r
   rw [List.foldl_cons,ih]
   simp [ByteArray.push]
 have h:=this ns ByteArray.empty
 unfold strOf
 rw [h]
 simp [ByteArray.empty,ByteArray.emptyWithCapacity]
 rfl
theorem freeze_eq {c:Array Value} {el:TypeId} {fr:Nat×Nat} {b n:Nat} (h:w.heap[b]?=some (.cells c el fr)) (hn:n≠0):
  ∃ fr',w.freeze ⟨b,0,none⟩ n={w with heap:=w.heap.setIfInBounds b (.cells c el fr')}:=by
 obtain ⟨lo,hi⟩:=fr
 refine ⟨(if lo==hi then (0,0+n) else (min lo 0,max hi (0+n))),?_⟩
 unfold World.freeze
 rw [if_neg hn]
 congr 1
 apply Array.ext_getElem?
 intro i
 rw [Array.getElem?_modify,Array.getElem?_setIfInBounds]
 have hb:b < w.heap.size:=by
  rcases Nat.lt_or_ge b w.heap.size with h'|h'
  ·exact h'
  ·simp [Array.getElem?_eq_none h'] at h
 by_cases hi2:b=i
 ·subst hi2
  simp [hb] at h ⊢
  rw [h]
 ·simp [hi2]
theorem aUStr_sound (hR:Rel E ι H σ w) {pt it:TypeId} {p n v:AVal} {p' n':Value} (hp:VRel σ.next ι H p p') (hn:VRel σ.next ι H n n') (h:aUStr E pt p n σ=some (v,σ')) (ty:TypeId):
  SndV E ι H σ ((Builtin.unsafeString_ #[pt,it] ty #[p',n']).run E.P w) v σ':=by
 unfold aUStr at h
 split at h
 ·obtain rfl:=hp.sc_inv
  obtain rfl:=hn.sc_inv
  cases h
  exact SndV.same hR (Lib.run_unsafeString_none w pt it ty none) (.sc _)
 ·rename_i b n
  obtain ⟨hb,rfl⟩:=hp.ptr_inv
  obtain rfl:=hn.sc_inv
  split at h
  ·rename_i e j sz els he hg
   split at h
   ·rename_i hc
    obtain ⟨h1,h2,h3,h4,h5,h6⟩:=hc
    split at h
    ·rename_i ns hns
     split at h
     ·rename_i hall
      cases h
      subst h2
      obtain ⟨i,i1,i2,i3⟩:=ptrElem_some he
      obtain ⟨_,t2,t3⟩:=hR.tys _ _ (hasTy_mem h6)
      obtain ⟨⟨g1,g2,c,elem,fr,g3,gf,g4,g5,g6⟩,l2,l3⟩:=hR.live b _ hg
      have hel:elem=e:=g6.trans t2
      subst hel
      have htk:=unbytes_map hns
      have hlen:ns.length=n.toNat:=by
       have:=congrArg List.length htk
       rw [List.length_take,List.length_map] at this
       omega
      have hpu:E.P.underlying pt=some (.pointer elem):=by rw [(E.ok pt i i1).1,i2]
      have hsh:w.shape? (ι b).blk=some (elem,c.size):=by simp [World.shape?,g3]
      have hle:n.toNat<=c.size:=by
       have:els.length*1<=(ι b).cap*1:=Nat.mul_le_mul_right _ g2
       omega
      have hcell:∀ (k:Nat) (x:UInt8),(ns.map fun z=>UInt8.ofNat z.toNat)[k]?=some x->w.cell? ((⟨(ι b).blk,0,none⟩:Addr).add k)=some (.int .u8 x.toNat):=by
       intro k x hx
       rw [List.getElem?_map] at hx
       cases hz:ns[k]? with
       | none=>rw [hz] at hx; cases hx
       | some z=>
        rw [hz] at hx
        cases hx
        have hk:k < ns.length:=by
         rcases Nat.lt_or_ge k ns.length with h'|h'
         ·exact h'
         ·rw [List.getElem?_eq_none h'] at hz; cases hz
        have hz256:0<=z/\z < 256:=by
         rw [List.all_eq_true] at hall
         have:=hall z (List.mem_of_getElem? hz)
         simpa using this
        have hek:els[k]?=some (.sc (.int .u8 z)):=by
         have h7:(els.take n.toNat)[k]?=els[k]?:=by rw [List.getElem?_take,if_pos (by omega)]
         rw [<-h7,htk,List.getElem?_map,hz]; rfl
        obtain ⟨q1,_⟩:=g5.get hek
        obtain ⟨y,hy,hv⟩:=q1.get (k:=0) (v:=.sc (.int .u8 z)) rfl
        obtain rfl:=hv.sc_inv
        rw [add_mk]
        have hrd:=congrFun (rd_cells g3) (0+k)
        have:rd w (ι b).blk (0+k)=some (.int .u8 z):=by
         rw [hrd]
         rw [t3] at hy
         simpa using hy
        rw [show w.cell? ⟨(ι b).blk,0+k,none⟩=some (.int .u8 z) from this]
        have:((UInt8.ofNat z.toNat).toNat:Int)=z:=by
         have:z.toNat < 256:=by omega
         simp [UInt8.toNat_ofNat',Nat.mod_eq_of_lt this]; omega
        rw [this]
      have hrun:=Lib.run_unsafeString_row (P:=E.P) w pt it ty elem hpu (by rw [cellsOf_ty i3,h1]) (ι b).blk c.size hsh (ns.map fun z=>UInt8.ofNat z.toNat)
       (by intro hnil; have:=congrArg List.length hnil; rw [List.length_map] at this; simp only [List.length_nil] at this; omega) (by rw [List.length_map]; omega) (by rw [List.length_map]; omega) hcell
      have hn':((ns.map fun z=>UInt8.ofNat z.toNat).length:Int)=n:=by rw [List.length_map]; omega
      obtain ⟨fr',hfr⟩:=freeze_eq (n:=(ns.map fun z=>UInt8.ofNat z.toNat).length) g3 (by rw [List.length_map]; omega)
      rw [hfr,hn'] at hrun
      refine ⟨.string (strOf ns),_,ι,H,?_,.sc _,hR.give hg (o:=.cells c elem fr') (by intro es clock hh; cases hh),Ext.refl _ _ _⟩
      rw [strOf_eq,t3]
      simp only [Nat.zero_mul,Nat.add_zero]
      exact hrun
     ·cases h
    ·cases h
   ·cases h
  ·cases h
 ·cases h
end
end Abs
end
noncomputable section
namespace Abs
open Go
inductive Tgt where
 | fn (f:FuncId)
 | yld (b:Nat)
inductive ARes where
 | val (v:AVal) (σ:AStore)
 | vals (l:List (AVal×AStore))
 | skip (σ:AStore)
 | enter (f:Tgt) (args:List AVal)
 | dfr (d:ADef)
 | pan (v:AVal)
 | recov
 | bad
def ARes.ofO:Option (AVal×AStore)->ARes
 | some (v,σ)=>.val v σ
 | none=>.bad
def ARes.ofV (σ:AStore):Option AVal->ARes
 | some v=>.val v σ
 | none=>.bad
def ARes.ofS:Option AStore->ARes
 | some σ=>.skip σ
 | none=>.bad
def ARes.ofL:Option (List (AVal×AStore))->ARes
 | some l=>.vals l
 | none=>.bad
abbrev ARho:=Operand->Option AVal
def allSome (ρ:ARho):List Operand->Option (List AVal)
 | []=>some []
 | x::xs=>match ρ x,allSome ρ xs with
  | some v,some vs=>some (v::vs)
  | _,_=>none
def partsSome (ρ:ARho):List (Nat×Operand)->Option (List (Nat×AVal))
 | []=>some []
 | (i,x)::xs=>match ρ x,partsSome ρ xs with
  | some v,some vs=>some ((i,v)::vs)
  | _,_=>none
def optSome (ρ:ARho):Option Operand->Option (Option AVal)
 | none=>some none
 | some x=>(ρ x).map some
def fieldOf (E:Env) (s:TypeId) (f:Nat):Option (Nat×TyI):=
 match E.ty s with
 | some i=>match i.desc with
  | .struct fs=>match fs[f]? with
   | some fd=>(E.ty fd.type).map fun j=>(fd.offset,j)
   | none=>none
  | _=>none
 | none=>none
def arrayOf (E:Env) (t:TypeId):Option (Nat×TyI):=
 match E.ty t with
 | some i=>match i.desc with
  | .array n e=>(E.ty e).map fun j=>(n,j)
  | _=>none
 | none=>none
def mapOf (E:Env) (t:TypeId):Option (TyI×TyI):=
 match E.ty t with
 | some i=>match i.desc with
  | .map k e=>match E.ty k,E.ty e with
   | some a,some b=>some (a,b)
   | _,_=>none
  | _=>none
 | none=>none
def srcOk:TypeDesc->Bool
 | .slice _|.string=>true
 | _=>false
def max2 (big:Bool) (x:Option AVal) (y:AVal):Option AVal:=
 match x,y with
 | some (.sc (.int k a)),.sc (.int _ b)=>some (.sc (.int k (if big then (if b > a then b else a) else (if b < a then b else a))))
 | _,_=>none
def aBuiltin (E:Env) (b:Builtin) (ats:List TypeId) (args:List AVal) (σ:AStore):ARes:=
  match b,ats,args with
  | .append,[t,t2],[s,x]=>
    match sliceElem E t,E.ty t2 with
    | some j, some i2 => if j.okz = true ∧ srcOk i2.desc = true then
        (match aSrc j.size x σ with
        | some xs=>.ofO (appTag E t s σ (aAppend j.size j.bytes s xs σ))
        | none=>.bad) else .bad
    | _,_=>.bad
  | .len,[t],[x]=>
    match E.ty t with
    | some i=>.ofV σ (aLen i.desc x σ)
    | none=>.bad
  | .copy,t::_,[d,s]=>
    match sliceElem E t with
    | some j=>.ofO (aCopy j.size d s σ)
    | none=>.bad
  | .delete,t::_,[m,k]=>
    match mapOf E t with
    | some (ki,_)=>match aMapDel ki.desc m k σ with
      | some σ'=>.val (.tuple []) σ'
      | none=>.bad
    | none=>.bad
  | .max,_,x::xs=>.ofV σ (xs.foldl (max2 true) (some x))
  | .min,_,x::xs=>.ofV σ (xs.foldl (max2 false) (some x))
  | .recover,_,_=>.recov
  | .unsafeSliceData,_,[x]=>.ofV σ (aSliceData x)
  | .unsafeString,[pt,_],[p,n]=>.ofO (aUStr E pt p n σ)
  | _,_,_=>.bad
def aOp (E:Env) (lit:Bool) (op:Op) (ρ:ARho) (σ:AStore):ARes:=
 match op with
 | .move x|.assign x=>.ofV σ (ρ x)
 | .pick c a b=>
  match ρ c with
  | some (.sc (.bool t))=>.ofV σ (if t then ρ a else ρ b)
  | _=>.bad
 | .alloc t=>
  match E.ty t with
  | some i=>.ofO (tagNew (isBld (absV i.zero)) t σ (aNew (absV i.zero) σ))
  | none=>.bad
 | .box _ x=>
  match ρ x with
  | some v=>.ofO (aNew v σ)
  | none=>.bad
 | .build t parts=>
  match E.ty t,partsSome ρ parts.toList with
  | some i,some ps=>
   match i.desc with
   | .struct fs=>.ofV σ (aBuildS E.ty fs i.zero ps)
   | .array _ e=>match E.ty e with
    | some j=>.ofV σ (aBuildA j.size i.zero ps)
    | none=>.bad
   | _=>.bad
  | _,_=>.bad
 | .buildSlice t len parts=>
  match sliceElem E t,partsSome ρ parts.toList with
  | some j,some ps=>if lit then .ofV σ (aLitSlice j len ps) else .ofO (aBuildSlice j len ps σ)
  | _,_=>.bad
 | .load t a=>
  match E.ty t,ρ a with
  | some i,some p=>.ofV σ (aLoad i.isA i.size p σ)
  | _,_=>.bad
 | .store t a x=>
  match E.ty t,ρ a,ρ x with
  | some i,some p,some v=>.ofS (aStore i.size p v σ)
  | _,_,_=>.bad
 | .nilCheck x=>
  match ρ x with
  | some (.ptr b i k)=>.val (.ptr b i k) σ
  | some (.iptr cs)=>.val (.iptr cs) σ
  | some (.func (.func f) a b)=>.val (.func (.func f) a b) σ
  | some (.iface t v)=>.val (.iface t v) σ
  | _=>.bad
 | .binOp op t x y _=>
  match E.ty t,ρ x,ρ y with
  | some i,some a,some b=>.ofV σ (aBin2 E t i.desc op (isConstOp x || isConstOp y) a b)
  | _,_,_=>.bad
 | .unOp op _ x=>
  match ρ x with
  | some a=>.ofV σ (aUn op a)
  | none=>.bad
 | .convert s d x=>
  match E.ty s,E.ty d,ρ x with
  | some i,some j,some a=>.ofO (aConv E.ty i.desc j.desc a σ)
  | _,_,_=>.bad
 | .makeInterface t x=>
  match E.ty t,ρ x with
  | some i,some a=>.ofV σ (aIface i.desc t a)
  | _,_=>.bad
 | .makeFunc fn first captured=>
  match allSome ρ first.toList,allSome ρ captured.toList with
  | some a,some b=>.val (.func fn a b) σ
  | _,_=>.bad
 | .makeMap _ none=>.val (.map σ.next) (σ.alloc (.map [] 0))
 | .makeMap t (some r)=>
  match mapOf E t,ρ r with
  | some _,some (.sc (.int _ _))=>.val (.map σ.next) (σ.alloc (.map [] 0))
  | _,_=>.bad
 | .makeSlice t l c=>
  match sliceElem E t,ρ l,ρ c with
  | some j,some a,some b=>.ofO (aMakeSlice j a b σ)
  | _,_,_=>.bad
 | .slice t x lo hi none=>
  match E.ty t,ρ x,optSome ρ lo,optSome ρ hi with
  | some i,some a,some l,some h=>
   match i.desc with
   | .string=>.ofV σ (aSliceStr a l h)
   | .slice e=>match E.ty e with
    | some j=>.ofV σ (aSlice j.size a l h σ)
    | none=>.bad
   | .pointer arr=>match E.ty arr with
    | some ia=>match ia.desc with
     | .array n e=>match E.ty e with
      | some j=>.ofO (aSliceArr n j.size a l h σ)
      | none=>.bad
     | _=>.bad
    | none=>.bad
   | .array n e=>match E.ty e with
    | some j=>.ofO (aSliceArr n j.size a l h σ)
    | none=>.bad
   | _=>.bad
  | _,_,_,_=>.bad
 | .slice t x lo hi (some m)=>
  match E.ty t,ρ x,optSome ρ lo,optSome ρ hi,optSome ρ (some m) with
  | some i,some a,some l,some h,some mx=>
   match i.desc with
   | .slice e=>match E.ty e with
    | some j=>.ofV σ (aSlice3 j.size a l h mx σ)
    | none=>.bad
   | _=>.bad
  | _,_,_,_,_=>.bad
 | .fieldAddr s x f=>
  match fieldOf E s f,ρ x with
  | some (off,j),some p=>if j.size≠0 then .ofV σ (aField off p) else .bad
  | _,_=>.bad
 | .field s x f=>
  match fieldOf E s f,ρ x with
  | some (off,j),some a=>.ofV σ (aPart j.isA j.size off a)
  | _,_=>.bad
 | .indexAddr t x ix=>
  match ρ x,ρ ix with
  | some a,some i=>
   match sliceElem E t with
   | some j=>.ofV σ (aIndexS j.size a i σ)
   | none=>match arrayOf E t with
    | some (n,j)=>.ofV σ (aIndexA n j.size a i)
    | none=>.bad
  | _,_=>.bad
 | .index t x ix=>
  match ρ x,ρ ix with
  | some a,some i=>
   match arrayOf E t with
   | some (n,j)=>.ofV σ (aIndexV n j.isA j.size a i)
   | none=>match E.ty t with
    | some ti=>match ti.desc with
     | .string=>.ofV σ (aIndexStr a i)
     | _=>.bad
    | none=>.bad
  | _,_=>.bad
 | .lookup t x ix ok=>
  match mapOf E t,ρ x,ρ ix with
  | some (ki,ei),some a,some k=>.ofV σ (aLookup ki.desc ei.zero ok a k σ)
  | _,_,_=>.bad
 | .mapUpdate t m k x|.insert t m k x=>
  match mapOf E t,ρ m,ρ k,ρ x with
  | some (ki,_),some a,some k,some v=>.ofS (aMapSet ki.desc a k v σ)
  | _,_,_,_=>.bad
 | .range t x=>
  match E.ty t,ρ x with
  | some i,some a=>.ofO (aRange i.desc a σ)
  | _,_=>.bad
 | .next it isS=>
  match ρ it with
  | some a=>.ofL (aNext a isS σ)
  | none=>.bad
 | .entry it=>
  match ρ it with
  | some a=>.ofV σ (aEntry a σ)
  | none=>.bad
 | .typeAssert x _ t ok=>
  match E.ty t,ρ x with
  | some i,some a=>.ofV σ (aAssert i.desc t i.zero ok a)
  | _,_=>.bad
 | .extract t ix=>
  match ρ t with
  | some a=>.ofV σ (aExtract a ix)
  | none=>.bad
 | .call c=>
  match allSome ρ c.args.toList with
  | some args=>
   match c.callee with
   | .builtin b=>aBuiltin E b c.argTypes.toList args σ
   | .value f=>
    match ρ f with
    | some (.func (.func g) first cap)=>if E.fns g=true then .enter (.fn g) (first++args++cap) else if E.nes g=true then (match first++args++cap with|[x]=>.val x σ|_=>.bad) else .bad
    | some (.yld b)=>match σ.get b with
     | some (.loop _ _ ps _ _ _ nt _)=>if args.length=ps.size/\(ps.toList.all fun t=>Nat.blt t nt)=true/\nt < 1000000 then .enter (.yld b) args else .bad
     | _=>.bad
    | _=>.bad
   | .invoke _ _=>.bad
  | none=>.bad
 | .defer c=>
  match allSome ρ c.args.toList with
  | some args=>
   match c.callee with
   | .value f=>
    match ρ f with
    | some (.func (.func g) first cap)=>.dfr ⟨.func g,cap,first++args⟩
    | _=>.bad
   | _=>.bad
  | none=>.bad
 | .panic x=>
  match ρ x with
  | some (.iface t v)=>.pan (.iface t v)
  | _=>.bad
 | _=>.bad
structure DefRel (n:Nat) (ι:Inj) (H:Imm) (d:ADef) (d':Deferred):Prop where
 tgt:∃ cap':List Value,d'.target=.fn d.fn cap'.toArray/\LRel n ι H d.cap cap'
 args:∃ args':List Value,d'.args=args'.toArray/\LRel n ι H d.args args'
 ny:∃ g,d.fn=.func g
def ValRel (E:Env) (ι:Inj) (H:Imm) (σ:AStore) (r:Result Next) (v:AVal) (σ':AStore):Prop:=
 ∃ v' w' ι' H',r=.ok (.value v') w'/\VRel σ'.next ι' H' v v'/\Rel E ι' H' σ' w'/\Ext σ.next ι H σ'.next ι' H'
def ResRel (E:Env) (ι:Inj) (H:Imm) (σ:AStore) (w:World) (r:Result Next):ARes->Prop
  | .val v σ'=>ValRel E ι H σ r v σ'
  | .vals l=>∃ p∈l,ValRel E ι H σ r p.1 p.2
  | .skip σ'=>∃ w',r=.ok .skip w'/\Rel E ι H σ' w'/\σ'.next=σ.next
  | .enter (.fn f) args=>∃ args':List Value,r=.ok (.enter f args'.toArray) w/\LRel σ.next ι H args args'
  | .enter (.yld b) args => ∃ args' : List Value, LRel σ.next ι H args args' ∧ ∃ st pend ps as bd tm nt d fn tmps, σ.get b = some (.loop st pend ps as bd tm nt d) ∧ args.length = ps.size ∧ (ps.toList.all fun t => Nat.blt t nt) = true ∧ nt < 1000000 ∧
      tmps.size=nt/\(∀ t v,tm.get t=some v->t < nt/\VRel σ.next ι H v (tmps.getD t undef))/\
      r=.ok (.round (ι b).blk fn ((ps.toList.zip args').foldl (fun tmps x=>tmps.setIfInBounds x.1 x.2) tmps) as bd) w
  | .dfr d=>∃ d',r=.ok (.defer d') w/\DefRel σ.next ι H d d'
  | .pan v=>∃ v',r=.halt (.panic v') w/\VRel σ.next ι H v v'
  | .recov=>r=.ok .recover w
  | .bad=>True
section
variable {E:Env} {ι:Inj} {H:Imm} {σ σ':AStore} {w:World}
theorem SndV.next {r:Result Value} {v:AVal} (h:SndV E ι H σ r v σ'):ValRel E ι H σ (r.andThen fun a w'=>.ok (.value a) w') v σ':=by
 obtain ⟨v',w',ι',H',rfl,h⟩:=h
 exact ⟨v',w',ι',H',rfl,h⟩
theorem ResRel.ofO {r:Result Value} {o:Option (AVal×AStore)} (h:∀ v σ',o=some (v,σ')->SndV E ι H σ r v σ'):
  ResRel E ι H σ w (r.andThen fun a w'=>.ok (.value a) w') (.ofO o):=by
 cases o with
 | none=>trivial
 | some p=>obtain ⟨v,σ'⟩:=p; exact (h v σ' rfl).next
theorem ResRel.ofV {r:Result Value} {o:Option AVal} (h:∀ v,o=some v->SndV E ι H σ r v σ):
  ResRel E ι H σ w (r.andThen fun a w'=>.ok (.value a) w') (.ofV σ o):=by
 cases o with
 | none=>trivial
 | some v=>exact (h v rfl).next
theorem ResRel.ofS {r:Result Unit} {o:Option AStore} (h:∀ σ',o=some σ'->∃ w',r=.ok () w'/\Rel E ι H σ' w'/\σ'.next=σ.next):
  ResRel E ι H σ w (r.andThen fun _ w'=>.ok .skip w') (.ofS o):=by
 cases o with
 | none=>trivial
 | some σ'=>obtain ⟨w',rfl,h1,h2⟩:=h σ' rfl; exact ⟨w',rfl,h1,h2⟩
def RhoRel (n:Nat) (ι:Inj) (H:Imm) (ρ:ARho) (ρ':Operand->Value):Prop:=∀ x v,ρ x=some v->VRel n ι H v (ρ' x)
theorem allSome_rel {n:Nat} {ρ:ARho} {ρ':Operand->Value} (hρ:RhoRel n ι H ρ ρ'):∀ {xs:List Operand} {vs:List AVal},allSome ρ xs=some vs->LRel n ι H vs (xs.map ρ')
  | [],vs,h=>by simp [allSome] at h; subst h; exact .nil
  | x :: xs, vs, h => by
      unfold allSome at h
      split at h
      · rename_i v vs' h1 h2
        cases h
        exact .cons _ _ _ _ (hρ x v h1) (allSome_rel hρ h2)
      · cases h
theorem partsSome_rel {n : Nat} {ρ : ARho} {ρ' : Operand → Value} (hρ : RhoRel n ι H ρ ρ') : ∀ {xs : List (Nat × Operand)} {vs : List (Nat × AVal)}, partsSome ρ xs = some vs →
    PRel n ι H vs (xs.map fun (i,x)=>(i,ρ' x))
  | [],vs,h=>by simp [partsSome] at h; subst h; exact .nil
  | (i, x) :: xs, vs, h => by
      unfold partsSome at h
      split at h
      · rename_i v vs' h1 h2
        cases h
        exact .cons _ _ _ _ _ (hρ x v h1) (partsSome_rel hρ h2)
      · cases h
theorem optSome_rel {n:Nat} {ρ:ARho} {ρ':Operand->Value} (hρ:RhoRel n ι H ρ ρ') {x:Option Operand} {v:Option AVal} (h:optSome ρ x=some v):ORel n ι H v (x.map ρ'):=by
 cases x with
 | none=>simp [optSome] at h; subst h; exact .none
 | some x=>
  simp only [optSome] at h
  cases hx:ρ x with
  | none=>simp [hx] at h
  | some y=>simp [hx] at h; subst h; exact .some _ _ (hρ x y hx)
theorem sliceElem_some {t:TypeId} {j:TyI} (h:sliceElem E t=some j):∃ i e,E.ty t=some i/\i.desc=.slice e/\E.ty e=some j:=by
 unfold sliceElem at h
 split at h
 ·rename_i i hi
  split at h
  ·rename_i e he; exact ⟨i,e,hi,he,h⟩
  ·cases h
 ·cases h
theorem arrayOf_some {t:TypeId} {p:Nat×TyI} (h:arrayOf E t=some p):∃ i e,E.ty t=some i/\i.desc=.array p.1 e/\E.ty e=some p.2:=by
 unfold arrayOf at h
 split at h
 ·rename_i i hi
  split at h
  ·rename_i n e he
   cases hj:E.ty e with
   | none=>simp [hj] at h
   | some j=>simp [hj] at h; subst h; exact ⟨i,e,hi,he,hj⟩
  ·cases h
 ·cases h
theorem fieldOf_some {t:TypeId} {f:Nat} {p:Nat×TyI} (h:fieldOf E t f=some p):∃ i fs fd,E.ty t=some i/\i.desc=.struct fs/\fs[f]?=some fd/\fd.offset=p.1/\E.ty fd.type=some p.2:=by
 unfold fieldOf at h
 split at h
 ·rename_i i hi
  split at h
  ·rename_i fs he
   split at h
   ·rename_i fd hfd
    cases hj:E.ty fd.type with
    | none=>simp [hj] at h
    | some j=>simp [hj] at h; subst h; exact ⟨i,fs,fd,hi,he,hfd,rfl,hj⟩
   ·cases h
  ·cases h
 ·cases h
theorem mapOf_some {t:TypeId} {p:TyI×TyI} (h:mapOf E t=some p):∃ i k e,E.ty t=some i/\i.desc=.map k e/\E.ty k=some p.1/\E.ty e=some p.2:=by
 unfold mapOf at h
 split at h
 ·rename_i i hi
  split at h
  ·rename_i k e he
   split at h
   ·rename_i a b h1 h2; cases h; exact ⟨i,k,e,hi,he,h1,h2⟩
   ·cases h
  ·cases h
 ·cases h
theorem run_max2 (big:Bool) (P:Program):∀ (xs:List AVal) (ws:List Value) (x:AVal) (x':Value) {n:Nat} {v:AVal},LRel n ι H xs ws->VRel n ι H x x'->xs.foldl (max2 big) (some x)=some v->
  ∃ v',(ws.foldlM (if big then Builtin.max2 else Builtin.min2) x':Sem Value).run P w=.ok v' w/\VRel n ι H v v':=by
 intro xs
 induction xs with
 | nil=>
  intro ws x x' n v h hx hf
  cases h
  simp at hf
  subst hf
  exact ⟨x',by simp,hx⟩
 | cons y ys ih=>
  intro ws x x' n v h hx hf
  cases h with
  | cons _ y' _ ws hy hs=>
   simp only [List.foldl_cons] at hf
   have hnone:∀ l:List AVal,l.foldl (max2 big) none=none:=by
    intro l
    induction l with
    | nil=>rfl
    | cons a l ih=>simpa [max2] using ih
   cases hm:max2 big (some x) y with
   | none=>rw [hm,hnone] at hf; cases hf
   | some z=>
    rw [hm] at hf
    unfold max2 at hm
    split at hm
    ·rename_i _ _ k a k' b h1
     obtain rfl:=Option.some.inj h1
     obtain rfl:=hx.sc_inv
     obtain rfl:=hy.sc_inv
     cases hm
     obtain ⟨v',r1,r2⟩:=ih ws _ (.int k (if big then (if b > a then b else a) else (if b < a then b else a))) hs (.sc _) hf
     refine ⟨v',?_,r2⟩
     rw [<-r1]
     cases big<;>simp [Builtin.max2,Builtin.min2]
    ·cases hm
end
end Abs
end
noncomputable section
namespace Abs
open Go
section
variable {E:Env} {ι:Inj} {H:Imm} {σ σ':AStore} {w:World}
theorem run_callFunc {f:FuncId} (hf:E.fns f=true) (args:Array Value):(callFunc f args).run E.P w=.ok (.enter f args) w:=by
 obtain ⟨fn,h1,h2,h3⟩:=E.fok f hf
 simp only [callFunc,Sem.run_bind,run_program,Result.andThen_ok,h1,h2,h3,Bool.false_eq_true,if_false,Sem.run_pure]
theorem run_noesc {f:FuncId} (hf:E.nes f=true) (x:Value):(callFunc f #[x]).run E.P w=.ok (.value x) w:=by
 obtain ⟨fn,h1,h2,h3,h4,h5⟩:=E.nok f hf
 have h6:(mark (Mark.extern f)).run E.P w=.ok () w:=rfl
 simp only [callFunc,Sem.run_bind,run_program,Result.andThen_ok,h1,h2,h3,h4,h5,h6,Bool.false_eq_true,if_false,if_true,Sem.run_pure,Lib.run_noEscape]
theorem LRel.cons_inv {n:Nat} {v:AVal} {vs:List AVal} {ws:List Value} (h:LRel n ι H (v::vs) ws):∃ w ws',ws=w::ws'/\VRel n ι H v w/\LRel n ι H vs ws':=by
 cases h; exact ⟨_,_,rfl,by assumption,by assumption⟩
theorem LRel.nil_inv {n:Nat} {ws:List Value} (h:LRel n ι H [] ws):ws=[]:=by cases h; rfl
theorem aBuiltin_sound (hR:Rel E ι H σ w) {b:Builtin} {ats:Array TypeId} {args:List AVal} {args':List Value} (ha:LRel σ.next ι H args args') (rt:TypeId) (cs:Array Bool):
  ResRel E ι H σ w ((builtin b ats rt cs args'.toArray).run E.P w) (aBuiltin E b ats.toList args σ):=by
 have v:∀ s:Sem Value,((do pure (Next.value (<-s)):Sem Next)).run E.P w=(s.run E.P w).andThen fun a w'=>.ok (.value a) w':=fun s=>by simp
 unfold aBuiltin
 split
 ·rename_i t t2 s x hats
  obtain ⟨s',_,rfl,hs,ha⟩:=ha.cons_inv
  obtain ⟨x',_,rfl,hx,ha⟩:=ha.cons_inv
  obtain rfl:=ha.nil_inv
  obtain rfl:ats=#[t,t2]:=by cases ats; simpa using hats
  split
  ·rename_i j i2 hj hi2
   split
   ·rename_i hc
    split
    ·rename_i xs hxs
     obtain ⟨i,e,h1,h2,h3⟩:=sliceElem_some hj
     simp only [builtin,v]
     refine ResRel.ofO fun y σ' hy=>?_
     refine appTag_sound ?_ ⟨e,i,h1,h2⟩ hy
     intro e' i' g1 g2 y σ' hy
     rw [h1] at g1
     cases g1
     rw [h2] at g2
     cases g2
     refine aAppend_sound hR h1 h2 h3 hc.1 hi2 ?_ hs hx hxs hy rt
     have:=hc.2
     unfold srcOk at this
     split at this
     ·rename_i e he; exact .inl ⟨e,he⟩
     ·rename_i he; exact .inr he
     ·cases this
    ·trivial
   ·trivial
  ·trivial
 ·rename_i t x hats
  obtain ⟨x',_,rfl,hx,ha⟩:=ha.cons_inv
  obtain rfl:=ha.nil_inv
  obtain rfl:ats=#[t]:=by cases ats; simpa using hats
  split
  ·rename_i i hi
   simp only [builtin,v]
   exact ResRel.ofV fun y hy=>aLen_sound hR hi hx hy rt rfl
  ·trivial
 ·rename_i t tr d s hats
  obtain ⟨d',_,rfl,hd,ha⟩:=ha.cons_inv
  obtain ⟨s',_,rfl,hs,ha⟩:=ha.cons_inv
  obtain rfl:=ha.nil_inv
  have h0:ats[0]?=some t:=by cases ats; simp at hats; simp [hats]
  split
  ·rename_i j hj
   obtain ⟨i,e,h1,h2,h3⟩:=sliceElem_some hj
   simp only [builtin,v]
   exact ResRel.ofO fun y σ' hy=>aCopy_sound hR h1 h2 h3 hd hs hy rt h0
  ·trivial
 ·rename_i t tr m k hats
  obtain ⟨m',_,rfl,hm,ha⟩:=ha.cons_inv
  obtain ⟨k',_,rfl,hk,ha⟩:=ha.cons_inv
  obtain rfl:=ha.nil_inv
  have h0:ats[0]?=some t:=by cases ats; simp at hats; simp [hats]
  split
  ·rename_i ki ei hj
   obtain ⟨i,kt,et,h1,h2,h3,h4⟩:=mapOf_some hj
   split
   ·rename_i σ1 hσ
    obtain ⟨w',r1,r2,r3⟩:=aMapDel_sound hR h1 h2 h3 hm hk hσ rt h0
    refine ⟨.tuple #[],w',ι,H,?_,.tuple [] [] .nil,r2,⟨by omega,fun _ _=>rfl,Imm.Le.refl _⟩⟩
    simp only [builtin,v,r1,Result.andThen_ok]
   ·trivial
  ·trivial
 ·rename_i x xs
  obtain ⟨x',ws,rfl,hx,ha⟩:=ha.cons_inv
  simp only [builtin,v]
  refine ResRel.ofV fun y hy=>?_
  obtain ⟨v',r1,r2⟩:=run_max2 (w:=w) true E.P xs ws x x' ha hx hy
  exact SndV.same hR (by simpa [Builtin.max_] using r1) r2
 ·rename_i x xs
  obtain ⟨x',ws,rfl,hx,ha⟩:=ha.cons_inv
  simp only [builtin,v]
  refine ResRel.ofV fun y hy=>?_
  obtain ⟨v',r1,r2⟩:=run_max2 (w:=w) false E.P xs ws x x' ha hx hy
  exact SndV.same hR (by simpa [Builtin.min_] using r1) r2
 ·simp [ResRel,builtin]
 ·rename_i x
  obtain ⟨x',_,rfl,hx,ha⟩:=ha.cons_inv
  obtain rfl:=ha.nil_inv
  simp only [builtin,v]
  exact ResRel.ofV fun y hy=>aSliceData_sound hR hx hy ats rt
 ·rename_i pt it p n hats
  obtain ⟨p',_,rfl,hp,ha⟩:=ha.cons_inv
  obtain ⟨n',_,rfl,hn,ha⟩:=ha.cons_inv
  obtain rfl:=ha.nil_inv
  obtain rfl:ats=#[pt,it]:=by cases ats; simpa using hats
  simp only [builtin,v]
  exact ResRel.ofO fun y σ' hy=>aUStr_sound hR hp hn hy rt
 ·trivial
theorem aOp_sound (hR:Rel E ι H σ w) {ρ:ARho} {ρ':Operand->Value} (hρ:RhoRel σ.next ι H ρ ρ') (lit:Bool) (o:Oper):ResRel E ι H σ w ((execOp ρ' o).run E.P w) (aOp E lit o.op ρ σ):=by
  have v:∀ s:Sem Value,((do pure (Next.value (<-s)):Sem Next)).run E.P w=(s.run E.P w).andThen fun a w'=>.ok (.value a) w':=fun s=>by simp
  have u:∀ s:Sem Unit,((do s; pure Next.skip:Sem Next)).run E.P w=(s.run E.P w).andThen fun _ w'=>.ok .skip w':=fun s=>by simp
  have mv:∀ x,ResRel E ι H σ w (.ok (.value (ρ' x)) w) (.ofV σ (ρ x)):=by
    intro x
    cases hx:ρ x with
    | none=>trivial
    | some y=>exact ⟨_,w,ι,H,rfl,hρ x y hx,hR,Ext.refl _ _ _⟩
  obtain ⟨dst,op,ty,pos,after,guard⟩:=o
  cases op
  case move x=>exact mv x
  case assign x=>exact mv x
  case pick c a b=>
    simp only [aOp]
    split
    · rename_i t ht
      have hc:=(hρ c _ ht).sc_inv
      simp only [execOp,Sem.run_bind,hc,asBool,Sem.run_pure,Result.andThen_ok]
      cases t<;>simp<;>exact mv _
    · trivial
  case alloc t=>
    simp only [aOp]
    split
    · rename_i i hi
      simp only [execOp,v]
      refine ResRel.ofO fun y σ' hy=>?_
      refine SndT.tag (tg:=isBld (absV i.zero)) (el:=t) ?_ hy
      intro y σ' hy
      have:=aNew_sound hR t (absV_rel _ _ _ i.zero) hy
      obtain ⟨v',w',ι',H',h1,h2,h3,h4,h5⟩:=this
      refine ⟨v',w',ι',H',?_,h2,h3,h4,fun _=>h5 rfl⟩
      simpa [Instr.alloc,run_zeroValue E.ok hi] using h1
    · trivial
  case box t x=>
    simp only [aOp]
    split
    · rename_i y hy
      simp only [execOp,v]
      exact ResRel.ofO fun z σ' hz=>(aNew_sound hR t (hρ x y hy) hz).snd
    · trivial
  case build t parts=>
    simp only [aOp]
    split
    · rename_i i ps hi hps
      have hp:=partsSome_rel hρ hps
      have e:(parts.map fun (i,x)=>(i,ρ' x)).toList=parts.toList.map fun (i,x)=>(i,ρ' x):=by simp
      rw [<-e] at hp
      split
      · rename_i fs hd
        simp only [execOp,v]
        exact ResRel.ofV fun y hy=>aBuildS_sound hR hi hd hp hy
      · rename_i n el hd
        split
        · rename_i j hj
          simp only [execOp,v]
          exact ResRel.ofV fun y hy=>aBuildA_sound hR hi hd hj hp hy
        · trivial
      · trivial
    · trivial
  case buildSlice t len parts=>
    simp only [aOp]
    split
    · rename_i j ps hj hps
      have hp:=partsSome_rel hρ hps
      have e:(parts.map fun (i,x)=>(i,ρ' x)).toList=parts.toList.map fun (i,x)=>(i,ρ' x):=by simp
      rw [<-e] at hp
      obtain ⟨i,el,h1,h2,h3⟩:=sliceElem_some hj
      simp only [execOp,v]
      cases lit with
      | true=>exact ResRel.ofV fun y hy=>aLitSlice_sound hR h1 h2 h3 hp hy
      | false=>exact ResRel.ofO fun y σ' hy=>aBuildSlice_sound hR h1 h2 h3 hp hy
    · trivial
  case load t a=>
    simp only [aOp]
    split
    · rename_i i p hi hp
      simp only [execOp,v]
      refine ResRel.ofV fun y hy=>?_
      obtain ⟨v',r1,r2⟩:=aLoad_sound hi hR (hρ a p hp) hy
      exact SndV.same hR r1 r2
    · trivial
  case store t a x=>
    simp only [aOp]
    split
    · rename_i i p y hi hp hy
      simp only [execOp,u]
      exact ResRel.ofS fun σ' h=>aStore_sound hi hR (hρ a p hp) (hρ x y hy) h
    · trivial
  case nilCheck x=>
    simp only [aOp]
    split
    · rename_i b i k hx
      have h:=hρ x _ hx
      obtain ⟨_,he⟩:=h.ptr_inv
      refine ⟨_,w,ι,H,?_,h,hR,Ext.refl _ _ _⟩
      simp only [execOp,he,Sem.run_pure]
    · rename_i cs hx
      have h:=hρ x _ hx
      obtain ⟨_,_,he,_⟩:=h.iptr_inv
      refine ⟨_,w,ι,H,?_,h,hR,Ext.refl _ _ _⟩
      simp only [execOp,he,Sem.run_pure]
    · rename_i f a b hx
      have h:=hρ x _ hx
      obtain ⟨_,_,he,_⟩:=h.func_inv
      refine ⟨_,w,ι,H,?_,h,hR,Ext.refl _ _ _⟩
      simp only [execOp,he,Sem.run_pure]
    · rename_i t y hx
      have h:=hρ x _ hx
      obtain ⟨_,he,_⟩:=h.iface_inv
      refine ⟨_,w,ι,H,?_,h,hR,Ext.refl _ _ _⟩
      simp only [execOp,he,Sem.run_pure]
    · trivial
  case binOp op t x y yt=>
    simp only [aOp]
    split
    · rename_i i a b hi ha hb
      simp only [execOp,v]
      exact ResRel.ofV fun z hz=>aBin2_sound hR hi (hρ x a ha) (hρ y b hb) hz
    · trivial
  case unOp op t x=>
    simp only [aOp]
    split
    · rename_i a ha
      simp only [execOp,v]
      exact ResRel.ofV fun z hz=>aUn_sound hR (hρ x a ha) hz
    · trivial
  case convert s d x=>
    simp only [aOp]
    split
    · rename_i i j a hi hj ha
      simp only [execOp,v]
      exact ResRel.ofO fun z σ' hz=>aConv_sound hR hi hj (hρ x a ha) hz
    · trivial
  case makeInterface t x=>
    simp only [aOp]
    split
    · rename_i i a hi ha
      simp only [execOp,v]
      exact ResRel.ofV fun z hz=>aIface_sound hR hi (hρ x a ha) hz
    · trivial
  case makeFunc fn first captured=>
    simp only [aOp]
    split
    · rename_i a b ha hb
      have h1:=allSome_rel hρ ha
      have h2:=allSome_rel hρ hb
      refine ⟨.func fn (first.map ρ') (captured.map ρ'),w,ι,H,?_,?_,hR,Ext.refl _ _ _⟩
      · simp [execOp,Instr.makeFunc]
      · have:=VRel.func fn a b _ _ h1 h2
        rw [<-Array.toList_map,<-Array.toList_map,Array.toArray_toList,Array.toArray_toList] at this
        exact this
    · trivial
  case makeMap t r=>
    have fin:ValRel E ι H σ (.ok (.value (.map (some w.heap.size))) {w with heap:=w.heap.push (.map #[] 0)}) (.map σ.next) (σ.alloc (.map [] 0)):=by
      refine ⟨_,_,upd ι σ.next ⟨w.heap.size,0,0,0,0⟩,H,rfl,?_,hR.alloc rfl ⟨#[],by simp,.nil,by simp,by simp,by simp⟩,Ext.upd _ _ _ _⟩
      have:=VRel.map (n:=σ.next+1) (ι:=upd ι σ.next ⟨w.heap.size,0,0,0,0⟩) (H:=H) σ.next (by omega)
      simp only [upd_self] at this
      exact this
    cases r with
    | none=>
      simp only [aOp]
      exact fin
    | some r=>
      simp only [aOp]
      split
      · rename_i p k n hp hr
        obtain ⟨i,kt,et,h1,h2,h3,h4⟩:=mapOf_some hp
        have hc:=(hρ r _ hr).sc_inv
        have : (execOp ρ' { dst := dst, op := .makeMap t (some r), type := ty, pos := pos, after := after, guard := guard }).run E.P w =
            .ok (.value (.map (some w.heap.size))) {w with heap:=w.heap.push (.map #[] 0)}:=by
          simp [execOp,Instr.makeMap,run_underlying E.ok h1,h2,hc,asInt,asIntOf]
        rw [this]
        exact fin
      · trivial
  case makeSlice t l c=>
    simp only [aOp]
    split
    · rename_i j a b hj ha hb
      obtain ⟨i,el,h1,h2,h3⟩:=sliceElem_some hj
      simp only [execOp,v]
      exact ResRel.ofO fun z σ' hz=>aMakeSlice_sound hR h1 h2 h3 (hρ l a ha) (hρ c b hb) hz
    · trivial
  case slice t x lo hi mx=>
    cases mx with
    | some m=>
      simp only [aOp]
      split
      · rename_i i a l h mx hi1 ha hl hh hm
        have o1:=optSome_rel hρ hl
        have o2:=optSome_rel hρ hh
        have o3:=optSome_rel hρ hm
        split
        · rename_i e hd
          split
          · rename_i j hj
            simp only [execOp,v]
            exact ResRel.ofV fun z hz=>aSlice3_sound hR hi1 hd hj (hρ x a ha) o1 o2 o3 hz
          · trivial
        · trivial
      · trivial
    | none=>
      simp only [aOp]
      split
      · rename_i i a l h hi1 ha hl hh
        have o1:=optSome_rel hρ hl
        have o2:=optSome_rel hρ hh
        split
        · rename_i hd
          simp only [execOp,v]
          exact ResRel.ofV fun z hz=>aSliceStr_sound hR hi1 hd (hρ x a ha) o1 o2 hz
        · rename_i e hd
          split
          · rename_i j hj
            simp only [execOp,v]
            exact ResRel.ofV fun z hz=>aSlice_sound hR hi1 hd hj (hρ x a ha) o1 o2 hz
          · trivial
        · rename_i arr hd
          split
          · rename_i ia hia
            split
            · rename_i n e hda
              split
              · rename_i j hj
                simp only [execOp,v]
                exact ResRel.ofO fun z σ' hz=>aSliceArr_sound hR hi1 hd hia hda hj (hρ x a ha) o1 o2 hz
              · trivial
            · trivial
          · trivial
        · rename_i n e hd
          split
          · rename_i j hj
            simp only [execOp,v]
            exact ResRel.ofO fun z σ' hz=>aSliceArr_soundA hR hi1 hd hj (hρ x a ha) o1 o2 hz
          · trivial
        · trivial
      · trivial
  case fieldAddr s x f=>
    simp only [aOp]
    split
    · rename_i off j p hf hp
      obtain ⟨i,fs,fd,h1,h2,h3,h4,h5⟩:=fieldOf_some hf
      simp only at h4 h5
      subst h4
      split
      · rename_i hj
        simp only [execOp,v]
        exact ResRel.ofV fun z hz=>aField_sound hR h1 h2 h3 h5 hj (hρ x p hp) hz
      · trivial
    · trivial
  case field s x f=>
    simp only [aOp]
    split
    · rename_i off j p hf hp
      obtain ⟨i,fs,fd,h1,h2,h3,h4,h5⟩:=fieldOf_some hf
      simp only at h4 h5
      subst h4
      simp only [execOp,v]
      exact ResRel.ofV fun z hz=>aPart_field_sound hR h1 h2 h3 h5 (hρ x p hp) hz
    · trivial
  case indexAddr t x ix=>
    simp only [aOp]
    split
    · rename_i a i ha hi
      split
      · rename_i j hj
        obtain ⟨ti,el,h1,h2,h3⟩:=sliceElem_some hj
        simp only [execOp,v]
        exact ResRel.ofV fun z hz=>aIndexS_sound hR h1 h2 h3 (hρ x a ha) (hρ ix i hi) hz
      · split
        · rename_i n j hj
          obtain ⟨ti,el,h1,h2,h3⟩:=arrayOf_some hj
          simp only [execOp,v]
          exact ResRel.ofV fun z hz=>aIndexA_sound hR h1 h2 h3 (hρ x a ha) (hρ ix i hi) hz
        · trivial
    · trivial
  case index t x ix=>
    simp only [aOp]
    split
    · rename_i a i ha hi
      split
      · rename_i n j hj
        obtain ⟨ti,el,h1,h2,h3⟩:=arrayOf_some hj
        simp only [execOp,v]
        exact ResRel.ofV fun z hz=>aIndexV_sound hR h1 h2 h3 (hρ x a ha) (hρ ix i hi) hz
      · split
        · rename_i ti hti
          split
          · rename_i hd
            simp only [execOp,v]
            exact ResRel.ofV fun z hz=>aIndexStr_sound hR hti hd (hρ x a ha) (hρ ix i hi) hz
          · trivial
        · trivial
    · trivial
  case lookup t x ix ok=>
    simp only [aOp]
    split
    · rename_i ki ei a k hm ha hk
      obtain ⟨i,kt,et,h1,h2,h3,h4⟩:=mapOf_some hm
      simp only [execOp,v]
      exact ResRel.ofV fun z hz=>aLookup_sound hR h1 h2 h3 h4 (hρ x a ha) (hρ ix k hk) hz
    · trivial
  case mapUpdate t m k x=>
    simp only [aOp]
    split
    · rename_i ki ei a b c hm ha hb hc
      obtain ⟨i,kt,et,h1,h2,h3,h4⟩:=mapOf_some hm
      simp only [execOp,u]
      exact ResRel.ofS fun σ' h=>aMapSet_sound hR h1 h2 h3 (hρ m a ha) (hρ k b hb) (hρ x c hc) h
    · trivial
  case insert t m k x=>
    simp only [aOp]
    split
    · rename_i ki ei a b c hm ha hb hc
      obtain ⟨i,kt,et,h1,h2,h3,h4⟩:=mapOf_some hm
      simp only [execOp,u]
      exact ResRel.ofS fun σ' h=>aMapSet_sound hR h1 h2 h3 (hρ m a ha) (hρ k b hb) (hρ x c hc) h
    · trivial
  case range t x=>
    simp only [aOp]
    split
    · rename_i i a hi ha
      simp only [execOp,v]
      exact ResRel.ofO fun z σ' hz=>aRange_sound hR hi (hρ x a ha) hz
    · trivial
  case next it isS=>
    simp only [aOp]
    split
    · rename_i a ha
      simp only [execOp,v]
      cases hn:aNext a isS σ with
      | none=>trivial
      | some l=>
        obtain ⟨p,hp,h⟩:=aNext_sound hR (hρ it a ha) hn ty
        exact ⟨p,hp,h.next⟩
    · trivial
  case entry it=>
    simp only [aOp]
    split
    · rename_i a ha
      simp only [execOp,v]
      exact ResRel.ofV fun z hz=>aEntry_sound hR (hρ it a ha) hz
    · trivial
  case typeAssert x xt t ok=>
    simp only [aOp]
    split
    · rename_i i a hi ha
      simp only [execOp,v]
      exact ResRel.ofV fun z hz=>aAssert_sound hR hi (hρ x a ha) hz
    · trivial
  case extract t ix=>
    simp only [aOp]
    split
    · rename_i a ha
      simp only [execOp,v]
      exact ResRel.ofV fun z hz=>aExtract_sound hR (hρ t a ha) hz
    · trivial
  case call c=>
    obtain ⟨callee,args,ats⟩:=c
    simp only [aOp]
    split
    · rename_i as has
      have h1:=allSome_rel hρ has
      cases callee with
      | builtin b=>
        simp only []
        have key:∀ cs,ResRel E ι H σ w ((builtin b ats ty cs (args.map ρ')).run E.P w) (aBuiltin E b ats.toList as σ):=by
          intro cs
          have:=aBuiltin_sound hR (b:=b) (ats:=ats) h1 ty cs
          rw [<-Array.toList_map,Array.toArray_toList] at this
          exact this
        simp only [execOp,resolve,invoke,Sem.run_bind,Sem.run_pure,Result.andThen_ok]
        exact key _
      | value f=>
        simp only []
        split
        · rename_i g first cap hf
          split
          · rename_i hg
            obtain ⟨fs',cs',he,hfs,hcs⟩:=(hρ f _ hf).func_inv
            refine ⟨fs'++args.toList.map ρ'++cs',?_,(hfs.append h1).append hcs⟩
            simp [execOp,resolve,invoke,he,Deferred.ofValue,run_callFunc hg]
          · split
            · rename_i hg
              split
              · rename_i x hx
                obtain ⟨fs',cs',he,hfs,hcs⟩:=(hρ f _ hf).func_inv
                have hl:=(hfs.append h1).append hcs
                rw [hx] at hl
                obtain ⟨x',_,hx',hxr,hn⟩:=hl.cons_inv
                obtain rfl:=hn.nil_inv
                refine ⟨x',w,ι,H,?_,hxr,hR,Ext.refl _ _ _⟩
                have h7:fs'.toArray++args.map ρ'++cs'.toArray=#[x']:=by
                  apply Array.ext'
                  simpa using hx'
                have:=run_noesc (w:=w) hg x'
                rw [<-h7] at this
                simp only [execOp,resolve,invoke,he,Deferred.ofValue,Sem.run_bind,Sem.run_pure,Result.andThen_ok]
                exact this
              · trivial
            · trivial
        · rename_i b hf
          split
          · rename_i st pend ps as bd tm nt d hg
            split
            · rename_i hc
              obtain ⟨hc1,hc2,hc3⟩:=hc
              obtain ⟨he,hb⟩:=(hρ f _ hf).yld_inv
              obtain ⟨z,hd,fn,tmps,g1,g2,g3⟩:=(hR.live b _ hg).1
              have hl:=h1.length
              refine ⟨args.toList.map ρ',h1,st,pend,ps,as,bd,tm,nt,d,fn,tmps,hg,hc1,hc2,hc3,g2,g3,?_⟩
              have hsz:(args.map ρ').size=ps.size:=by simp; simp at hl; omega
              have hz:(Array.zip ps (args.map ρ')).foldl (fun tmps (x:Tmp×Value)=>tmps.setIfInBounds x.1 x.2) tmps=((ps.toList.zip (args.toList.map ρ')).foldl (fun tmps x=>tmps.setIfInBounds x.1 x.2) tmps):=by
                rw [<-Array.foldl_toList]
                simp
              have hgo:(getObj (ι b).blk).run E.P w=.ok (.loop ⟨st,pend,fn,tmps,ps,as,bd,(ι d).blk⟩) w:=by simp [getObj,Sem.run,g1]
              simp [execOp,resolve,invoke,he,Deferred.ofValue,Instr.yield,Instr.getLoop,hgo,hsz,<-hz]
            · trivial
          · trivial
        · trivial
      | invoke r m=>trivial
    · trivial
  case defer c=>
    obtain ⟨callee,args,ats⟩:=c
    simp only [aOp]
    split
    · rename_i as has
      have h1:=allSome_rel hρ has
      cases callee with
      | builtin b=>trivial
      | value f=>
        simp only []
        split
        · rename_i fn first cap hf
          obtain ⟨fs',cs',he,hfs,hcs⟩:=(hρ f _ hf).func_inv
          refine ⟨{target:=.fn (.func fn) cs'.toArray,args:=(fs'++args.toList.map ρ').toArray},?_,⟨cs',rfl,hcs⟩,⟨_,rfl,hfs.append h1⟩,⟨_,rfl⟩⟩
          simp [execOp,resolve,he,Deferred.ofValue]
        · trivial
      | invoke r m=>trivial
    · trivial
  case panic x=>
    simp only [aOp]
    split
    · rename_i t y hx
      have h:=hρ x _ hx
      obtain ⟨y',he,hy⟩:=h.iface_inv
      refine ⟨_,?_,h⟩
      simp [execOp,he,Instr.panic]
    · trivial
  all_goals trivial
end
end Abs
end
noncomputable section
namespace Abs
open Go
structure AAct where
 tmps:T AVal
 n:Nat
 defers:List ADef
def AAct.ev (G:Nat->AVal) (a:AAct):ARho
 | .tmp t=>a.tmps.get t
 | .const v=>some (absV v)
 | .global g=>some (G g)
 | .func f=>some (.func (.func f) [] [])
def AAct.put (a:AAct) (dst:Option Tmp) (x:Option AVal):AAct:=
 match a with
 | ⟨t,n,ds⟩=>match dst with
  | some d=>⟨T.put 20 t d x,n,ds⟩
  | none=>⟨t,n,ds⟩
theorem AAct.put_eq (a:AAct) (dst:Option Tmp) (x:Option AVal):a.put dst x=match dst with
  | some d=>{a with tmps:=T.put 20 a.tmps d x}
  | none=>a:=by
 cases a; cases dst<;>rfl
def AAct.fits (a:AAct) (dst:Option Tmp):Bool:=
 match dst with
 | some d=>Nat.blt d a.n && Nat.blt a.n 1000000
 | none=>true
inductive DefsRel (n:Nat) (ι:Inj) (H:Imm):List ADef->List Deferred->Prop
 | nil:DefsRel n ι H [] []
 | cons (d:ADef) (d':Deferred) (ds:List ADef) (ds':List Deferred) (h:DefRel n ι H d d') (hs:DefsRel n ι H ds ds'):DefsRel n ι H (d::ds) (d'::ds')
 | mark (b:Nat) (ds:List ADef) (ds':List Deferred) (h:b < n) (hs:DefsRel n ι H ds ds'):DefsRel n ι H (⟨.yield b,[],[]⟩::ds) ({target:=.collected (ι b).blk,args:=#[]}::ds')
structure ActRel (n:Nat) (ι:Inj) (H:Imm) (a:AAct) (a':Act):Prop where
 size:a'.tmps.size=a.n
 tmps:∀ t v,a.tmps.get t=some v->t < a.n/\VRel n ι H v (a'.tmps.getD t undef)
 defers:DefsRel n ι H a.defers a'.defers
section
variable {n n':Nat} {ι ι':Inj} {H H':Imm}
theorem DefRel.ext (he:Ext n ι H n' ι' H') {d:ADef} {d':Deferred} (h:DefRel n ι H d d'):DefRel n' ι' H' d d':=by
 obtain ⟨⟨c,h1,h2⟩,⟨a,h3,h4⟩,h5⟩:=h
 exact ⟨⟨c,h1,h2.ext he⟩,⟨a,h3,h4.ext he⟩,h5⟩
theorem DefsRel.ext (he:Ext n ι H n' ι' H'):∀ {d:List ADef} {d':List Deferred},DefsRel n ι H d d'->DefsRel n' ι' H' d d'
 | _,_,.nil=>.nil
 | _,_,.cons d d' ds ds' h hs=>.cons d d' ds ds' (h.ext he) (hs.ext he)
 | _,_,.mark b ds ds' h hs=>by rw [<-he.inj b h]; exact .mark b ds ds' (Nat.lt_of_lt_of_le h he.next) (hs.ext he)
theorem ActRel.ext (he:Ext n ι H n' ι' H') {a:AAct} {a':Act} (h:ActRel n ι H a a'):ActRel n' ι' H' a a':=
 ⟨h.size,fun t v ht=>⟨(h.tmps t v ht).1,(h.tmps t v ht).2.ext he⟩,h.defers.ext he⟩
theorem ActRel.put {a:AAct} {a':Act} (h:ActRel n ι H a a') {dst:Option Tmp} (hf:a.fits dst=true) {v:AVal} {v':Value} (hv:VRel n ι H v v'):
  ActRel n ι H (a.put dst (some v)) (a'.put dst v'):=by
 cases dst with
 | none=>exact h
 | some d=>
  simp only [AAct.fits,Bool.and_eq_true,Nat.blt_eq] at hf
  refine ⟨by simp [Act.put,AAct.put_eq,h.size],?_,h.defers⟩
  intro t x ht
  simp only [AAct.put_eq] at ht ⊢
  rw [T.get_put _ _ _ _ _ (by omega)] at ht
  simp only [Act.put]
  split at ht
  ·rename_i e
   cases ht
   subst e
   refine ⟨hf.1,?_⟩
   have:t < a'.tmps.size:=by rw [h.size]; exact hf.1
   simp [this,hv]
  ·rename_i e
   obtain ⟨h1,h2⟩:=h.tmps t x ht
   refine ⟨h1,?_⟩
   have:(a'.tmps.setIfInBounds d v').getD t undef=a'.tmps.getD t undef:=by
    simp [Array.getD_eq_getD_getElem?,Ne.symm e]
   rw [this]; exact h2
theorem ActRel.rho {E:Env} {σ:AStore} {w:World} (hR:Rel E ι H σ w) {a:AAct} {a':Act} (h:ActRel σ.next ι H a a'):RhoRel σ.next ι H (a.ev E.G) a'.eval:=by
 intro x v hx
 cases x with
 | tmp t=>exact (h.tmps t v hx).2
 | const c=>simp [AAct.ev] at hx; subst hx; exact absV_rel _ _ _ _
 | global g=>simp [AAct.ev] at hx; subst hx; exact hR.glob g
 | func f=>
  simp [AAct.ev] at hx
  subst hx
  exact .func _ [] [] [] [] .nil .nil
end
inductive AEnd where
 | ret (v:AVal)
 | pan (v:AVal)
inductive EndRel (n:Nat) (ι:Inj) (H:Imm):AEnd->Ending->Prop
 | ret (v:AVal) (w:Value) (h:VRel n ι H v w):EndRel n ι H (.ret v) (.returned w)
 | pan (v:AVal) (w:Value) (h:VRel n ι H v w):EndRel n ι H (.pan v) (.panicked [{v:=w,recovered:=false}])
def ACalls (E:Env) (f:FuncId) (args:List AVal) (σ:AStore) (R:AEnd->AStore->Prop):Prop:=
 ∀ ι H w (args':List Value),Rel E ι H σ w->LRel σ.next ι H args args'->
  Calls E.P f args'.toArray w fun e w'=>∃ ι' H' σ' ae,R ae σ'/\EndRel σ'.next ι' H' ae e/\Rel E ι' H' σ' w'/\Ext σ.next ι H σ'.next ι' H'
inductive AExit where
 | normal
 | exit (id:Nat)
 | goto (l:Nat)
 | ret
 | pan (v:AVal)
inductive ExitRel (n:Nat) (ι:Inj) (H:Imm):AExit->Exit->Prop
 | normal:ExitRel n ι H .normal .normal
 | exit (id:Nat):ExitRel n ι H (.exit id) (.exit id)
 | goto (l:Nat):ExitRel n ι H (.goto l) (.goto l)
 | ret:ExitRel n ι H .ret .ret
 | pan (v:AVal) (w:Value) (h:VRel n ι H v w):ExitRel n ι H (.pan v) (.panic [{v:=w,recovered:=false}])
abbrev APred:=AExit->AAct->AStore->Prop
def APost (E:Env) (n:Nat) (ι:Inj) (H:Imm) (Q:APred):Exit->Act->World->Prop:=fun e a' w'=>
 ∃ ι' H' σ' a ae,Q ae a σ'/\ExitRel σ'.next ι' H' ae e/\ActRel σ'.next ι' H' a a'/\Rel E ι' H' σ' w'/\Ext n ι H σ'.next ι' H'
def FR (ι:Inj) (rd:Option Nat):Fence:={Fence.wide with round:=rd.map fun b=>(ι b).blk}
def RdOk (rd:Option Nat) (n:Nat):Prop:=∀ b,rd=some b->b < n
theorem FR_ext {n n':Nat} {ι ι':Inj} {H H':Imm} (he:Ext n ι H n' ι' H') {rd:Option Nat} (hr:RdOk rd n):FR ι' rd=FR ι rd:=by
 cases rd with
 | none=>rfl
 | some b=>simp [FR,he.inj b (hr b rfl)]
theorem RdOk.ext {n n':Nat} {ι ι':Inj} {H H':Imm} (he:Ext n ι H n' ι' H') {rd:Option Nat} (hr:RdOk rd n):RdOk rd n':=fun b hb=>Nat.lt_of_lt_of_le (hr b hb) he.next
theorem FR_none (ι:Inj):FR ι none=Fence.wide:=rfl
theorem callsIn_FR {ι:Inj} {rd:Option Nat} {n:Nat} {P:Program} {f:FuncId} {args:Array Value} {w:World} {R:Ending->World->Prop} (h:Calls P f args w R):CallsIn (FR ι rd) n P f args w R:=by
 have h':=(callsIn_wide (n:=n)).2 h
 cases rd with
 | none=>exact h'
 | some b=>exact CallsIn.inRound _ h'
def AWp (E:Env) (c:Code) (Q:APred) (a:AAct) (σ:AStore):Prop:=
 ∀ ι H w a',Rel E ι H σ w->ActRel σ.next ι H a a'->RdOk E.rd σ.next->c.wpIn (FR ι E.rd) 0 E.P (APost E σ.next ι H Q) a' w
section
variable {E:Env} {Q Q':APred} {a:AAct} {σ:AStore}
theorem APost.trans {n n1:Nat} {ι ι1:Inj} {H H1:Imm} (he:Ext n ι H n1 ι1 H1) {e:Exit} {a':Act} {w:World} (h:APost E n1 ι1 H1 Q e a' w):APost E n ι H Q e a' w:=by
 obtain ⟨ι',H',σ',a,ae,h1,h2,h3,h4,h5⟩:=h
 exact ⟨ι',H',σ',a,ae,h1,h2,h3,h4,he.trans h5⟩
theorem APost.mono {n:Nat} {ι:Inj} {H:Imm} (hq:∀ e a σ,Q e a σ->Q' e a σ) {e:Exit} {a':Act} {w:World} (h:APost E n ι H Q e a' w):APost E n ι H Q' e a' w:=by
 obtain ⟨ι',H',σ',a,ae,h1,h2⟩:=h
 exact ⟨ι',H',σ',a,ae,hq _ _ _ h1,h2⟩
theorem AWp.mono {c:Code} (h:AWp E c Q a σ) (hq:∀ e a σ,Q e a σ->Q' e a σ):AWp E c Q' a σ:=
 fun ι H w a' hR ha hr=>wpIn_mono (h ι H w a' hR ha hr) fun _ _ _=>APost.mono hq
theorem ACalls.mono {f:FuncId} {args:List AVal} {R R':AEnd->AStore->Prop} (h:ACalls E f args σ R) (hr:∀ e σ,R e σ->R' e σ):ACalls E f args σ R':=
 fun ι H w args' hR ha=>(h ι H w args' hR ha).mono fun _ _ ⟨ι',H',σ',ae,h1,h2⟩=>⟨ι',H',σ',ae,hr _ _ h1,h2⟩
theorem apost_normal {n:Nat} {ι:Inj} {H:Imm} {a':Act} {w:World} (hR:Rel E ι H σ w) (ha:ActRel σ.next ι H a a') {ae:AExit} {e:Exit} (hx:ExitRel σ.next ι H ae e)
  (hn:Ext n ι H σ.next ι H) (h:Q ae a σ):APost E n ι H Q e a' w:=⟨ι,H,σ,a,ae,h,hx,ha,hR,hn⟩
theorem AWp.skip (h:Q .normal a σ):AWp E .skip Q a σ:=fun _ _ _ _ hR ha _=>wpIn_skip (apost_normal hR ha .normal (Ext.refl _ _ _) h)
theorem AWp.label {l:Nat} (h:Q .normal a σ):AWp E (.label l) Q a σ:=fun _ _ _ _ hR ha _=>wpIn_label (apost_normal hR ha .normal (Ext.refl _ _ _) h)
theorem AWp.exit {id:Nat} (h:Q (.exit id) a σ):AWp E (.exit id) Q a σ:=fun _ _ _ _ hR ha _=>wpIn_exit (apost_normal hR ha (.exit id) (Ext.refl _ _ _) h)
theorem AWp.goto {l:Nat} (h:Q (.goto l) a σ):AWp E (.goto l) Q a σ:=fun _ _ _ _ hR ha _=>wpIn_goto (apost_normal hR ha (.goto l) (Ext.refl _ _ _) h)
theorem AWp.ret (h:Q .ret a σ):AWp E .ret Q a σ:=fun _ _ _ _ hR ha _=>wpIn_ret (apost_normal hR ha .ret (Ext.refl _ _ _) h)
def AExit.then (next:AAct->AStore->Prop) (Q:APred):APred
 | .normal,a,σ=>next a σ
 | e,a,σ=>Q e a σ
theorem AWp.seq {x y:Code} (h:AWp E x (AExit.then (AWp E y Q) Q) a σ):AWp E (.seq x y) Q a σ:=by
 intro ι H w a' hR ha hr
 refine wpIn_seq (wpIn_mono (h ι H w a' hR ha hr) ?_)
 rintro e a1 w1 ⟨ι1,H1,σ1,a1',ae,hq,hx,ha1,hR1,he1⟩
 cases hx with
 | normal=>
  have h2:=hq ι1 H1 w1 a1 hR1 ha1 (hr.ext he1)
  rw [FR_ext he1 hr] at h2
  exact wpIn_mono h2 fun _ _ _=>APost.trans he1
 | exit id=>exact ⟨ι1,H1,σ1,a1',_,hq,.exit id,ha1,hR1,he1⟩
 | goto l=>exact ⟨ι1,H1,σ1,a1',_,hq,.goto l,ha1,hR1,he1⟩
 | ret=>exact ⟨ι1,H1,σ1,a1',_,hq,.ret,ha1,hR1,he1⟩
 | pan v w hv=>exact ⟨ι1,H1,σ1,a1',_,hq,.pan v w hv,ha1,hR1,he1⟩
theorem AWp.cond {c:Operand} {x y:Code} {b:Bool} (hc:a.ev E.G c=some (.sc (.bool b))) (hx:b=true->AWp E x Q a σ) (hy:b=false->AWp E y Q a σ):AWp E (.cond c x y) Q a σ:=by
 intro ι H w a' hR ha hr
 have:=(ha.rho hR c _ hc).sc_inv
 exact wpIn_cond_split this (fun hb=>hx hb ι H w a' hR ha hr) (fun hb=>hy hb ι H w a' hR ha hr)
def AExit.inBlock (id:Nat) (Q:APred):APred
 | .exit id',a,σ=>if id'=id then Q .normal a σ else Q (.exit id') a σ
 | e,a,σ=>Q e a σ
theorem AWp.block {id:Nat} {c:Code} (h:AWp E c (AExit.inBlock id Q) a σ):AWp E (.block id c) Q a σ:=by
 intro ι H w a' hR ha hr
 refine wpIn_block (wpIn_mono (h ι H w a' hR ha hr) ?_)
 rintro e a1 w1 ⟨ι1,H1,σ1,a1',ae,hq,hx,ha1,hR1,he1⟩
 cases hx with
 | normal=>exact ⟨ι1,H1,σ1,a1',_,hq,.normal,ha1,hR1,he1⟩
 | exit id'=>
  simp only [AExit.inBlock] at hq
  simp only [Exit.inBlock]
  split at hq
  ·rename_i hid; rw [if_pos hid]; exact ⟨ι1,H1,σ1,a1',_,hq,.normal,ha1,hR1,he1⟩
  ·rename_i hid; rw [if_neg hid]; exact ⟨ι1,H1,σ1,a1',_,hq,.exit id',ha1,hR1,he1⟩
 | goto l=>exact ⟨ι1,H1,σ1,a1',_,hq,.goto l,ha1,hR1,he1⟩
 | ret=>exact ⟨ι1,H1,σ1,a1',_,hq,.ret,ha1,hR1,he1⟩
 | pan v w hv=>exact ⟨ι1,H1,σ1,a1',_,hq,.pan v w hv,ha1,hR1,he1⟩
def AAct.Le (a b:AAct):Prop:=a.n=b.n/\a.defers=b.defers/\∀ t v,a.tmps.get t=some v->b.tmps.get t=some v
theorem ActRel.le {n:Nat} {ι:Inj} {H:Imm} {a b:AAct} {a':Act} (hl:a.Le b) (h:ActRel n ι H b a'):ActRel n ι H a a':=
 ⟨by rw [hl.1]; exact h.size,fun t v ht=>by rw [hl.1]; exact h.tmps t v (hl.2.2 t v ht),by rw [hl.2.1]; exact h.defers⟩
theorem AWp.weaken {c:Code} {b:AAct} (hl:b.Le a) (h:AWp E c Q b σ):AWp E c Q a σ:=fun ι H w a' hR ha hr=>h ι H w a' hR (ha.le hl) hr
theorem wpIn_loop_ghost {F : Fence} {n : Nat} {P : Program} {Q : Exit → Act → World → Prop} {a : Act} {w : World} {c : Code} (I : Nat → Act → World → Prop) (m : Nat) (h₀ : I m a w)
    (round:∀ m a w,I m a w->c.wpIn F n P (Exit.then (fun a' w'=>∃ k,k < m/\I k a' w') Q) a w):(Code.loop c).wpIn F n P Q a w:=by
  intro b k cs hro hb hr
  have key : ∀ j a w, I j a w →
      ∃ e a' w',Q e a' w'/\ArrivesIn (Machine.fenced P F) P (lone (b.atR a (.code c::.inLoop c::k)) cs w) b k cs e a' w':=by
    intro j
    induction j using Nat.strongRecOn with
    | _ j ih=>
      intro a w hI
      obtain ⟨e,a₁,w₁,hq,harr⟩:=round j a w hI b (.inLoop c::k) cs hro hb hr
      cases e with
      | normal=>
        obtain ⟨k',hlt,hI₁⟩:=hq
        obtain ⟨e₂,a₂,w₂,hq₂,harr₂⟩:=ih k' hlt a₁ w₁ hI₁
        exact ⟨e₂,a₂,w₂,hq₂,.of_steps (StepsIn.trans harr (.one (fenced_calm hb hr rfl) stepR_inLoop)) harr₂⟩
      | exit id=>exact ⟨_,a₁,w₁,hq,.pass (x:=.inLoop c) rfl (fun _ _=>.inl (by simp)) harr⟩
      | goto l=>exact ⟨_,a₁,w₁,hq,.pass (x:=.inLoop c) rfl (fun _ _=>.inl (by simp)) harr⟩
      | ret=>exact ⟨_,a₁,w₁,hq,.pass (x:=.inLoop c) rfl (fun _ _=>.inl (by simp)) harr⟩
      | panic ch=>exact ⟨_,a₁,w₁,hq,.pass (x:=.inLoop c) rfl (fun _ _=>.inl (by simp)) harr⟩
      | outgrown=>exact ⟨_,a₁,w₁,hq,.pass (x:=.inLoop c) rfl (fun _ _=>.inl (by simp)) harr⟩
  obtain ⟨e,a',w',hq,harr⟩:=key m a w h₀
  exact ⟨e,a',w',hq,.of_steps (.one (fenced_calm hb hr rfl) stepR_loop) harr⟩
theorem AWp.loop {c:Code} (I:Nat->AAct->AStore->Prop) (m:Nat) (h0:I m a σ)
  (round:∀ m a σ,I m a σ->AWp E c (AExit.then (fun a' σ'=>∃ b k,b.Le a'/\k < m/\I k b σ') Q) a σ):AWp E (.loop c) Q a σ:=by
 intro ι H w a' hR ha hr
 refine wpIn_loop_ghost (fun k a1' w1=>∃ ι1 H1 σ1 a1,I k a1 σ1/\ActRel σ1.next ι1 H1 a1 a1'/\Rel E ι1 H1 σ1 w1/\Ext σ.next ι H σ1.next ι1 H1) m ⟨ι,H,σ,a,h0,ha,hR,Ext.refl _ _ _⟩ ?_
 rintro k a1' w1 ⟨ι1,H1,σ1,a1,hI,ha1,hR1,he1⟩
 have h2:=round k a1 σ1 hI ι1 H1 w1 a1' hR1 ha1 (hr.ext he1)
 rw [FR_ext he1 hr] at h2
 refine wpIn_mono h2 ?_
 rintro e a2 w2 ⟨ι2,H2,σ2,a2',ae,hq,hx,ha2,hR2,he2⟩
 cases hx with
 | normal=>
  obtain ⟨b,k',hl,hk,hI'⟩:=hq
  exact ⟨k',hk,ι2,H2,σ2,b,hI',ha2.le hl,hR2,he1.trans he2⟩
 | exit id=>exact ⟨ι2,H2,σ2,a2',_,hq,.exit id,ha2,hR2,he1.trans he2⟩
 | goto l=>exact ⟨ι2,H2,σ2,a2',_,hq,.goto l,ha2,hR2,he1.trans he2⟩
 | ret=>exact ⟨ι2,H2,σ2,a2',_,hq,.ret,ha2,hR2,he1.trans he2⟩
 | pan v w hv=>exact ⟨ι2,H2,σ2,a2',_,hq,.pan v w hv,ha2,hR2,he1.trans he2⟩
end
end Abs
end
noncomputable section
namespace Abs
open Go
def undefA:AVal:=.tuple []
def aYield (ops:Array Oper) (a:AAct) (j:Nat):Option (Option Bool):=
 match (ops[j]?).bind (·.dst) with
 | some t=>match a.tmps.get t with
  | some (.sc (.bool b))=>some (some b)
  | some (.tuple _)=>some none
  | _=>none
 | none=>none
def roundTmps:T AVal->List Tmp->List AVal->T AVal
 | tm,t::ts,v::vs=>roundTmps (T.put 20 tm t (some v)) ts vs
 | tm,_,_=>tm
def aRoundPost (b:Nat) (R:AEnd->AStore->Prop):APred:=fun ex _ σ=>
 ∃ st pend ps as bd tm nt d,σ.get b=some (.loop st pend ps as bd tm nt d)/\
  match ex with
  | .normal=>R (.ret (.sc (.bool true))) (σ.set b (.loop .ready none ps as bd tm nt d))
  | .ret=>R (.ret (.sc (.bool false))) (σ.set b (.loop .done (some .ret) ps as bd tm nt d))
  | .exit id=>R (.ret (.sc (.bool false))) (σ.set b (.loop .done (some (.exit id)) ps as bd tm nt d))
  | .goto l=>R (.ret (.sc (.bool false))) (σ.set b (.loop .done (some (.goto l)) ps as bd tm nt d))
  | .pan _=>False
def aRoundMid (E:Env) (b:Nat) (R:AEnd->AStore->Prop) (bd:Code):APred:=fun ex a σ=>
 ex=.normal/\∃ pend ps as bd1 tm nt d,σ.get b=some (.loop .ready pend ps as bd1 tm nt d)/\
  AWp {E with rd:=some b} bd (aRoundPost b R) a (σ.set b (.loop .busy pend ps as bd1 tm nt d))
def ARound (E:Env) (b:Nat) (args:List AVal) (σ:AStore) (R:AEnd->AStore->Prop):Prop:=
 ∀ st pend ps as bd tm nt d,σ.get b=some (.loop st pend ps as bd tm nt d)->AWp {E with rd:=some b} as (aRoundMid E b R bd) ⟨roundTmps tm ps.toList args,nt,[]⟩ σ
def ACallsT (E:Env) (t:Tgt) (args:List AVal) (σ:AStore) (R:AEnd->AStore->Prop):Prop:=
 match t with
 | .fn f=>ACalls E f args σ R
 | .yld b=>ARound E b args σ R
theorem aRoundPost_mono {b:Nat} {R R':AEnd->AStore->Prop} (hr:∀ e σ,R e σ->R' e σ) {ex:AExit} {a:AAct} {σ:AStore} (h:aRoundPost b R ex a σ):aRoundPost b R' ex a σ:=by
 obtain ⟨st,pend,ps,as,bd,tm,nt,d,hg,hh⟩:=h
 refine ⟨st,pend,ps,as,bd,tm,nt,d,hg,?_⟩
 cases ex with
 | pan v=>exact hh
 | _=>exact hr _ _ hh
theorem ACallsT.mono {E:Env} {t:Tgt} {args:List AVal} {σ:AStore} {R R':AEnd->AStore->Prop} (h:ACallsT E t args σ R) (hr:∀ e σ,R e σ->R' e σ):ACallsT E t args σ R':=by
 cases t with
 | fn f=>exact ACalls.mono h hr
 | yld b=>
  intro st pend ps as bd tm nt d hg
  refine AWp.mono (h st pend ps as bd tm nt d hg) ?_
  rintro ex a σ ⟨he,pend,ps,as,bd1,tm,nt,d,hg,hh⟩
  exact ⟨he,pend,ps,as,bd1,tm,nt,d,hg,hh.mono fun _ _ _=>aRoundPost_mono hr⟩
theorem Rel.set_loop {E:Env} {ι:Inj} {H:Imm} {σ:AStore} {w:World} (h:Rel E ι H σ w) {b:Nat} {st:LoopState} {pend:Option Code} {ps:Array Tmp} {as bd:Code} {tm:T AVal} {nt d:Nat}
  (hb:σ.get b=some (.loop st pend ps as bd tm nt d)) (st':LoopState) (pend':Option Code):∃ fn tmps,w.heap[(ι b).blk]?=some (.loop ⟨st,pend,fn,tmps,ps,as,bd,(ι d).blk⟩)/\
   Rel E ι H (σ.set b (.loop st' pend' ps as bd tm nt d)) {w with heap:=w.heap.setIfInBounds (ι b).blk (.loop ⟨st',pend',fn,tmps,ps,as,bd,(ι d).blk⟩)}:=by
 obtain ⟨⟨z,hd,fn,tmps,g1,g2,g3⟩,hb2,hb3⟩:=h.live b _ hb
 refine ⟨fn,tmps,g1,h.set hb (by simp) (fun c hc=>by simp [Ne.symm hc]) ⟨rfl,rfl⟩ ⟨z,hd,fn,tmps,by simp [hb3],g2,g3⟩ ?_⟩
 intro b' m since seen hne hz hmb
 obtain ⟨h1,h2,h3⟩:=h.live b' _ hz
 have hne':(ι b').blk≠(ι b).blk:=fun hc=>hne (h.inj b' b _ _ hz hb hc)
 obtain ⟨⟨g0,g0',g0''⟩,s',se',st2,q1,q2,q3,q4⟩:=h1
 refine ⟨⟨g0,by simpa using g0',g0''⟩,s',se',st2,by simp [Ne.symm hne']; exact q1,q2,q3,?_⟩
 intro es clock hh
 rw [hmb] at hh
 simp [hb3] at hh
theorem roundTmps_rel {n : Nat} {ι : Inj} {H : Imm} {nt : Nat} (hnt : nt < 1000000) : ∀ (ps : List Tmp) (args : List AVal) (args' : List Value) (tm : T AVal) (tmps : Array Value), LRel n ι H args args' → (ps.all fun t => Nat.blt t nt) = true → tmps.size = nt →
    (∀ t v,tm.get t=some v->t < nt/\VRel n ι H v (tmps.getD t undef))->args.length=ps.length->
    ActRel n ι H ⟨roundTmps tm ps args,nt,[]⟩ {tmps:=(ps.zip args').foldl (fun tmps x=>tmps.setIfInBounds x.1 x.2) tmps,defers:=[]}
  | [], args, args', tm, tmps, hl, hp, hs, ht, hlen => by
      cases args with
      | nil=>cases hl; exact ⟨hs,ht,.nil⟩
      | cons x xs=>simp at hlen
  | p :: ps, args, args', tm, tmps, hl, hp, hs, ht, hlen => by
      cases hl with
      | nil=>simp at hlen
      | cons v w vs ws hv hvs=>
        simp only [List.all_cons,Bool.and_eq_true,Nat.blt_eq] at hp
        simp only [roundTmps,List.zip_cons_cons,List.foldl_cons]
        refine roundTmps_rel hnt ps vs ws _ _ hvs hp.2 (by simpa using hs) ?_ (by simpa using hlen)
        intro t x hx
        rw [T.get_put _ _ _ _ _ (by omega)] at hx
        split at hx
        · rename_i e
          cases hx
          subst e
          refine ⟨hp.1,?_⟩
          have:(tmps.setIfInBounds t w).getD t undef=w:=by
            rw [Array.getD_eq_getD_getElem?]; simp [hs,hp.1]
          rw [this]; exact hv
        · rename_i e
          obtain ⟨g1,g2⟩:=ht t x hx
          refine ⟨g1,?_⟩
          have:(tmps.setIfInBounds p w).getD t undef=tmps.getD t undef:=by
            rw [Array.getD_eq_getD_getElem?,Array.getD_eq_getD_getElem?]; simp [Ne.symm e]
          rw [this]; exact g2
theorem run_setObj' {P:Program} {w:World} {r:Nat} {o':Obj} (h:w.heap[r]?=some o') (hn:∀ c t f,o'≠.cells c t f) (o:Obj):(setObj r o).run P w=.ok () {w with heap:=w.heap.setIfInBounds r o}:=by
 cases o'<;>first
  | exact absurd rfl (hn _ _ _)
  | simp only [setObj,Sem.run,h]
theorem ARound.sound {E : Env} {b : Nat} {args : List AVal} {σ : AStore} {R : AEnd → AStore → Prop} (h : ARound E b args σ R) {ι : Inj} {H : Imm} {w : World} (hR : Rel E ι H σ w) {args' : List Value} (hargs : LRel σ.next ι H args args')
    {st:LoopState} {pend:Option Code} {ps:Array Tmp} {as bd:Code} {tm:T AVal} {nt d fn:Nat} {tmps:Array Value} (hg:σ.get b=some (.loop st pend ps as bd tm nt d)) (h1:args.length=ps.size)
    (h2:(ps.toList.all fun t=>Nat.blt t nt)=true) (h3:nt < 1000000) (h4:tmps.size=nt) (h5:∀ t v,tm.get t=some v->t < nt/\VRel σ.next ι H v (tmps.getD t undef)) (ιr:Inj):
    RoundIn (FR ιr E.rd) 0 E.P (ι b).blk fn ((ps.toList.zip args').foldl (fun tmps x=>tmps.setIfInBounds x.1 x.2) tmps) as bd w
      (fun e w'=>∃ ι' H' σ' ae,R ae σ'/\EndRel σ'.next ι' H' ae e/\Rel E ι' H' σ' w'/\Ext σ.next ι H σ'.next ι' H'):=by
  refine roundIn_of_wpIn trivial ?_
  have hlt:=AStore.lt_of_get hg
  have hfr:(FR ιr E.rd).inRound (ι b).blk=FR ι (some b):=rfl
  have hfr':∀ {n':Nat} {ι':Inj} {H':Imm},Ext σ.next ι H n' ι' H'->FR ι' (some b)=FR ι (some b):=fun he=>FR_ext he (fun b' hb'=>by cases hb'; exact hlt)
  rw [hfr]
  have ha:=roundTmps_rel h3 ps.toList args args' tm tmps hargs h2 h4 h5 (by simpa using h1)
  refine wpIn_mono (h st pend ps as bd tm nt d hg ι H w _ (hR.rd _) ha (fun b' hb'=>by cases hb'; exact hlt)) ?_
  rintro e a1 w1 ⟨ι1,H1,σ1,a1',ae,⟨hae,pend1,ps1,as1,bd1,tm1,nt1,d1,hg1,hbody⟩,hx,ha1,hR1,he1⟩
  subst hae
  cases hx
  have hR1':Rel E ι1 H1 σ1 w1:=hR1.unrd
  have hbb:(ι1 b).blk=(ι b).blk:=by rw [he1.inj b hlt]
  obtain ⟨fn1,tmps1,q1,q2⟩:=hR1'.set_loop hg1 .busy pend1
  refine ⟨{w1 with heap:=w1.heap.setIfInBounds (ι1 b).blk (.loop ⟨.busy,pend1,fn1,tmps1,ps1,as1,bd1,(ι1 d1).blk⟩)},?_,?_⟩
  · have hgo:(getObj (ι b).blk).run E.P w1=.ok (.loop ⟨.ready,pend1,fn1,tmps1,ps1,as1,bd1,(ι1 d1).blk⟩) w1:=by rw [<-hbb]; simp [getObj,Sem.run,q1]
    have hset:∀ o,(setObj (ι b).blk o).run E.P w1=.ok () {w1 with heap:=w1.heap.setIfInBounds (ι1 b).blk o}:=by intro o; rw [<-hbb]; exact run_setObj' q1 (by simp) o
    simp [Instr.beginRound,Instr.getLoop,hgo,hset]
  · have hw:=hbody ι1 H1 _ a1 (q2.rd _) ha1 (fun b' hb'=>by cases hb'; exact Nat.lt_of_lt_of_le hlt he1.next)
    rw [hfr' he1] at hw
    refine wpIn_mono hw ?_
    rintro e2 a2 w2 ⟨ι2,H2,σ2,a2',ae2,⟨st2,pend2,ps2,as2,bd2,tm2,nt2,d2,hg2,hpost⟩,hx2,ha2,hR2,he2⟩
    have hR2':Rel E ι2 H2 σ2 w2:=hR2.unrd
    have he12:=he1.trans he2
    have hbb2:(ι2 b).blk=(ι b).blk:=by rw [he12.inj b hlt]
    have fin : ∀ (jump : Option Code) (st' : LoopState) (v : Bool), (st' = if jump.isNone then .ready else .done) → v = jump.isNone → R (.ret (.sc (.bool v))) (σ2.set b (.loop st' jump ps2 as2 bd2 tm2 nt2 d2)) →
        ∃ v' w',(Instr.endRound (ι b).blk jump).run E.P w2=.ok v' w'/\∃ ι' H' σ' ae,R ae σ'/\EndRel σ'.next ι' H' ae (.returned v')/\Rel E ι' H' σ' w'/\Ext σ.next ι H σ'.next ι' H':=by
      intro jump st' v hst hv hr
      obtain ⟨fn2,tmps2,q3,q4⟩:=hR2'.set_loop hg2 st' jump
      refine ⟨.bool v,_,?_,ι2,H2,_,_,hr,.ret _ _ (.sc _),q4,he12⟩
      subst hst hv
      have hgo:(getObj (ι b).blk).run E.P w2=.ok (.loop ⟨st2,pend2,fn2,tmps2,ps2,as2,bd2,(ι2 d2).blk⟩) w2:=by rw [<-hbb2]; simp [getObj,Sem.run,q3]
      have hset:∀ o,(setObj (ι b).blk o).run E.P w2=.ok () {w2 with heap:=w2.heap.setIfInBounds (ι2 b).blk o}:=by intro o; rw [<-hbb2]; exact run_setObj' q3 (by simp) o
      simp [Instr.endRound,Instr.getLoop,hgo,hset]
    cases hx2 with
    | normal=>exact fin none .ready true rfl rfl hpost
    | ret=>exact fin (some .ret) .done false rfl rfl hpost
    | exit id=>exact fin (some (.exit id)) .done false rfl rfl hpost
    | goto l=>exact fin (some (.goto l)) .done false rfl rfl hpost
    | pan v v' hv=>exact hpost.elim
def aGo (E:Env) (dst:Option Tmp) (K:APred) (k:AAct->AStore->Prop) (a:AAct) (σ:AStore):ARes->Prop
  | .val v σ'=>a.fits dst=true/\k (a.put dst (some v)) σ'
  | .vals l=>a.fits dst=true/\∀ p∈l,k (a.put dst (some p.1)) p.2
  | .skip σ'=>a.fits dst=true/\k (a.put dst (some undefA)) σ'
  | .enter f args => a.fits dst = true ∧ ACallsT E f args σ fun e σ' =>
      match e with
      | .ret v=>k (a.put dst (some v)) σ'
      | .pan v=>K (.pan v) a σ'
  | .dfr d=>a.fits dst=true/\E.rd=none/\k (({a with defers:=d::a.defers}:AAct).put dst (some undefA)) σ
  | .pan v=>K (.pan v) a σ
  | .recov=>False
  | .bad=>False
def aStep (E:Env) (ops:Array Oper) (o:Oper) (K:APred) (k:AAct->AStore->Prop) (a:AAct) (σ:AStore):Prop:=
 match o.guard with
 | none=>aGo E o.dst K k a σ (aOp E false o.op (a.ev E.G) σ)
 | some (j,want)=>
  match aYield ops a j with
  | some b=>(b=some want->aGo E o.dst K k a σ (aOp E false o.op (a.ev E.G) σ))/\(b≠some want->a.fits o.dst=true/\k (a.put o.dst (some undefA)) σ)
  | none=>False
section
variable {E:Env} {K:APred} {a:AAct} {σ:AStore}
theorem undefA_rel {n:Nat} {ι:Inj} {H:Imm}:VRel n ι H undefA undef:=.tuple [] [] .nil
theorem aYield_sound {n:Nat} {ι:Inj} {H:Imm} {ops:Array Oper} {a':Act} (ha:ActRel n ι H a a') {j:Nat} {b:Option Bool} (h:aYield ops a j=some b):yielded ops a'.tmps j=b:=by
 unfold aYield at h
 split at h
 ·rename_i t ht
  split at h
  ·rename_i c hc
   cases h
   obtain ⟨h1,h2⟩:=ha.tmps t _ hc
   have h3:=h2.sc_inv
   have hlt:t < a'.tmps.size:=by rw [ha.size]; exact h1
   have:a'.tmps[t]?=some (.bool c):=by
    rw [Array.getD_eq_getD_getElem?,Array.getElem?_eq_getElem hlt] at h3
    rw [Array.getElem?_eq_getElem hlt]
    exact congrArg some h3
   simp [yielded,ht,this]
  ·rename_i c hc
   cases h
   obtain ⟨h1,h2⟩:=ha.tmps t _ hc
   obtain ⟨cs,h3,_⟩:=h2.tuple_inv
   have hlt:t < a'.tmps.size:=by rw [ha.size]; exact h1
   have:a'.tmps[t]?=some (.tuple cs.toArray):=by
    rw [Array.getD_eq_getD_getElem?,Array.getElem?_eq_getElem hlt] at h3
    rw [Array.getElem?_eq_getElem hlt]
    exact congrArg some h3
   simp [yielded,ht,this]
  ·cases h
 ·cases h
theorem aOp_defer {lit:Bool} {ρ:ARho} {c:Call}:aOp E lit (.defer c) ρ σ=.bad\/∃ d,aOp E lit (.defer c) ρ σ=.dfr d:=by
 simp only [aOp]
 split
 ·split
  ·split
   ·exact .inr ⟨_,rfl⟩
   ·exact .inl rfl
  ·exact .inl rfl
 ·exact .inl rfl
theorem semAt_run {lit:Bool} {ρ:ARho} {ρ':Operand->Value} {o:Oper} {ro:Option Nat} (h:(∀ d,aOp E lit o.op ρ σ≠.dfr d)/\aOp E lit o.op ρ σ≠.bad\/ro=none):o.semAt ro ρ'=execOp ρ' o:=by
 rcases h with h|rfl
 ·refine Oper.semAt_eq _ _ _ ?_
  intro c hc
  rw [hc] at h
  rcases aOp_defer (E:=E) (σ:=σ) (lit:=lit) (ρ:=ρ) (c:=c) with h1|⟨d,h1⟩
  ·exact h.2 h1
  ·exact h.1 d h1
 ·exact Oper.semAt_none _ _
theorem aGo_sound {ι ι0 : Inj} {H H0 : Imm} {n0 : Nat} {w : World} {a' : Act} (hR : Rel E ι H σ w) (ha : ActRel σ.next ι H a a') (he : Ext n0 ι0 H0 σ.next ι H) {o : Oper} {k : AAct → AStore → Prop}
    {KK:Act->World->Prop} (hk:∀ ι1 H1 σ1 a1 a1' w1,k a1 σ1->ActRel σ1.next ι1 H1 a1 a1'->Rel E ι1 H1 σ1 w1->Ext n0 ι0 H0 σ1.next ι1 H1->KK a1' w1)
    (h:aGo E o.dst K k a σ (aOp E false o.op (a.ev E.G) σ)) (ιr:Inj):o.wpIn (FR ιr E.rd) 0 E.P a' w KK (APost E n0 ι0 H0 K):=by
  have hs:=aOp_sound hR (ha.rho hR) false o
  refine ⟨fun _ _=>trivial,?_⟩
  have hsem:o.semAt (FR ιr E.rd).round a'.eval=execOp a'.eval o:=by
    refine semAt_run (E:=E) (σ:=σ) (lit:=false) (ρ:=a.ev E.G) ?_
    cases hr:aOp E false o.op (a.ev E.G) σ with
    | dfr d=>rw [hr] at h; right; rw [FR,h.2.1]; rfl
    | bad=>rw [hr] at h; exact h.elim
    | _=>left; exact ⟨by simp,by simp⟩
  rw [hsem]
  generalize hr:aOp E false o.op (a.ev E.G) σ=r at h hs
  cases r with
  | val v σ'=>
    obtain ⟨v',w',ι',H',hrun,hv,hR',he'⟩:=hs
    rw [hrun]
    exact hk ι' H' σ' _ _ w' h.2 ((ha.ext he').put h.1 hv) hR' (he.trans he')
  | vals l=>
    obtain ⟨p,hp,v',w',ι',H',hrun,hv,hR',he'⟩:=hs
    rw [hrun]
    exact hk ι' H' p.2 _ _ w' (h.2 p hp) ((ha.ext he').put h.1 hv) hR' (he.trans he')
  | skip σ'=>
    obtain ⟨w',hrun,hR',hn⟩:=hs
    rw [hrun]
    have he':Ext σ.next ι H σ'.next ι H:=⟨by omega,fun _ _=>rfl,Imm.Le.refl _⟩
    exact hk ι H σ' _ _ w' h.2 ((ha.ext he').put h.1 undefA_rel) hR' (he.trans he')
  | enter t args=>
   cases t with
   | yld b=>
    obtain ⟨args',hargs,st,pend,ps,as,bd,tm,nt,d,fn,tmps,g1,g2,g3,g4,g5,g6,hrun⟩:=hs
    rw [hrun]
    refine ⟨(fun hh=>by cases hh),RoundIn.mono (ARound.sound h.2 hR hargs g1 g2 g3 g4 g5 g6 ιr) ?_⟩
    rintro e w1 ⟨ι1,H1,σ1,ae,hq,hx,hR1,he1⟩
    cases hx with
    | ret v v' hv=>exact hk ι1 H1 σ1 _ _ w1 hq ((ha.ext he1).put h.1 hv) hR1 (he.trans he1)
    | pan v v' hv=>exact ⟨ι1,H1,σ1,a,_,hq,.pan v v' hv,ha.ext he1,hR1,he.trans he1⟩
   | fn f=>
    obtain ⟨args',hrun,hargs⟩:=hs
    rw [hrun]
    refine ⟨(fun hh=>by cases hh),callsIn_FR (Calls.mono (h.2 ι H w args' hR hargs) ?_)⟩
    rintro e w1 ⟨ι1,H1,σ1,ae,hq,hx,hR1,he1⟩
    cases hx with
    | ret v v' hv=>exact hk ι1 H1 σ1 _ _ w1 hq ((ha.ext he1).put h.1 hv) hR1 (he.trans he1)
    | pan v v' hv=>exact ⟨ι1,H1,σ1,a,_,hq,.pan v v' hv,ha.ext he1,hR1,he.trans he1⟩
  | dfr d=>
    obtain ⟨d',hrun,hd⟩:=hs
    rw [hrun]
    have ha2:ActRel σ.next ι H {a with defers:=d::a.defers} {a' with defers:=d'::a'.defers}:=⟨ha.size,ha.tmps,.cons _ _ _ _ hd ha.defers⟩
    exact hk ι H σ _ _ w h.2.2 (ha2.put h.1 undefA_rel) hR he
  | pan v=>
    obtain ⟨v',hrun,hv⟩:=hs
    rw [hrun]
    exact ⟨ι,H,σ,a,_,h,.pan v v' hv,ha,hR,he⟩
  | recov=>exact h.elim
  | bad=>exact h.elim
theorem aStep_sound {ι ι0:Inj} {H H0:Imm} {n0:Nat} {w:World} {a':Act} (hR:Rel E ι H σ w) (ha:ActRel σ.next ι H a a') (he:Ext n0 ι0 H0 σ.next ι H) {ops:Array Oper} {i:Nat} {o:Oper}
  (ho:ops[i]?=some o) {k:AAct->AStore->Prop}
  {KK:Act->World->Prop} (hk:∀ ι1 H1 σ1 a1 a1' w1,k a1 σ1->ActRel σ1.next ι1 H1 a1 a1'->Rel E ι1 H1 σ1 w1->Ext n0 ι0 H0 σ1.next ι1 H1->KK a1' w1)
  (h:aStep E ops o K k a σ) (ιr:Inj):wpOpIn (FR ιr E.rd) 0 E.P ops (APost E n0 ι0 H0 K) i KK a' w:=by
 unfold wpOpIn
 simp only [ho]
 unfold aStep at h
 split at h
 ·rename_i hg
  have:Region.wanted o (yielded ops a'.tmps)=true:=by simp [Region.wanted,hg]
  rw [if_pos this]
  exact aGo_sound hR ha he hk h ιr
 ·rename_i j want hg
  split at h
  ·rename_i b hy
   have hy':=aYield_sound ha hy
   by_cases hb:b=some want
   ·have:Region.wanted o (yielded ops a'.tmps)=true:=by simp [Region.wanted,hg,hy',hb]
    rw [if_pos this]
    exact aGo_sound hR ha he hk (h.1 hb) ιr
   ·have:¬ Region.wanted o (yielded ops a'.tmps)=true:=by simp [Region.wanted,hg,hy',hb]
    rw [if_neg this]
    obtain ⟨h1,h2⟩:=h.2 hb
    exact ⟨fun _ _=>trivial,hk ι H σ _ _ w h2 (ha.put h1 undefA_rel) hR he⟩
  ·exact h.elim
def aOps (E:Env) (ops:Array Oper) (K:APred):List Nat->AAct->AStore->Prop
 | [],a,σ=>K .normal a σ
 | i::rest,a,σ=>
  match ops[i]? with
  | none=>aOps E ops K rest a σ
  | some o=>aStep E ops o K (aOps E ops K rest) a σ
theorem aOps_sound (ιr : Inj) {ops : Array Oper} {n0 : Nat} {ι0 : Inj} {H0 : Imm} : ∀ (l : List Nat) {ι : Inj} {H : Imm} {a : AAct} {σ : AStore} {w : World} {a' : Act}, Rel E ι H σ w → ActRel σ.next ι H a a' → Ext n0 ι0 H0 σ.next ι H →
    aOps E ops K l a σ->wpOpsIn (FR ιr E.rd) 0 E.P ops (APost E n0 ι0 H0 K) l a' w
  | [],ι,H,a,σ,w,a',hR,ha,he,h=>⟨ι,H,σ,a,_,h,.normal,ha,hR,he⟩
  | i :: rest, ι, H, a, σ, w, a', hR, ha, he, h => by
      rw [wpOpsIn_cons]
      simp only [aOps] at h
      cases ho:ops[i]? with
      | none=>
        rw [ho] at h
        simp only [wpOpIn,ho]
        exact aOps_sound ιr rest hR ha he h
      | some o=>
        rw [ho] at h
        exact aStep_sound hR ha he ho (fun ι1 H1 σ1 a1 a1' w1 hk ha1 hR1 he1=>aOps_sound ιr rest hR1 ha1 he1 hk) h ιr
theorem AWp.region {id:Nat} {ops:Array Oper} (h:aOps E ops K (List.range ops.size) a σ):AWp E (.region id ops false) K a σ:=
 fun ι _ _ _ hR ha _=>wpIn_region (aOps_sound ι _ hR ha (Ext.refl _ _ _) h)
def aResults (E:Env) (rs:List ResultVar) (a:AAct) (σ:AStore):Option (List AVal):=
 match rs with
 | []=>some []
 | .tmp t::rest=>
  match a.tmps.get t,aResults E rest a σ with
  | some v,some vs=>some (v::vs)
  | _,_=>none
 | .cell t ty::rest=>
  match a.tmps.get t,E.ty ty,aResults E rest a σ with
  | some p,some i,some vs=>
   match aLoad i.isA i.size p σ with
   | some v=>some (v::vs)
   | none=>none
  | _,_,_=>none
def aResult (E:Env) (rs:List ResultVar) (a:AAct) (σ:AStore):Option AVal:=
 match aResults E rs a σ with
 | some [v]=>some v
 | some vs=>some (.tuple vs)
 | none=>none
def resultSem (t:Array Value):ResultVar->Sem Value
 | .tmp x=>pure (t.getD x undef)
 | .cell x ty=>do loadVar ty (<-asAddr (t.getD x undef))
theorem run_results {ι : Inj} {H : Imm} {w : World} {a' : Act} (hR : Rel E ι H σ w) (ha : ActRel σ.next ι H a a') : ∀ (rs : List ResultVar) {vs : List AVal}, aResults E rs a σ = some vs →
    ∃ vs',(rs.mapM (resultSem a'.tmps)).run E.P w=.ok vs' w/\LRel σ.next ι H vs vs'
  | [],vs,h=>by simp [aResults] at h; subst h; exact ⟨[],by simp,.nil⟩
  | .tmp t :: rest, vs, h => by
      simp only [aResults] at h
      split at h
      · rename_i v vs1 hv hvs
        cases h
        obtain ⟨vs',r1,r2⟩:=run_results hR ha rest hvs
        have:=(ha.tmps t v hv).2
        exact ⟨a'.tmps.getD t undef::vs',by simp only [List.mapM_cons,resultSem,Sem.run_bind,Sem.run_pure,Result.andThen_ok,r1],.cons _ _ _ _ this r2⟩
      · cases h
  | .cell t ty :: rest, vs, h => by
      simp only [aResults] at h
      split at h
      · rename_i p i vs1 hp hi hvs
        split at h
        · rename_i v hl
          cases h
          obtain ⟨vs',r1,r2⟩:=run_results hR ha rest hvs
          have hpr:=(ha.tmps t p hp).2
          obtain ⟨v',q1,q2⟩:=aLoad_sound hi hR hpr hl
          have q1':((do loadVar ty (<-asAddr (a'.tmps.getD t undef))):Sem Value).run E.P w=.ok v' w:=by
            have hptr:∃ ad,a'.tmps.getD t undef=.pointer (some ad):=by
              unfold aLoad at hl
              split at hl
              · obtain ⟨b,o,h,_⟩:=hpr.iptr_inv; exact ⟨_,h⟩
              · obtain ⟨_,h⟩:=hpr.ptr_inv; exact ⟨_,h⟩
              · cases hl
            obtain ⟨ad,had⟩:=hptr
            rw [had] at q1 ⊢
            simpa [Instr.loadAt,Instr.sureAddr,asAddr] using q1
          exact ⟨v'::vs',by simp only [List.mapM_cons,resultSem,Sem.run_bind,q1',r1,Sem.run_pure,Result.andThen_ok],.cons _ _ _ _ q2 r2⟩
        · cases h
      · cases h
theorem aResult_sound {ι : Inj} {H : Imm} {w : World} {a' : Act} (hR : Rel E ι H σ w) (ha : ActRel σ.next ι H a a') {fn : Func} {v : AVal} (h : aResult E fn.results.toList a σ = some v) :
    ∃ v',(results fn a'.tmps).run E.P w=.ok v' w/\VRel σ.next ι H v v':=by
  have key : ∀ vs vs', aResults E fn.results.toList a σ = some vs → LRel σ.next ι H vs vs' → (fn.results.toList.mapM (resultSem a'.tmps)).run E.P w = .ok vs' w →
      (results fn a'.tmps).run E.P w=.ok (if h:vs'.toArray.size=1 then vs'.toArray[0] else .tuple vs'.toArray) w:=by
    intro vs vs' _ _ hrun
    have e:(fn.results.mapM (resultSem a'.tmps):Sem (Array Value))=List.toArray <$> (fn.results.toList.mapM (resultSem a'.tmps):Sem (List Value)):=by
      obtain ⟨l⟩:=fn.results
      simp
    have e2:results fn a'.tmps=(do let vs <-fn.results.mapM (resultSem a'.tmps); pure (if h:vs.size=1 then vs[0] else .tuple vs)):=by
      unfold results
      congr 1
    rw [e2,Sem.run_bind,e,Sem.run_map,hrun]
    rfl
  unfold aResult at h
  cases hr:aResults E fn.results.toList a σ with
  | none=>simp [hr] at h
  | some vs=>
    rw [hr] at h
    obtain ⟨vs',r1,r2⟩:=run_results hR ha _ hr
    have hk:=key vs vs' hr r2 r1
    match vs,r2,h with
    | [],r2,h=>
      cases r2
      simp at h
      subst h
      exact ⟨_,hk,.tuple [] [] .nil⟩
    | [x],r2,h=>
      obtain ⟨x',ws,rfl,hx,hs⟩:=r2.cons_inv
      obtain rfl:=hs.nil_inv
      simp at h
      subst h
      exact ⟨x',hk,hx⟩
    | x::y::zs,r2,h=>
      obtain ⟨x',ws,rfl,hx,hs⟩:=r2.cons_inv
      obtain ⟨y',ws',rfl,hy,hs'⟩:=hs.cons_inv
      simp at h
      subst h
      refine ⟨_,hk,?_⟩
      have:¬ ((x'::y'::ws').toArray.size=1):=by simp
      rw [dif_neg this]
      exact .tuple _ _ (.cons _ _ _ _ hx (.cons _ _ _ _ hy hs'))
def aInitT:List AVal->Nat->T AVal->T AVal
 | [],_,t=>t
 | v::vs,k,t=>aInitT vs (k+1) (T.put 20 t k (some v))
def aInit (args:List AVal) (n:Nat):AAct:=⟨aInitT args 0 .leaf,n,[]⟩
theorem aInitT_get:∀ (args:List AVal) (k:Nat) (t:T AVal) (x:Nat) (v:AVal),k+args.length < 2 ^ 20 - 1->(aInitT args k t).get x=some v->(k<=x/\args[x - k]?=some v)\/t.get x=some v
  | [],k,t,x,v,_,h=>.inr h
  | y :: ys, k, t, x, v, hk, h => by
      simp at hk
      rcases aInitT_get ys (k+1) _ x v (by omega) h with ⟨h1,h2⟩|h1
      · left
        refine ⟨by omega,?_⟩
        rw [show x - k=(x - (k+1))+1 by omega]
        simpa using h2
      · rw [T.get_put _ _ _ _ _ (by omega)] at h1
        split at h1
        · rename_i e; subst e; left; exact ⟨Nat.le_refl _,by simpa using h1⟩
        · exact .inr h1
theorem aInit_rel {n:Nat} {ι:Inj} {H:Imm} {args:List AVal} {args':List Value} (h:LRel n ι H args args') {m:Nat} (hm:args.length<=m) (hl:args.length < 1000):
  ActRel n ι H (aInit args m) {tmps:=args'.toArray++Array.replicate (m - args'.toArray.size) undef,defers:=[]}:=by
 have hlen:=h.length
 refine ⟨by simp [aInit]; omega,?_,.nil⟩
 intro t v ht
 rcases aInitT_get args 0 .leaf t v (by omega) ht with ⟨_,h1⟩|h1
 ·simp at h1
  have hlt:t < args.length:=by
   rcases Nat.lt_or_ge t args.length with h'|h'
   ·exact h'
   ·rw [List.getElem?_eq_none h'] at h1; cases h1
  obtain ⟨w,h2,h3⟩:=h.get h1
  refine ⟨by simp [aInit]; omega,?_⟩
  have:(args'.toArray++Array.replicate (m - args'.toArray.size) undef).getD t undef=w:=by
   rw [Array.getD_eq_getD_getElem?,Array.getElem?_append_left (by simp; omega)]
   simp [h2]
  rw [this]; exact h3
 ·simp [T.get_leaf] at h1
def aEnd (E:Env) (fn:Func) (R:AEnd->AStore->Prop):APred
 | .normal,a,σ|.ret,a,σ=>a.defers=[]/\∃ v,aResult E fn.results.toList a σ=some v/\R (.ret v) σ
 | .pan v,a,σ=>a.defers=[]/\R (.pan v) σ
 | _,_,_=>False
theorem DefsRel.nil_inv {n:Nat} {ι:Inj} {H:Imm} {d:List Deferred} (h:DefsRel n ι H [] d):d=[]:=by cases h; rfl
theorem ACalls.of_wp (hrd : E.rd = none) {f : FuncId} {fn : Func} {c : Code} {args : List AVal} {R : AEnd → AStore → Prop} (hf : E.P.funcs[f]? = some fn) (hb : fn.body = some c) (hn : args.length ≤ fn.ntmps) (hl : args.length < 1000)
    (h:AWp E c (aEnd E fn R) (aInit args fn.ntmps) σ):ACalls E f args σ R:=by
  intro ι H w args' hR hargs
  have ha:=aInit_rel hargs hn hl
  refine calls_of_wp hf hb ?_
  have hw:=h ι H w _ hR ha (fun b hb=>by rw [hrd] at hb; cases hb)
  rw [hrd,FR_none,wpIn_wide] at hw
  refine wp_mono (by simpa using hw) ?_
  rintro e a1 w1 ⟨ι1,H1,σ1,a1',ae,hq,hx,ha1,hR1,he1⟩
  have fin : ∀ ae, aEnd E fn R ae a1' σ1 → (ae = .normal ∨ ae = .ret) → a1.defers = [] ∧ ∃ v, (results fn a1.tmps).run E.P w1 = .ok v w1 ∧
      ∃ ι' H' σ' ae,R ae σ'/\EndRel σ'.next ι' H' ae (.returned v)/\Rel E ι' H' σ' w1/\Ext σ.next ι H σ'.next ι' H':=by
    intro ae hq hae
    have hq':a1'.defers=[]/\∃ v,aResult E fn.results.toList a1' σ1=some v/\R (.ret v) σ1:=by rcases hae with rfl|rfl<;>exact hq
    obtain ⟨hd,v,hr,hRv⟩:=hq'
    have hd':=ha1.defers
    rw [hd] at hd'
    obtain ⟨v',r1,r2⟩:=aResult_sound hR1 ha1 hr
    exact ⟨hd'.nil_inv,v',r1,ι1,H1,σ1,.ret v,hRv,.ret v v' r2,hR1,he1⟩
  cases hx with
  | normal=>exact fin _ hq (.inl rfl)
  | ret=>exact fin _ hq (.inr rfl)
  | exit id=>exact hq.elim
  | goto l=>exact hq.elim
  | pan v v' hv=>
    obtain ⟨hd,hRv⟩:=hq
    have hd':=ha1.defers
    rw [hd] at hd'
    exact ⟨hd'.nil_inv,ι1,H1,σ1,.pan v,hRv,.pan v v' hv,hR1,he1⟩
end
end Abs
end
noncomputable section
namespace Abs
open Go
theorem allSome_congr {ρ ρ':ARho}:∀ {xs:List Operand},(∀ x∈xs,ρ x=ρ' x)->allSome ρ xs=allSome ρ' xs
  | [],_=>rfl
  | x :: xs, h => by
      unfold allSome
      rw [h x (by simp),allSome_congr (fun y hy=>h y (by simp [hy]))]
theorem partsSome_congr {ρ ρ':ARho}:∀ {xs:List (Nat×Operand)},(∀ x∈xs.map (·.2),ρ x=ρ' x)->partsSome ρ xs=partsSome ρ' xs
  | [],_=>rfl
  | (i, x) :: xs, h => by
      unfold partsSome
      rw [h x (by simp),partsSome_congr (fun y hy=>h y (by simp at hy ⊢; exact .inr hy))]
theorem optSome_congr {ρ ρ':ARho} {x:Option Operand} (h:∀ y∈x.toArray.toList,ρ y=ρ' y):optSome ρ x=optSome ρ' x:=by
 cases x with
 | none=>rfl
 | some x=>simp only [optSome]; rw [h x (by simp)]
theorem aOp_congr (E:Env) (lit:Bool) (op:Op) (σ:AStore) {ρ ρ':ARho} (h:∀ x∈op.operands.toList,ρ x=ρ' x):aOp E lit op ρ σ=aOp E lit op ρ' σ:=by
 cases op<;>simp only [Op.operands] at h
 case move x=>simp only [aOp]; rw [h x (by simp)]
 case assign x=>simp only [aOp]; rw [h x (by simp)]
 case pick c a b=>simp only [aOp]; rw [h c (by simp),h a (by simp),h b (by simp)]
 case box t x=>simp only [aOp]; rw [h x (by simp)]
 case build t ps=>simp only [aOp]; rw [partsSome_congr (by simpa using h)]
 case buildSlice t n ps=>simp only [aOp]; rw [partsSome_congr (by simpa using h)]
 case load t x=>simp only [aOp]; rw [h x (by simp)]
 case store t a v=>simp only [aOp]; rw [h a (by simp),h v (by simp)]
 case nilCheck x=>simp only [aOp]; rw [h x (by simp)]
 case binOp op t a v t2=>simp only [aOp]; rw [h a (by simp),h v (by simp)]
 case unOp op t x=>simp only [aOp]; rw [h x (by simp)]
 case convert s d x=>simp only [aOp]; rw [h x (by simp)]
 case makeInterface t x=>simp only [aOp]; rw [h x (by simp)]
 case makeFunc fn f c=>simp only [aOp]; rw [allSome_congr (fun x hx=>h x (by simp at hx ⊢; exact .inl hx)),allSome_congr (fun x hx=>h x (by simp at hx ⊢; exact .inr hx))]
 case makeMap t r=>cases r<;>simp only [aOp]; rw [h _ (by simp)]
 case makeSlice t a v=>simp only [aOp]; rw [h a (by simp),h v (by simp)]
 case slice t x l hi m=>
  cases m with
  | some m=>
   simp only [aOp]
   rw [h x (by simp),optSome_congr (x:=l) (fun y hy=>h y (by simp at hy ⊢; exact .inr (.inl hy))),optSome_congr (x:=hi) (fun y hy=>h y (by simp at hy ⊢; exact .inr (.inr (.inl hy)))),
    optSome_congr (x:=some m) (fun y hy=>h y (by simp at hy ⊢; exact .inr (.inr (.inr hy))))]
  | none=>
   simp only [aOp]
   rw [h x (by simp),optSome_congr (x:=l) (fun y hy=>h y (by simp at hy ⊢; exact .inr (.inl hy))),optSome_congr (x:=hi) (fun y hy=>h y (by simp at hy ⊢; exact .inr (.inr hy)))]
 case fieldAddr t x f=>simp only [aOp]; rw [h x (by simp)]
 case field t x f=>simp only [aOp]; rw [h x (by simp)]
 case indexAddr t a v=>simp only [aOp]; rw [h a (by simp),h v (by simp)]
 case index t a v=>simp only [aOp]; rw [h a (by simp),h v (by simp)]
 case lookup t a v ok=>simp only [aOp]; rw [h a (by simp),h v (by simp)]
 case mapUpdate t m k v=>simp only [aOp]; rw [h m (by simp),h k (by simp),h v (by simp)]
 case insert t m k v=>simp only [aOp]; rw [h m (by simp),h k (by simp),h v (by simp)]
 case range t x=>simp only [aOp]; rw [h x (by simp)]
 case next x s=>simp only [aOp]; rw [h x (by simp)]
 case entry x=>simp only [aOp]; rw [h x (by simp)]
 case typeAssert x t a ok=>simp only [aOp]; rw [h x (by simp)]
 case extract x i=>simp only [aOp]; rw [h x (by simp)]
 case panic x=>simp only [aOp]; rw [h x (by simp)]
 case call c=>
  obtain ⟨callee,args,ats⟩:=c
  simp only [Call.operands] at h
  simp only [aOp]
  rw [allSome_congr (xs:=args.toList) (fun x hx=>h x (by simp at hx ⊢; exact .inr hx))]
  cases callee with
  | value f=>simp only []; rw [h f (by simp)]
  | _=>rfl
 case defer c=>
  obtain ⟨callee,args,ats⟩:=c
  simp only [Call.operands] at h
  simp only [aOp]
  rw [allSome_congr (xs:=args.toList) (fun x hx=>h x (by simp at hx ⊢; exact .inr hx))]
  cases callee with
  | value f=>simp only []; rw [h f (by simp)]
  | _=>rfl
 all_goals rfl
def isEff (E:Env):Op->Bool
 | .move _|.assign _|.pick ..|.build ..|.buildSlice ..|.load ..|.nilCheck _|.binOp ..|.unOp ..|.makeInterface ..|.makeFunc ..|.fieldAddr ..|.field ..
 | .indexAddr ..|.index ..|.lookup ..|.entry _|.typeAssert ..|.extract ..=>false
 | .slice t _ _ _ _=>match E.ty t with
  | some i=>match i.desc with|.pointer _|.array _ _=>true|_=>false
  | none=>true
 | .convert _ d _=>match E.ty d with
  | some i=>match i.desc with|.slice _=>true|_=>false
  | none=>true
 | .call {callee:=.builtin .len,..}|.call {callee:=.builtin .max,..}|.call {callee:=.builtin .min,..}=>false
 | _=>true
def aRead (E:Env) (op:Op) (ρ:ARho) (σ:AStore):Option AVal:=
 match aOp E true op ρ σ with
 | .val v _=>some v
 | _=>none
theorem ofV_val {σ σ':AStore} {o:Option AVal} {v:AVal} (h:ARes.ofV σ o=.val v σ'):σ'=σ:=by
 cases o with
 | none=>cases h
 | some x=>cases h; rfl
theorem aToU_same {ty:Nat->Option TyI} {t:TypeId} {x v:AVal} {σ σ':AStore} (h:aToU ty t x σ=some (v,σ')):σ'=σ:=by
 unfold aToU at h
 split at h
 ·cases h; rfl
 ·split at h
  ·split at h
   ·cases h; rfl
   ·cases h
  ·cases h
 ·cases h
theorem aFromU_same {ty:Nat->Option TyI} {t:TypeId} {x v:AVal} {σ σ':AStore} (h:aFromU ty t x σ=some (v,σ')):σ'=σ:=by
 unfold aFromU at h
 split at h
 ·cases h; rfl
 ·split at h
  ·split at h
   ·cases h; rfl
   ·cases h
  ·cases h
 ·cases h
theorem aOp_read {E:Env} {op:Op} {ρ:ARho} {σ σ':AStore} {v:AVal} (he:isEff E op=false) (h:aOp E true op ρ σ=.val v σ'):σ'=σ:=by
 cases op<;>simp only [isEff] at he<;>try (cases he; done)
 case move x=>exact ofV_val h
 case assign x=>exact ofV_val h
 case pick c a b=>simp only [aOp] at h; split at h<;>first|exact ofV_val h|cases h
 case build t ps=>
  simp only [aOp] at h
  split at h
  ·split at h
   ·exact ofV_val h
   ·split at h<;>first|exact ofV_val h|cases h
   ·cases h
  ·cases h
 case buildSlice t n ps=>simp only [aOp] at h; split at h<;>first|exact ofV_val h|cases h
 case load t x=>simp only [aOp] at h; split at h<;>first|exact ofV_val h|cases h
 case nilCheck x=>simp only [aOp] at h; split at h<;>(cases h<;>rfl)
 case binOp op t a b t2=>simp only [aOp] at h; split at h<;>first|exact ofV_val h|cases h
 case unOp op t x=>simp only [aOp] at h; split at h<;>first|exact ofV_val h|cases h
 case convert s d x=>
  simp only [aOp] at h
  split at h
  ·rename_i i j a hi hj ha
   simp only [hj] at he
   split at he
   ·cases he
   ·rename_i hns
    cases hc:aConv E.ty i.desc j.desc a σ with
    | none=>rw [hc] at h; cases h
    | some p=>
     obtain ⟨p1,p2⟩:=p
     rw [hc] at h
     cases h
     unfold aConv at hc
     split at hc
     ·cases hc; rfl
     ·split at hc<;>cases hc; rfl
     ·rename_i hd; exact absurd hd (hns _)
     ·split at hc
      ·split at hc
       ·split at hc
        ·split at hc
         ·rename_i els _
          cases hu:unbytes els with
          | none=>rw [hu] at hc; cases hc
          | some ns=>rw [hu] at hc; cases hc; rfl
         ·cases hc
        ·cases hc
       ·cases hc
      ·cases hc
     ·split at hc
      ·exact aToU_same hc
      ·cases hc
     ·split at hc
      ·exact aFromU_same hc
      ·cases hc
     ·cases hc
  ·cases h
 case makeInterface t x=>simp only [aOp] at h; split at h<;>first|exact ofV_val h|cases h
 case makeFunc fn f c=>simp only [aOp] at h; split at h<;>(cases h<;>rfl)
 case slice t x l hi m=>
  cases m with
  | some m=>
   simp only [aOp] at h
   split at h
   ·split at h
    ·split at h<;>first|exact ofV_val h|cases h
    ·cases h
   ·cases h
  | none=>
   simp only [aOp] at h
   split at h
   ·rename_i i a l h' hi1 _ _ _
    simp only [hi1] at he
    split at h
    ·exact ofV_val h
    ·split at h<;>first|exact ofV_val h|cases h
    ·rename_i hd
     simp only [hd] at he
     cases he
    ·rename_i hd
     simp only [hd] at he
     cases he
    ·cases h
   ·cases h
 case fieldAddr t x f=>simp only [aOp] at h; split at h<;>first|(split at h<;>first|exact ofV_val h|cases h)|cases h
 case field t x f=>simp only [aOp] at h; split at h<;>first|exact ofV_val h|cases h
 case indexAddr t a i=>simp only [aOp] at h; split at h<;>first|(split at h<;>first|exact ofV_val h|(split at h<;>first|exact ofV_val h|cases h))|cases h
 case index t a i=>simp only [aOp] at h; split at h<;>first|(split at h<;>first|exact ofV_val h|(split at h<;>first|(split at h<;>first|exact ofV_val h|cases h)|cases h))|cases h
 case lookup t a i ok=>simp only [aOp] at h; split at h<;>first|exact ofV_val h|cases h
 case entry x=>simp only [aOp] at h; split at h<;>first|exact ofV_val h|cases h
 case typeAssert x t a ok=>simp only [aOp] at h; split at h<;>first|exact ofV_val h|cases h
 case extract x i=>simp only [aOp] at h; split at h<;>first|exact ofV_val h|cases h
 case call c=>
  obtain ⟨callee,args,ats⟩:=c
  simp only [aOp] at h
  split at h
  ·cases callee with
   | builtin b=>
    simp only [] at h
    cases b<;>simp only at he<;>try (cases he; done)
    all_goals
     unfold aBuiltin at h
     split at h<;>first
      | (rename_i hb _ _; cases hb; done)
      | (rename_i hb; cases hb; done)
      | exact ofV_val h
      | (split at h<;>first|exact ofV_val h|cases h)
      | cases h
      | skip
   | value f=>simp at he
   | invoke r m=>simp at he
  ·cases h
theorem aRead_some {E:Env} {op:Op} {ρ:ARho} {σ:AStore} {v:AVal} (he:isEff E op=false) (h:aRead E op ρ σ=some v):aOp E true op ρ σ=.val v σ:=by
 unfold aRead at h
 split at h
 ·rename_i v' σ' hv
  cases h
  rw [hv,aOp_read he hv]
 ·cases h
end Abs
end
noncomputable section
namespace Abs
open Go
def bound (o:Oper):List Nat:=(o.after.toList.filter (Region.binds .any)).map (·.on)
def look:List (Nat×Nat)->Nat->Nat
 | [],_=>0
 | (j,m)::r,i=>match Nat.beq j i with
  | true=>m
  | false=>look r i
def maskOf (acc:List (Nat×Nat)) (l:List Nat):Nat:=l.foldl (fun m on=>(m ||| 2 ^ on) ||| look acc on) 0
def boundAt (ops:Array Oper) (i:Nat):List Nat:=
 match ops[i]? with
 | some o=>bound o
 | none=>[]
def ancs (ops:Array Oper):List Nat->List (Nat×Nat)->List (Nat×Nat)
 | [],acc=>acc
 | i::rest,acc=>ancs ops rest ((i,maskOf acc (boundAt ops i))::acc)
def tmpOf:Operand->Option Tmp
 | .tmp t=>some t
 | _=>none
def guardTmp (ops:Array Oper) (o:Oper):Option Tmp:=
 match o.guard with
 | some (j,_)=>(ops[j]?).bind (·.dst)
 | none=>none
def readsOf (ops:Array Oper) (o:Oper):List Tmp:=o.op.operands.toList.filterMap tmpOf++(guardTmp ops o).toList
def clash (ops:Array Oper) (o p:Oper):Bool:=
 (match o.dst with|some d=>(readsOf ops p).contains d || p.dst==some d|none=>false) ||
 (match p.dst with|some d=>(readsOf ops o).contains d|none=>false)
def clashAt (ops:Array Oper) (i j:Nat):Bool:=
 match ops[i]?,ops[j]? with
 | some o,some p=>clash ops o p
 | _,_=>true
def effAt (E:Env) (ops:Array Oper) (i:Nat):Bool:=
 match ops[i]? with
 | some o=>isEff E o.op
 | none=>true
def chkPairs (E:Env) (ops:Array Oper) (anc:List (Nat×Nat)):List Nat->Bool
 | []=>true
 | i::rest=>(rest.all fun j=>(!(effAt E ops i) && !(clashAt ops i j)) || (look anc j).testBit i) && chkPairs E ops anc rest
def chkTop (ops:Array Oper):List Nat->List Nat->Bool
 | _,[]=>true
 | seen,i::rest=>(boundAt ops i).all (fun on=>seen.contains on) && !(seen.contains i) && Nat.blt i ops.size && chkTop ops (i::seen) rest
def drawOk (E:Env) (ops:Array Oper) (canon:List Nat):Bool:=
 Nat.beq canon.length ops.size && (List.range ops.size).all (fun i=>canon.contains i) && chkTop ops [] canon && chkPairs E ops (ancs ops canon []) canon
theorem chkTop_spec {ops : Array Oper} : ∀ {canon seen : List Nat}, chkTop ops seen canon = true →
    (∀ p i q,canon=p++i::q->(∀ on∈boundAt ops i,on∈seen\/on∈p)/\i ∉ seen/\i ∉ p/\i < ops.size)
  | [],_,_=>by intro p i q h; simp at h
  | x :: rest, seen, h => by
      simp only [chkTop,Bool.and_eq_true,Bool.not_eq_true',List.all_eq_true] at h
      obtain ⟨⟨⟨h1,h2⟩,h3⟩,h4⟩:=h
      intro p i q hc
      cases p with
      | nil=>
        simp at hc
        obtain ⟨rfl,rfl⟩:=hc
        refine ⟨fun on hon=>.inl (by simpa using h1 on hon),by simpa using h2,by simp,by simpa [Nat.blt_eq] using h3⟩
      | cons y p=>
        simp at hc
        obtain ⟨rfl,rfl⟩:=hc
        obtain ⟨g1,g2,g3,g4⟩:=chkTop_spec h4 p i q rfl
        refine ⟨fun on hon=>?_,fun hm=>g2 (by simp [hm]),?_,g4⟩
        · rcases g1 on hon with h|h
          · simp at h
            rcases h with rfl|h
            · right; simp
            · exact .inl h
          · right; simp [h]
        · intro hm
          simp at hm
          rcases hm with rfl|hm
          · exact g2 (by simp)
          · exact g3 hm
theorem chkPairs_spec {E : Env} {ops : Array Oper} {anc : List (Nat × Nat)} : ∀ {canon : List Nat}, chkPairs E ops anc canon = true →
    ∀ p i q j r,canon=p++i::q++j::r->(effAt E ops i=true\/clashAt ops i j=true)->(look anc j).testBit i=true
  | [],_=>by intro p i q j r h; simp at h
  | x :: rest, h => by
      simp only [chkPairs,Bool.and_eq_true,List.all_eq_true] at h
      obtain ⟨h1,h2⟩:=h
      intro p i q j r hc hor
      cases p with
      | nil=>
        simp at hc
        obtain ⟨rfl,rfl⟩:=hc
        have:=h1 j (by simp)
        simp only [Bool.or_eq_true,Bool.and_eq_true,Bool.not_eq_true'] at this
        rcases this with ⟨a,b⟩|this
        · rcases hor with h|h
          · rw [h] at a; cases a
          · rw [h] at b; cases b
        · exact this
      | cons y p=>
        simp at hc
        obtain ⟨rfl,rfl⟩:=hc
        exact chkPairs_spec h2 p i q j r (by simp) hor
def Closed (ops:Array Oper) (L:Nat->Bool):Prop:=∀ i,L i=true->∀ on∈boundAt ops i,L on=true
theorem maskOf_spec (acc : List (Nat × Nat)) (i : Nat) : ∀ (l : List Nat) (m0 : Nat), (l.foldl (fun m on => (m ||| 2 ^ on) ||| look acc on) m0).testBit i = true →
    m0.testBit i=true\/∃ on∈l,on=i\/(look acc on).testBit i=true
  | [],m0,h=>.inl h
  | x :: l, m0, h => by
      simp only [List.foldl_cons] at h
      rcases maskOf_spec acc i l _ h with h1|⟨on,h1,h2⟩
      · simp only [Nat.testBit_or,Bool.or_eq_true,Nat.testBit_two_pow,decide_eq_true_eq] at h1
        rcases h1 with (h1|h1)|h1
        · exact .inl h1
        · exact .inr ⟨x,by simp,.inl h1⟩
        · exact .inr ⟨x,by simp,.inr h1⟩
      · exact .inr ⟨on,by simp [h1],h2⟩
theorem ancs_spec {ops : Array Oper} {L : Nat → Bool} (hL : Closed ops L) : ∀ (canon : List Nat) (acc : List (Nat × Nat)),
    (∀ j i,L j=true->(look acc j).testBit i=true->L i=true)->∀ j i,L j=true->(look (ancs ops canon acc) j).testBit i=true->L i=true
  | [],_,h=>h
  | x :: rest, acc, h => by
      refine ancs_spec hL rest _ ?_
      intro j i hj ht
      simp only [look] at ht
      by_cases hx:x=j
      · subst hx
        have:Nat.beq x x=true:=Nat.beq_refl x
        rw [this] at ht
        simp only [] at ht
        rcases maskOf_spec acc i _ 0 ht with h1|⟨on,h1,h2⟩
        · simp at h1
        · have hon:=hL x hj on h1
          rcases h2 with rfl|h2
          · exact hon
          · exact h on i hon h2
      · rw [nbeq_false hx] at ht
        exact h j i hj ht
structure Ran where
 i:Nat
 dst:Option Tmp
 x:Option AVal
def part (L:Nat->Bool):List Ran->AAct->AAct
 | [],a=>a
 | r::rs,a=>part L rs (if L r.i then a.put r.dst r.x else a)
def everyOne:Nat->Bool:=fun _=>true
def lastW (L:Nat->Bool) (t:Tmp):List Ran->Option (Option AVal)
 | []=>none
 | r::rs=>
  match lastW L t rs with
  | some x=>some x
  | none=>if L r.i=true/\r.dst=some t then some r.x else none
theorem AAct.put_n (a:AAct) (d:Option Tmp) (x:Option AVal):(a.put d x).n=a.n/\(a.put d x).defers=a.defers:=by
 cases d<;>exact ⟨rfl,rfl⟩
theorem AAct.fits_n {a b:AAct} (h:a.n=b.n) (d:Option Tmp):a.fits d=b.fits d:=by
 unfold AAct.fits; rw [h]
theorem AAct.put_get {a:AAct} {d:Option Tmp} (hf:a.fits d=true) (x:Option AVal) (t:Tmp):(a.put d x).tmps.get t=if d=some t then x else a.tmps.get t:=by
 cases d with
 | none=>simp [AAct.put_eq]
 | some d=>
  simp only [AAct.fits,Bool.and_eq_true,Nat.blt_eq] at hf
  simp only [AAct.put_eq,Option.some.injEq]
  rw [T.get_put _ _ _ _ _ (by omega)]
  by_cases h:t=d
  ·subst h; simp
  ·simp [h,Ne.symm h]
theorem part_n (L:Nat->Bool):∀ (rs:List Ran) (a:AAct),(part L rs a).n=a.n/\(part L rs a).defers=a.defers
  | [],a=>⟨rfl,rfl⟩
  | r :: rs, a => by
      obtain ⟨h1,h2⟩:=part_n L rs (if L r.i then a.put r.dst r.x else a)
      rw [part,h1,h2]
      split
      · exact a.put_n _ _
      · exact ⟨rfl,rfl⟩
theorem part_get (L:Nat->Bool) (t:Tmp):∀ (rs:List Ran) (a:AAct),(∀ r∈rs,a.fits r.dst=true)->(part L rs a).tmps.get t=(lastW L t rs).getD (a.tmps.get t)
  | [],a,_=>rfl
  | r :: rs, a, hf => by
      rw [part,part_get L t rs _ (fun r' hr'=>by
        rw [AAct.fits_n (b:=a) (by split<;>first|exact (a.put_n _ _).1|rfl)]; exact hf r' (by simp [hr']))]
      rw [lastW]
      cases lastW L t rs with
      | some x=>rfl
      | none=>
        simp only [Option.getD_none]
        by_cases hL:L r.i=true
        · rw [if_pos hL,AAct.put_get (hf r (by simp))]
          by_cases hd:r.dst=some t
          · rw [if_pos hd,if_pos ⟨hL,hd⟩]; rfl
          · rw [if_neg hd,if_neg (fun h=>hd h.2)]; rfl
        · rw [if_neg hL,if_neg (fun h=>hL h.1)]; rfl
theorem lastW_append (L:Nat->Bool) (t:Tmp):∀ (rs ss:List Ran),lastW L t (rs++ss)=(lastW L t ss).or (lastW L t rs)
  | [],ss=>by simp [lastW]
  | r :: rs, ss => by
      simp only [List.cons_append,lastW,lastW_append L t rs ss]
      cases lastW L t ss with
      | some x=>simp
      | none=>cases lastW L t rs<;>simp
theorem lastW_none {L:Nat->Bool} {t:Tmp}:∀ {rs:List Ran},(∀ r∈rs,r.dst=some t->L r.i=false)->lastW L t rs=none
  | [],_=>rfl
  | r :: rs, h => by
      rw [lastW,lastW_none (fun r' hr'=>h r' (by simp [hr']))]
      simp only []
      rw [if_neg]
      intro ⟨h1,h2⟩
      rw [h r (by simp) h2] at h1; cases h1
theorem lastW_all {L:Nat->Bool} {t:Tmp}:∀ {rs:List Ran},(∀ r∈rs,r.dst=some t->L r.i=true)->lastW L t rs=lastW everyOne t rs
  | [],_=>rfl
  | r :: rs, h => by
      rw [lastW,lastW,lastW_all (fun r' hr'=>h r' (by simp [hr']))]
      cases lastW everyOne t rs with
      | some x=>rfl
      | none=>
        simp only [everyOne,true_and]
        by_cases hd:r.dst=some t
        · rw [if_pos ⟨h r (by simp) hd,hd⟩,if_pos hd]
        · rw [if_neg (fun hh=>hd hh.2),if_neg hd]
theorem lastW_congr {L L':Nat->Bool} {t:Tmp}:∀ {rs:List Ran},(∀ r∈rs,r.dst=some t->L r.i=L' r.i)->lastW L t rs=lastW L' t rs
  | [],_=>rfl
  | r :: rs, h => by
      rw [lastW,lastW,lastW_congr (fun r' hr'=>h r' (by simp [hr']))]
      cases lastW L' t rs with
      | some x=>rfl
      | none=>
        simp only []
        by_cases hd:r.dst=some t
        · rw [h r (by simp) hd]
        · rw [if_neg (fun hh=>hd hh.2),if_neg (fun hh=>hd hh.2)]
theorem part_append (L:Nat->Bool):∀ (rs ss:List Ran) (a:AAct),part L (rs++ss) a=part L ss (part L rs a)
 | [],_,_=>rfl
 | r::rs,ss,a=>by simp only [List.cons_append,part]; exact part_append L rs ss _
theorem part_eq {L:Nat->Bool}:∀ (rs:List Ran) (a:AAct),(∀ r∈rs,L r.i=true)->part L rs a=part everyOne rs a
  | [],_,_=>rfl
  | r :: rs, a, h => by
      rw [part,part,if_pos (h r (by simp))]
      exact part_eq rs _ (fun r' hr'=>h r' (by simp [hr']))
structure Rec where
 i:Nat
 op:Op
 a:AAct
 v:AVal
def Rec.holds (E:Env) (r:Rec) (σ:AStore):Prop:=aRead E r.op (r.a.ev E.G) σ=some r.v
def recsOk (E:Env) (m:Nat) (σ:AStore):List Rec->Prop
 | []=>True
 | r::rs=>(match m.testBit r.i with|true=>True|false=>r.holds E σ)/\recsOk E m σ rs
theorem recsOk_mem {E:Env} {m:Nat} {σ:AStore}:∀ {rs:List Rec},recsOk E m σ rs->∀ r∈rs,m.testBit r.i=true\/r.holds E σ
  | [],_,_,h=>by simp at h
  | x :: rs, hk, r, hr => by
      simp at hr
      rcases hr with rfl|hr
      · have:=hk.1
        cases ht:m.testBit r.i with
        | true=>exact .inl rfl
        | false=>rw [ht] at this; exact .inr this
      · exact recsOk_mem hk.2 r hr
def aGoD (E:Env) (K:APred) (a0:AAct) (k:Option AVal->AStore->Prop) (σ:AStore):ARes->Prop
  | .val v σ'=>k (some v) σ'
  | .vals l=>∀ p∈l,k (some p.1) p.2
  | .skip σ'=>k (some undefA) σ'
  | .enter f args => ACallsT E f args σ fun e σ' =>
      match e with
      | .ret v=>k (some v) σ'
      | .pan v=>K (.pan v) a0 σ'
  | .pan v=>K (.pan v) a0 σ
  | .dfr _|.recov|.bad=>False
def aDr (E:Env) (ops:Array Oper) (anc:List (Nat×Nat)) (K:APred) (a0:AAct):List Nat->List Rec->AAct->AStore->Prop
 | [],_,a,σ=>K .normal a σ
 | i::rest,recs,a,σ=>
  match ops[i]? with
  | none=>False
  | some o=>
   match o.guard with
   | none=>
    match isEff E o.op with
    | true=>aGoD E K a0 (fun x σ'=>recsOk E (look anc i) σ' recs/\aDr E ops anc K a0 rest recs (a.put o.dst x) σ') σ (aOp E true o.op (a.ev E.G) σ)
    | false=>match aRead E o.op (a.ev E.G) σ with
     | some v=>aDr E ops anc K a0 rest (⟨i,o.op,a,v⟩::recs) (a.put o.dst (some v)) σ
     | none=>False
   | some (j,want)=>
    match aYield ops a j with
    | none=>False
    | some b=>
     (b=some want->
      match isEff E o.op with
      | true=>aGoD E K a0 (fun x σ'=>recsOk E (look anc i) σ' recs/\aDr E ops anc K a0 rest recs (a.put o.dst x) σ') σ (aOp E true o.op (a.ev E.G) σ)
      | false=>match aRead E o.op (a.ev E.G) σ with
       | some v=>aDr E ops anc K a0 rest (⟨i,o.op,a,v⟩::recs) (a.put o.dst (some v)) σ
       | none=>False)/\
     (b≠some want->aDr E ops anc K a0 rest recs (a.put o.dst (some undefA)) σ)
def clearAll:List Oper->AAct->AAct
 | [],a=>a
 | o::os,a=>clearAll os (a.put o.dst none)
def fitsAll (ops:List Oper) (a:AAct):Bool:=ops.all fun o=>a.fits o.dst
def aDrawn (E:Env) (ops:Array Oper) (canon:List Nat) (K:APred) (a:AAct) (σ:AStore):Prop:=
 drawOk E ops canon=true/\fitsAll ops.toList a=true/\aDr E ops (ancs ops canon []) K (clearAll ops.toList a) canon [] a σ
end Abs
end
noncomputable section
namespace Abs
open Go
def empty:AStore:=⟨.leaf,0,[]⟩
def mapO {α β:Type} (f:α->Option β):List α->Option (List β)
 | []=>some []
 | x::xs=>match f x with
  | none=>none
  | some y=>match mapO f xs with
   | none=>none
   | some ys=>some (y::ys)
def frz (σ:AStore):Nat->AVal->Option AVal
 | 0,_=>none
 | _+1,.sc v=>some (.sc v)
 | n+1,.ptr b i k=>
  match k with
  | 0=>match σ.get b with
   | some (.cells _ els)=>match els[i]? with
    | some e=>match mapO (frz σ n) e.cells with
     | some cs=>some (.iptr cs)
     | none=>none
    | none=>none
   | _=>none
  | _+1=>none
 | n+1,.iptr cs=>match mapO (frz σ n) cs with
  | some cs=>some (.iptr cs)
  | none=>none
 | n+1,.slice b off len=>
  match σ.get b with
  | some (.cells sz els)=>
   match Nat.ble (off+len) els.length with
   | true=>
    match mapO (frz σ n) ((els.drop off).take len) with
    | some es=>some (.data sz false es)
    | none=>none
   | false=>none
  | _=>none
 | n+1,.view b off len=>
  match σ.get b with
  | some (.cells sz els)=>
   match Nat.ble (off+len) els.length with
   | true=>
    match mapO (frz σ n) ((els.drop off).take len) with
    | some es=>some (.data sz true es)
    | none=>none
   | false=>none
  | _=>none
 | n+1,.data sz t els=>match mapO (frz σ n) els with
  | some es=>some (.data sz t es)
  | none=>none
 | _+1,.map _=>none
 | _+1,.yld _=>none
 | _+1,.endS b _=>
  match σ.get b with
  | some (.cells sz _)=>some (.data sz false [])
  | _=>none
 | n+1,.func fn a b=>match mapO (frz σ n) a with
  | some a=>match mapO (frz σ n) b with
   | some b=>some (.func fn a b)
   | none=>none
  | none=>none
 | n+1,.iface t v=>match frz σ n v with
  | some v=>some (.iface t v)
  | none=>none
 | n+1,.agg cs=>match mapO (frz σ n) cs with
  | some cs=>some (.agg cs)
  | none=>none
 | n+1,.tuple cs=>match mapO (frz σ n) cs with
  | some cs=>some (.tuple cs)
  | none=>none
theorem mapO_length {α β:Type} {f:α->Option β}:∀ {l:List α} {r:List β},mapO f l=some r->r.length=l.length
  | [],r,h=>by simp only [mapO,Option.some.injEq] at h; subst h; rfl
  | x :: xs, r, h => by
      unfold mapO at h
      split at h
      · cases h
      · split at h
        · cases h
        · rename_i ys hys
          cases h
          simp [mapO_length hys]
theorem mapO_cons {α β:Type} {f:α->Option β} {x:α} {xs:List α} {r:List β} (h:mapO f (x::xs)=some r):∃ y ys,f x=some y/\mapO f xs=some ys/\r=y::ys:=by
 unfold mapO at h
 split at h
 ·cases h
 ·rename_i y hy
  split at h
  ·cases h
  ·rename_i ys hys
   cases h
   exact ⟨y,ys,hy,hys,rfl⟩
theorem frz_isAgg {σ:AStore} {n:Nat} {v u:AVal} (h:frz σ n v=some u):u.isAgg=v.isAgg:=by
 cases n with
 | zero=>simp [frz] at h
 | succ n=>
  cases v<;>simp only [frz] at h
  case sc v=>cases h; rfl
  case ptr b i k=>
   split at h
   ·split at h
    ·split at h
     ·split at h
      ·cases h; rfl
      ·cases h
     ·cases h
    ·cases h
   ·cases h
  case iptr cs=>split at h<;>cases h; rfl
  case slice b off len=>
   split at h
   ·split at h
    ·split at h<;>cases h; rfl
    ·cases h
   ·cases h
  case view b off len=>
   split at h
   ·split at h
    ·split at h<;>cases h; rfl
    ·cases h
   ·cases h
  case data sz t els=>split at h<;>cases h; rfl
  case map b=>cases h
  case yld b=>cases h
  case endS b o=>split at h<;>cases h; rfl
  case func fn a b=>
   split at h
   ·split at h<;>cases h; rfl
   ·cases h
  case iface t v=>split at h<;>cases h; rfl
  case agg cs=>split at h<;>cases h; rfl
  case tuple cs=>split at h<;>cases h; rfl
section
variable {E:Env} {ι ι0:Inj} {H H2:Imm} {σ:AStore} {w:World}
def FrzOk (ι ι0:Inj) (H H2:Imm) (σ:AStore) (n:Nat):Prop:=∀ v u v',VRel σ.next ι H v v'->frz σ n v=some u->VRel 0 ι0 H2 u v'
theorem frz_LRel {n:Nat} (hP:FrzOk ι ι0 H H2 σ n):∀ {vs us:List AVal} {ws:List Value},LRel σ.next ι H vs ws->mapO (frz σ n) vs=some us->LRel 0 ι0 H2 us ws
  | _,us,_,.nil,h=>by simp only [mapO,Option.some.injEq] at h; subst h; exact .nil
  | _, us, _, .cons v w vs ws hv hs, h => by
      obtain ⟨y,ys,h1,h2,rfl⟩:=mapO_cons h
      exact .cons y w ys ws (hP v y w hv h1) (frz_LRel hP hs h2)
theorem frz_CRel {n:Nat} (hP:FrzOk ι ι0 H H2 σ n) {g g':Nat->Option Value} (hg:RLe g g'):∀ {vs us:List AVal} {o:Nat},CRel σ.next ι H g vs o->mapO (frz σ n) vs=some us->CRel 0 ι0 H2 g' us o
  | _,us,_,.nil _ o,h=>by simp only [mapO,Option.some.injEq] at h; subst h; exact .nil g' o
  | _, us, _, .cons _ v w vs o ho hv hs, h => by
      obtain ⟨y,ys,h1,h2,rfl⟩:=mapO_cons h
      exact .cons g' y w ys o (hg _ _ ho) (hP v y w hv h1) (frz_CRel hP hg hs h2)
theorem frz_DRel {n : Nat} (hP : ∀ m, m ≤ n → FrzOk ι ι0 H H2 σ m) {g g' : Nat → Option Value} (hg : RLe g g') : ∀ {sz : Nat} {vs us : List AVal} {o : Nat}, DRel σ.next ι H g sz vs o →
    mapO (frz σ n) vs=some us->DRel 0 ι0 H2 g' sz us o
  | _,_,us,_,.nil _ sz o,h=>by simp only [mapO,Option.some.injEq] at h; subst h; exact .nil g' sz o
  | _, _, us, _, .agg _ sz cs es o hsz hc hs, h => by
      obtain ⟨y,ys,h1,h2,rfl⟩:=mapO_cons h
      cases n with
      | zero=>simp [frz] at h1
      | succ n=>
        simp only [frz] at h1
        split at h1
        · rename_i cs' hcs
          cases h1
          exact .agg g' sz cs' ys o ((mapO_length hcs).trans hsz) (frz_CRel (hP n (by omega)) hg hc hcs) (frz_DRel hP hg hs h2)
        · cases h1
  | _, _, us, _, .one _ v w es o hv ho hr hs, h => by
      obtain ⟨y,ys,h1,h2,rfl⟩:=mapO_cons h
      exact .one g' y w ys o ((frz_isAgg h1).trans hv) (hg _ _ ho) (hP n (Nat.le_refl _) v y w hr h1) (frz_DRel hP hg hs h2)
theorem frz_ok (hR:Rel E ι H σ w) (hH:H.CLe H2) (hb:∀ b x,σ.get b=some x->∀ c e f,w.heap[(ι b).blk]?=some (.cells c e f)->∀ o v,c[o]?=some v->H2.cell? (ι b).blk o=some v) (n:Nat):
  ∀ m,m<=n->FrzOk ι ι0 H H2 σ m:=by
 induction n with
 | zero=>
  intro m hm v u v' hv h
  have:m=0:=by omega
  subst this
  simp [frz] at h
 | succ n ih=>
  intro m hm
  rcases Nat.lt_or_ge m (n+1) with hlt|hge
  ·exact ih m (by omega)
  have:m=n+1:=by omega
  subst this
  intro v u v' hv h
  have ihn:=ih n (Nat.le_refl _)
  have own:∀ {b:Nat} {x:ABlk},σ.get b=some x->∀ {c e f},w.heap[(ι b).blk]?=some (.cells c e f)->RLe (c[·]?) (H2.cell? (ι b).blk):=by
   intro b x hx c e f hc o v ho
   exact hb b x hx _ _ _ hc o v ho
  cases hv with
  | sc=>simp only [frz] at h; cases h; exact .sc _
  | ptr b i k hbn=>
   simp only [frz] at h
   split at h
   ·split at h
    ·rename_i sz els hg
     split at h
     ·rename_i e he
      split at h
      ·rename_i cs hcs
       cases h
       obtain ⟨h1,h2,c,elem,fr,h3,_,h4,h5,_⟩:=(hR.live b _ hg).1
       have hc:=h5.get he
       rw [h1,Nat.add_zero]
       exact .iptr cs _ _ (frz_CRel ihn (own hg h3) hc.1 hcs)
      ·cases h
     ·cases h
    ·cases h
   ·cases h
  | iptr cs b o hc=>
   simp only [frz] at h
   split at h
   ·rename_i cs' hcs
    cases h
    exact .iptr cs' b o (frz_CRel ihn (fun _ _ h=>hH _ _ _ h) hc hcs)
   ·cases h
  | slice b off len cap hbn hl hcap=>
   simp only [frz] at h
   split at h
   ·rename_i sz els hg
    split at h
    ·rename_i hle
     split at h
     ·rename_i es hes
      cases h
      have hle:=Nat.le_of_ble_eq_true hle
      obtain ⟨h1,h2,c,elem,fr,h3,_,h4,h5,_⟩:=(hR.live b _ hg).1
      have hd:=(h5.drop off).take len
      rw [h1]
      refine .data sz false es _ _ len cap ?_ hl (by simp) (frz_DRel ih (own hg h3) hd hes)
      rw [mapO_length hes]
      simp; omega
     ·cases h
    ·cases h
   ·cases h
  | view b off len hbn hcap=>
   simp only [frz] at h
   split at h
   ·rename_i sz els hg
    split at h
    ·rename_i hle
     split at h
     ·rename_i es hes
      cases h
      have hle:=Nat.le_of_ble_eq_true hle
      obtain ⟨h1,h2,c,elem,fr,h3,_,h4,h5,_⟩:=(hR.live b _ hg).1
      have hd:=(h5.drop off).take len
      rw [h1]
      refine .data sz true es _ _ len len ?_ (Nat.le_refl _) (by simp) (frz_DRel ih (own hg h3) hd hes)
      rw [mapO_length hes]
      simp; omega
     ·cases h
    ·cases h
   ·cases h
  | data sz t els b o len cap hlen hl ht hd=>
   simp only [frz] at h
   split at h
   ·rename_i es hes
    cases h
    exact .data sz t es b o len cap (by rw [mapO_length hes]; exact hlen) hl ht (frz_DRel ih (fun _ _ h=>hH _ _ _ h) hd hes)
   ·cases h
  | map b hb=>simp [frz] at h
  | yld b hb=>simp [frz] at h
  | endS b off o cap hb hc ho=>
   simp only [frz] at h
   split at h
   ·cases h; exact .data _ false [] _ o 0 cap rfl (Nat.zero_le _) (by simp) (.nil _ _ _)
   ·cases h
  | func fn fs cs fs' cs' hf hc=>
   simp only [frz] at h
   split at h
   ·rename_i a ha
    split at h
    ·rename_i b' hb'
     cases h
     exact .func fn a b' fs' cs' (frz_LRel ihn hf ha) (frz_LRel ihn hc hb')
    ·cases h
   ·cases h
  | iface t v v' hv=>
   simp only [frz] at h
   split at h
   ·rename_i y hy
    cases h
    exact .iface t y v' (ihn v y v' hv hy)
   ·cases h
  | agg cs cs' hc=>
   simp only [frz] at h
   split at h
   ·rename_i y hy
    cases h
    exact .agg y cs' (frz_LRel ihn hc hy)
   ·cases h
  | tuple cs cs' hc=>
   simp only [frz] at h
   split at h
   ·rename_i y hy
    cases h
    exact .tuple y cs' (frz_LRel ihn hc hy)
   ·cases h
end
def frzE (σ:AStore) (n:Nat):AEnd->Option AEnd
 | .ret v=>match frz σ n v with
  | some v=>some (.ret v)
  | none=>none
 | .pan v=>match frz σ n v with
  | some v=>some (.pan v)
  | none=>none
def Imm.over (H:Imm) (w:World):Imm:=fun c=>match H c with
 | some x=>some x
 | none=>(w.heap[c]?).map (false,·)
def Imm.past (H H':Imm) (w w':World):Imm:=fun c=>if c < w.heap.size then H c else match H' c with
 | some x=>some x
 | none=>(w'.heap[c]?).map (true,·)
theorem heap_lt {w:World} {c:Nat} {o:Obj} (h:w.heap[c]?=some o):c < w.heap.size:=by
 rcases Nat.lt_or_ge c w.heap.size with h'|h'
 ·exact h'
 ·simp [Array.getElem?_eq_none h'] at h
theorem ACalls.pure {E : Env} (hG : ∀ g, WF 0 (E.G g)) {f : FuncId} {args : List AVal} (ha : WFs 0 args) {R : AEnd → AStore → Prop} {N : Nat} (h : ACalls E f args empty R)
    (hF:∀ e σ0,R e σ0->∃ u,frzE σ0 N e=some u) (σ:AStore):ACalls E f args σ fun e σ'=>σ'=σ/\∃ e0 σ0,R e0 σ0/\frzE σ0 N e0=some e:=by
  intro ι H w args' hR hargs
  have hle:H.Le (H.over w):=fun c o hc=>by simp [Imm.over,hc]
  have imm0:∀ c o,(H.over w) c=some o->w.heap[c]?=some o.2:=by
    intro c o hc
    unfold Imm.over at hc
    cases hx:H c with
    | some x=>rw [hx] at hc; cases hc; exact hR.imm c _ hx
    | none=>
      rw [hx] at hc
      cases hy:w.heap[c]? with
      | none=>simp [hy] at hc
      | some y=>simp [hy] at hc; subst hc; rfl
  have hR0:Rel E ι (H.over w) empty w:=
    { imm := imm0
      live:=fun b x h=>by simp [AStore.fin empty b (Nat.zero_le _)] at h
      inj:=fun b b' x x' h=>by simp [AStore.fin empty b (Nat.zero_le _)] at h
      glob:=fun g=>VRel.mono (m:=0) (fun _ h=>by omega) (Nat.le_refl _) hle.cle (hR.glob g) (hG g)
      keep:=hR.keep
      tys:=fun b t h=>by simp [empty] at h}
  have hargs0:LRel 0 ι (H.over w) args args':=LRel.mono (m:=0) (fun _ h=>by omega) (Nat.le_refl _) hle.cle hargs ha
  refine Calls.mono (h ι (H.over w) w args' hR0 hargs0) ?_
  rintro e w' ⟨ι',H',σ0,ae,hr,he,hR',hx⟩
  obtain ⟨u,hu⟩:=hF ae σ0 hr
  have hold:∀ (c:Nat) (o:Obj),w.heap[c]?=some o->w'.heap[c]?=some o:=by
    intro c o hc
    cases hHc:(H.over w) c with
    | some x=>
      have:=imm0 c x hHc
      rw [hc] at this
      cases this
      exact hR'.imm c x (hx.imm c x hHc)
    | none=>
      unfold Imm.over at hHc
      split at hHc
      · cases hHc
      · simp [hc] at hHc
  have hsz:w.heap.size<=w'.heap.size:=by
    rcases Nat.eq_zero_or_pos w.heap.size with h0|h0
    · omega
    · have:=hold (w.heap.size - 1) (w.heap[w.heap.size - 1]'(by omega)) (by simp [show w.heap.size - 1 < w.heap.size by omega])
      have:=heap_lt this
      omega
  have hlt:∀ (c:Nat),c < w.heap.size->w'.heap[c]?=w.heap[c]?:=by
    intro c hc
    rw [hold c w.heap[c] (by simp [hc])]
    simp [hc]
  have hp1:∀ b,b < w.heap.size->H.past H' w w' b=H b:=fun b hb=>by simp only [Imm.past,if_pos hb]
  have hp2:∀ b,¬ b < w.heap.size->H.past H' w w' b=match H' b with|some x=>some x|none=>(w'.heap[b]?).map (true,·):=fun b hb=>by simp only [Imm.past,if_neg hb]
  have hover:∀ b,b < w.heap.size->∃ x,(H.over w) b=some x:=by
    intro b hb
    unfold Imm.over
    cases hHc:H b with
    | some y=>exact ⟨y,rfl⟩
    | none=>exact ⟨(false,w.heap[b]),by simp [hb]⟩
  have hcle:H'.CLe (H.past H' w w'):=by
    intro b o v hc
    unfold Imm.cell? at hc ⊢
    by_cases hb:b < w.heap.size
    · obtain ⟨x,hHb⟩:=hover b hb
      have h1:=hx.imm b x hHb
      rw [h1] at hc
      rw [hp1 b hb]
      unfold Imm.over at hHb
      cases hHc:H b with
      | some y=>rw [hHc] at hHb; cases hHb; exact hc
      | none=>rw [hHc] at hHb; simp [hb] at hHb; subst hHb; cases hc
    · rw [hp2 b hb]
      cases hHb:H' b with
      | none=>rw [hHb] at hc; cases hc
      | some x=>rw [hHb] at hc; exact hc
  have hnew:∀ (b:Nat) c e f,w'.heap[b]?=some (.cells c e f)->H' b=none->∀ o v,c[o]?=some v->(H.past H' w w').cell? b o=some v:=by
    intro b c e f hb hn o v ho
    have hbs:¬ b < w.heap.size:=by
      intro hb'
      cases hHo:(H.over w) b with
      | some x=>rw [hx.imm b x hHo] at hn; cases hn
      | none=>
        unfold Imm.over at hHo
        split at hHo
        · cases hHo
        · simp [hb'] at hHo
    unfold Imm.cell?
    rw [hp2 b hbs,hn]
    simp only [hb,Option.map_some]
    exact ho
  have hfrz:=frz_ok (ι0:=ι) hR' hcle (fun b x hx c e f hc o v ho=>hnew _ c e f hc (hR'.live b x hx).2.1 o v ho) N N (Nat.le_refl _)
  have hLe:H.Le (H.past H' w w'):=by
    intro c o hc
    have:=heap_lt (hR.imm c o hc)
    simp [Imm.past,this,hc]
  have hE:Ext σ.next ι H σ.next ι (H.past H' w w'):=⟨Nat.le_refl _,fun _ _=>rfl,hLe⟩
  refine ⟨ι,H.past H' w w',σ,u,⟨rfl,ae,σ0,hr,hu⟩,?_,?_,hE⟩
  · have up:∀ {v:AVal} {v':Value},VRel 0 ι (H.past H' w w') v v'->VRel σ.next ι (H.past H' w w') v v':=
      fun h=>VRel.mono (m:=0) (fun _ h=>by omega) (Nat.zero_le _) (fun _ _ _ h=>h) h h.wf
    cases he with
    | ret v v' hv=>
      simp only [frzE] at hu
      split at hu
      · rename_i y hy
        cases hu
        exact .ret _ _ (up (hfrz v y v' hv hy))
      · cases hu
    | pan v v' hv=>
      simp only [frzE] at hu
      split at hu
      · rename_i y hy
        cases hu
        exact .pan _ _ (up (hfrz v y v' hv hy))
      · cases hu
  · refine ⟨?_,?_,hR.inj,fun g=>(hR.glob g).ext hE,hR'.keep,hR.tys⟩
    · intro c o hc
      unfold Imm.past at hc
      split at hc
      · exact hold c _ (hR.imm c o hc)
      · split at hc
        · rename_i x hx'
          cases hc
          exact hR'.imm c _ hx'
        · cases hy:w'.heap[c]? with
          | none=>simp [hy] at hc
          | some y=>simp [hy] at hc; subst hc; rfl
    · intro b x hbx
      obtain ⟨h1,h2,h3⟩:=hR.live b x hbx
      refine ⟨h1.ext hE (hlt _ h3) hsz ?_,?_,by omega⟩
      · rintro m since seen rfl
        exact hlt _ h1.1.2.1
      · simp [Imm.past,h3,h2]
end Abs
end
noncomputable section
namespace Abs
open Go
def onlyT (σ:AStore):List Nat->T ABlk->T ABlk
 | [],t=>t
 | b::r,t=>onlyT σ r (T.put (b+1) t b (σ.get b))
def AStore.only (σ:AStore) (bs:List Nat):AStore:=⟨onlyT σ bs .leaf,σ.next,[]⟩
theorem onlyT_get {σ:AStore}:∀ (bs:List Nat) (t:T ABlk) {b:Nat} {x:ABlk},(onlyT σ bs t).get b=some x->(b∈bs/\σ.get b=some x)\/t.get b=some x
  | [],t,b,x,h=>.inr h
  | c :: r, t, b, x, h => by
      rcases onlyT_get r _ h with h1|h1
      · exact .inl ⟨by simp [h1.1],h1.2⟩
      · rw [T.get_put _ _ _ _ _ (lt_two_pow_sub _)] at h1
        split at h1
        · rename_i e; subst e; exact .inl ⟨by simp,h1⟩
        · exact .inr h1
theorem AStore.only_get {σ:AStore} {bs:List Nat} {b:Nat} {x:ABlk} (h:(σ.only bs).get b=some x):b∈bs/\σ.get b=some x:=by
 have hlt:=AStore.lt_of_get h
 rw [AStore.get_of_lt hlt] at h
 rcases onlyT_get bs .leaf h with h|h
 ·exact h
 ·cases h
def delAll:List Nat->AStore->AStore
 | [],σ=>σ
 | b::r,σ=>delAll r (σ.del b)
theorem delAll_next:∀ (bs:List Nat) (σ:AStore),(delAll bs σ).next=σ.next
 | [],σ=>rfl
 | b::r,σ=>delAll_next r (σ.del b)
def blks (σ:AStore):Nat->List AVal->List Nat->List Nat
 | 0,_,acc=>acc
 | _+1,[],acc=>acc
 | f+1,v::r,acc=>
  match v with
  | .agg xs|.tuple xs|.iptr xs=>blks σ f (xs++r) acc
  | .iface _ v=>blks σ f (v::r) acc
  | .func _ a b=>blks σ f (a++(b++r)) acc
  | .ptr b _ _|.slice b _ _|.view b _ _|.endS b _=>
   match acc.any (Nat.beq b) with
   | true=>blks σ f r acc
   | false=>match σ.get b with
    | some (.cells _ els)=>blks σ f (els++r) (b::acc)
    | _=>blks σ f r acc
  | _=>blks σ f r acc
def fzArgs (σ:AStore) (args:List AVal):Option (List AVal×AStore):=
 match blks σ 2000 args [] with
 | bs=>match mapO (frz (σ.only bs) 100) args with
  | some args'=>some (args',delAll bs σ)
  | none=>none
section
variable {E:Env} {ι:Inj} {H:Imm} {σ σ':AStore} {w:World}
theorem Rel.freezes : ∀ (bs : List Nat) {σ : AStore} {H : Imm}, Rel E ι H σ w →
    ∃ H',Rel E ι H' (delAll bs σ) w/\Ext σ.next ι H σ.next ι H'/\
      ∀ b x,b∈bs->σ.get b=some x->∀ c e f,w.heap[(ι b).blk]?=some (.cells c e f)->∀ o v,c[o]?=some v->H'.cell? (ι b).blk o=some v
  | [],σ,H,hR=>⟨H,hR,Ext.refl _ _ _,fun b x h=>by simp at h⟩
  | b :: r, σ, H, hR => by
      cases hb:σ.get b with
      | none=>
        have hR1:Rel E ι H (σ.del b) w:=hR.restrict rfl (by
          intro b' x' hx'
          rw [AStore.get_del] at hx'
          split at hx'
          · cases hx'
          · exact hx') (fun _ h=>h)
        obtain ⟨H',h1,h2,h3⟩:=Rel.freezes r hR1
        refine ⟨H',h1,h2,?_⟩
        intro b' x hm hx
        simp only [List.mem_cons] at hm
        rcases hm with rfl|hm
        · rw [hb] at hx; cases hx
        · exact h3 b' x hm (by
            rw [AStore.get_del]
            split
            · rename_i e; subst e; rw [hb] at hx; cases hx
            · exact hx)
      | some y=>
        obtain ⟨_,_,hlt⟩:=hR.live b y hb
        obtain ⟨o,ho⟩:∃ o,w.heap[(ι b).blk]?=some o:=⟨w.heap[(ι b).blk],by simp [hlt]⟩
        obtain ⟨f1,f2⟩:=hR.freeze hb ho
        obtain ⟨H',h1,h2,h3⟩:=Rel.freezes r f1
        refine ⟨H',h1,f2.trans h2,?_⟩
        have told:∀ c e f,w.heap[(ι b).blk]?=some (.cells c e f)->∀ o v,c[o]?=some v->H'.cell? (ι b).blk o=some v:=by
          intro c e f hc k v hv
          rw [ho] at hc
          cases hc
          exact h2.imm.cell (by simpa [Imm.cell?,Imm.with] using hv)
        intro b' x hm hx
        by_cases e:b'=b
        · subst e; exact told
        · simp only [List.mem_cons] at hm
          rcases hm with rfl|hm
          · exact absurd rfl e
          · exact h3 b' x hm (by rw [AStore.get_del,if_neg e]; exact hx)
theorem fzArgs_sound (hR:Rel E ι H σ w) {args args':List AVal} {ws:List Value} (hargs:LRel σ.next ι H args ws) (h:fzArgs σ args=some (args',σ')):
  ∃ H',Rel E ι H' σ' w/\LRel σ'.next ι H' args' ws/\Ext σ.next ι H σ'.next ι H':=by
 unfold fzArgs at h
 simp only [] at h
 generalize blks σ 2000 args []=bs at h
 cases hus:mapO (frz (σ.only bs) 100) args with
 | none=>rw [hus] at h; cases h
 | some us=>
  rw [hus] at h
  cases h
  obtain ⟨H',h1,h2,h3⟩:=Rel.freezes bs hR
  have hR2:Rel E ι H (σ.only bs) w:=hR.restrict rfl (fun b x hx=>(AStore.only_get hx).2) (fun p hp=>by simp [AStore.only] at hp)
  have hok:=frz_ok (ι0:=ι) (H2:=H') hR2 h2.imm.cle (fun b x hx c e f hc o v hv=>h3 b x (AStore.only_get hx).1 (AStore.only_get hx).2 c e f hc o v hv) 100 100 (Nat.le_refl _)
  have hl:LRel 0 ι H' args' ws:=frz_LRel hok (σ:=σ.only bs) hargs hus
  rw [delAll_next]
  exact ⟨H',h1,LRel.mono (m:=0) (fun _ h=>by omega) (Nat.zero_le _) (fun _ _ _ h=>h) hl hl.wf,h2⟩
theorem ACalls.fz {f:FuncId} {args args':List AVal} {R:AEnd->AStore->Prop} (h:fzArgs σ args=some (args',σ')) (hc:ACalls E f args' σ' R):ACalls E f args σ R:=by
 intro ι H w ws hR hargs
 obtain ⟨H',h1,h2,h3⟩:=fzArgs_sound hR hargs h
 refine Calls.mono (hc ι H' w ws h1 h2) ?_
 rintro e w' ⟨ι1,H1,σ1,ae,hr,he,hR1,hx⟩
 exact ⟨ι1,H1,σ1,ae,hr,he,hR1,h3.trans hx⟩
end
end Abs
end
noncomputable section
namespace Abs
open Go
def ownV (σ:AStore):Nat->AVal->Bool
 | 0,_=>false
 | _+1,.sc _=>true
 | n+1,.ptr b i _=>match σ.get b with
  | some (.cells _ els)=>match els[i]? with
   | some e=>e.cells.all (ownV σ n)
   | none=>false
  | _=>false
 | n+1,.slice b off len=>match σ.get b with
  | some (.cells _ els)=>((els.drop off).take len).all (ownV σ n)
  | _=>false
 | n+1,.view b off len=>match σ.get b with
  | some (.cells _ els)=>((els.drop off).take len).all (ownV σ n)
  | _=>false
 | _+1,.data _ _ els=>match els with
  | []=>true
  | _::_=>false
 | n+1,.iface _ v=>ownV σ n v
 | n+1,.agg cs=>cs.all (ownV σ n)
 | n+1,.tuple cs=>cs.all (ownV σ n)
 | _+1,.iptr _|_+1,.map _|_+1,.yld _|_+1,.endS _ _|_+1,.func _ _ _=>false
section
variable {E:Env} {ι ι0:Inj} {H H2:Imm} {σ:AStore} {w:World}
def OwnOk (ι ι0:Inj) (H H2:Imm) (σ:AStore) (n:Nat):Prop:=∀ v u v',ownV σ n v=true->VRel σ.next ι H v v'->frz σ n v=some u->VRel 0 ι0 H2 u v'
theorem own_LRel {n:Nat} (hP:OwnOk ι ι0 H H2 σ n):∀ {vs us:List AVal} {ws:List Value},LRel σ.next ι H vs ws->vs.all (ownV σ n)=true->mapO (frz σ n) vs=some us->LRel 0 ι0 H2 us ws
  | _,us,_,.nil,_,h=>by simp only [mapO,Option.some.injEq] at h; subst h; exact .nil
  | _, us, _, .cons v w vs ws hv hs, ho, h => by
      obtain ⟨y,ys,h1,h2,rfl⟩:=mapO_cons h
      simp only [List.all_cons,Bool.and_eq_true] at ho
      exact .cons y w ys ws (hP v y w ho.1 hv h1) (own_LRel hP hs ho.2 h2)
theorem own_CRel {n:Nat} (hP:OwnOk ι ι0 H H2 σ n) {g g':Nat->Option Value} (hg:RLe g g'):∀ {vs us:List AVal} {o:Nat},CRel σ.next ι H g vs o->vs.all (ownV σ n)=true->mapO (frz σ n) vs=some us->CRel 0 ι0 H2 g' us o
  | _,us,_,.nil _ o,_,h=>by simp only [mapO,Option.some.injEq] at h; subst h; exact .nil g' o
  | _, us, _, .cons _ v w vs o ho hv hs, hw, h => by
      obtain ⟨y,ys,h1,h2,rfl⟩:=mapO_cons h
      simp only [List.all_cons,Bool.and_eq_true] at hw
      exact .cons g' y w ys o (hg _ _ ho) (hP v y w hw.1 hv h1) (own_CRel hP hg hs hw.2 h2)
theorem own_DRel {n : Nat} (hP : ∀ m, m ≤ n → OwnOk ι ι0 H H2 σ m) {g g' : Nat → Option Value} (hg : RLe g g') : ∀ {sz : Nat} {vs us : List AVal} {o : Nat}, DRel σ.next ι H g sz vs o → vs.all (ownV σ n) = true →
    mapO (frz σ n) vs=some us->DRel 0 ι0 H2 g' sz us o
  | _,_,us,_,.nil _ sz o,_,h=>by simp only [mapO,Option.some.injEq] at h; subst h; exact .nil g' sz o
  | _, _, us, _, .agg _ sz cs es o hsz hc hs, hw, h => by
      obtain ⟨y,ys,h1,h2,rfl⟩:=mapO_cons h
      simp only [List.all_cons,Bool.and_eq_true] at hw
      cases n with
      | zero=>simp [frz] at h1
      | succ n=>
        simp only [frz] at h1
        split at h1
        · rename_i cs' hcs
          cases h1
          have hwc:cs.all (ownV σ n)=true:=hw.1
          exact .agg g' sz cs' ys o ((mapO_length hcs).trans hsz) (own_CRel (hP n (by omega)) hg hc hwc hcs) (own_DRel hP hg hs hw.2 h2)
        · cases h1
  | _, _, us, _, .one _ v w es o hv ho hr hs, hw, h => by
      obtain ⟨y,ys,h1,h2,rfl⟩:=mapO_cons h
      simp only [List.all_cons,Bool.and_eq_true] at hw
      exact .one g' y w ys o ((frz_isAgg h1).trans hv) (hg _ _ ho) (hP n (Nat.le_refl _) v y w hw.1 hr h1) (own_DRel hP hg hs hw.2 h2)
theorem own_ok (hR:Rel E ι H σ w) (hb:∀ b x,σ.get b=some x->∀ c e f,w.heap[(ι b).blk]?=some (.cells c e f)->∀ o v,c[o]?=some v->H2.cell? (ι b).blk o=some v) (n:Nat):
  ∀ m,m<=n->OwnOk ι ι0 H H2 σ m:=by
 induction n with
 | zero=>
  intro m hm v u v' hw hv h
  have:m=0:=by omega
  subst this
  simp [frz] at h
 | succ n ih=>
  intro m hm
  rcases Nat.lt_or_ge m (n+1) with hlt|hge
  ·exact ih m (by omega)
  have:m=n+1:=by omega
  subst this
  intro v u v' hw hv h
  have ihn:=ih n (Nat.le_refl _)
  have own:∀ {b:Nat} {x:ABlk},σ.get b=some x->∀ {c e f},w.heap[(ι b).blk]?=some (.cells c e f)->RLe (c[·]?) (H2.cell? (ι b).blk):=by
   intro b x hx c e f hc o v ho
   exact hb b x hx _ _ _ hc o v ho
  cases hv with
  | sc=>simp only [frz] at h; cases h; exact .sc _
  | ptr b i k hbn=>
   simp only [frz] at h
   simp only [ownV] at hw
   split at h
   ·split at h
    ·rename_i sz els hg
     rw [hg] at hw
     simp only [] at hw
     split at h
     ·rename_i e he
      rw [he] at hw
      simp only [] at hw
      split at h
      ·rename_i cs hcs
       cases h
       obtain ⟨h1,h2,c,elem,fr,h3,_,h4,h5,_⟩:=(hR.live b _ hg).1
       have hc:=h5.get he
       rw [h1,Nat.add_zero]
       exact .iptr cs _ _ (own_CRel ihn (own hg h3) hc.1 hw hcs)
      ·cases h
     ·cases h
    ·cases h
   ·cases h
  | iptr cs b o hc=>simp [ownV] at hw
  | slice b off len cap hbn hl hcap=>
   simp only [frz] at h
   simp only [ownV] at hw
   split at h
   ·rename_i sz els hg
    rw [hg] at hw
    simp only [] at hw
    split at h
    ·rename_i hle
     split at h
     ·rename_i es hes
      cases h
      have hle:=Nat.le_of_ble_eq_true hle
      obtain ⟨h1,h2,c,elem,fr,h3,_,h4,h5,_⟩:=(hR.live b _ hg).1
      have hd:=(h5.drop off).take len
      rw [h1]
      refine .data sz false es _ _ len cap ?_ hl (by simp) (own_DRel ih (own hg h3) hd hw hes)
      rw [mapO_length hes]
      simp; omega
     ·cases h
    ·cases h
   ·cases h
  | view b off len hbn hcap=>
   simp only [frz] at h
   simp only [ownV] at hw
   split at h
   ·rename_i sz els hg
    rw [hg] at hw
    simp only [] at hw
    split at h
    ·rename_i hle
     split at h
     ·rename_i es hes
      cases h
      have hle:=Nat.le_of_ble_eq_true hle
      obtain ⟨h1,h2,c,elem,fr,h3,_,h4,h5,_⟩:=(hR.live b _ hg).1
      have hd:=(h5.drop off).take len
      rw [h1]
      refine .data sz true es _ _ len len ?_ (Nat.le_refl _) (by simp) (own_DRel ih (own hg h3) hd hw hes)
      rw [mapO_length hes]
      simp; omega
     ·cases h
    ·cases h
   ·cases h
  | data sz t els b o len cap hlen hl ht hd=>
   simp only [ownV] at hw
   cases els with
   | cons x xs=>cases hw
   | nil=>
    simp only [frz,mapO] at h
    cases h
    exact .data sz t [] b o len cap hlen hl ht (.nil _ _ _)
  | map b hb=>simp [frz] at h
  | yld b hb=>simp [frz] at h
  | endS b off o cap hb hc ho=>simp [ownV] at hw
  | func fn fs cs fs' cs' hf hc=>simp [ownV] at hw
  | iface t v v' hv=>
   simp only [frz] at h
   split at h
   ·rename_i y hy
    cases h
    exact .iface t y v' (ihn v y v' hw hv hy)
   ·cases h
  | agg cs cs' hc=>
   simp only [frz] at h
   split at h
   ·rename_i y hy
    cases h
    exact .agg y cs' (own_LRel ihn hc hw hy)
   ·cases h
  | tuple cs cs' hc=>
   simp only [frz] at h
   split at h
   ·rename_i y hy
    cases h
    exact .tuple y cs' (own_LRel ihn hc hw hy)
   ·cases h
end
def ownE (σ:AStore) (n:Nat):AEnd->Bool
 | .ret v=>ownV σ n v
 | .pan v=>ownV σ n v
theorem ACalls.pureT {E : Env} (hG : ∀ g, WF 0 (E.G g)) {f : FuncId} {args : List AVal} {R : AEnd → AStore → Prop} {N : Nat} (h : ACalls E f args empty R)
    (hF:∀ e σ0,R e σ0->∃ u,frzE σ0 N e=some u/\ownE σ0 N e=true) (σ:AStore) {M:Nat} {bs:List Nat} {args1:List AVal} (hz:mapO (frz (σ.only bs) M) args1=some args):
    ACalls E f args1 σ fun e σ'=>σ'=σ/\∃ e0 σ0,R e0 σ0/\frzE σ0 N e0=some e:=by
  intro ι H w args' hR hargs1
  obtain ⟨Hz,hRz,hEz,hTz⟩:=Rel.freezes bs hR
  have hR2:Rel E ι H (σ.only bs) w:=hR.restrict rfl (fun b x hx=>(AStore.only_get hx).2) (fun p hp=>by simp [AStore.only] at hp)
  have hok:=frz_ok (ι0:=ι) (H2:=Hz) hR2 hEz.imm.cle (fun b x hx c e f hc o v hv=>hTz b x (AStore.only_get hx).1 (AStore.only_get hx).2 c e f hc o v hv) M M (Nat.le_refl _)
  have hargsz:LRel 0 ι Hz args args':=frz_LRel hok (σ:=σ.only bs) hargs1 hz
  have hle:Hz.Le (Hz.over w):=fun c o hc=>by simp [Imm.over,hc]
  have imm0:∀ c o,(Hz.over w) c=some o->w.heap[c]?=some o.2:=by
    intro c o hc
    unfold Imm.over at hc
    cases hx:Hz c with
    | some x=>rw [hx] at hc; cases hc; exact hRz.imm c _ hx
    | none=>
      rw [hx] at hc
      cases hy:w.heap[c]? with
      | none=>simp [hy] at hc
      | some y=>simp [hy] at hc; subst hc; rfl
  have hR0:Rel E ι (Hz.over w) empty w:=
    { imm := imm0
      live:=fun b x h=>by simp [AStore.fin empty b (Nat.zero_le _)] at h
      inj:=fun b b' x x' h=>by simp [AStore.fin empty b (Nat.zero_le _)] at h
      glob:=fun g=>VRel.mono (m:=0) (fun _ h=>by omega) (Nat.le_refl _) hle.cle (hRz.glob g) (hG g)
      keep:=hR.keep
      tys:=fun b t h=>by simp [empty] at h}
  have hargs0:LRel 0 ι (Hz.over w) args args':=LRel.mono (m:=0) (fun _ h=>by omega) (Nat.le_refl _) hle.cle hargsz hargsz.wf
  refine Calls.mono (h ι (Hz.over w) w args' hR0 hargs0) ?_
  rintro e w' ⟨ι',H',σ0,ae,hr,he,hR',hx⟩
  obtain ⟨u,hu,hown⟩:=hF ae σ0 hr
  have hold:∀ (c:Nat) (o:Obj),w.heap[c]?=some o->w'.heap[c]?=some o:=by
    intro c o hc
    cases hHc:(Hz.over w) c with
    | some x=>
      have:=imm0 c x hHc
      rw [hc] at this
      cases this
      exact hR'.imm c x (hx.imm c x hHc)
    | none=>
      unfold Imm.over at hHc
      split at hHc
      · cases hHc
      · simp [hc] at hHc
  have hsz:w.heap.size<=w'.heap.size:=by
    rcases Nat.eq_zero_or_pos w.heap.size with h0|h0
    · omega
    · have:=hold (w.heap.size - 1) (w.heap[w.heap.size - 1]'(by omega)) (by simp [show w.heap.size - 1 < w.heap.size by omega])
      have:=heap_lt this
      omega
  have hlt:∀ (c:Nat),c < w.heap.size->w'.heap[c]?=w.heap[c]?:=by
    intro c hc
    rw [hold c w.heap[c] (by simp [hc])]
    simp [hc]
  have hp2:∀ b,¬ b < w.heap.size->H.past H' w w' b=match H' b with|some x=>some x|none=>(w'.heap[b]?).map (true,·):=fun b hb=>by unfold Imm.past; rw [if_neg hb]<;>cases H' b<;>rfl
  have hnew:∀ (b:Nat) c e f,w'.heap[b]?=some (.cells c e f)->H' b=none->∀ o v,c[o]?=some v->(H.past H' w w').cell? b o=some v:=by
    intro b c e f hb hn o v ho
    have hbs:¬ b < w.heap.size:=by
      intro hb'
      cases hHo:(Hz.over w) b with
      | some x=>rw [hx.imm b x hHo] at hn; cases hn
      | none=>
        unfold Imm.over at hHo
        split at hHo
        · cases hHo
        · simp [hb'] at hHo
    unfold Imm.cell?
    rw [hp2 b hbs,hn]
    simp only [hb,Option.map_some]
    exact ho
  have hfrz:=own_ok (ι0:=ι) (H2:=H.past H' w w') hR' (fun b x hx c e f hc o v ho=>hnew _ c e f hc (hR'.live b x hx).2.1 o v ho) N N (Nat.le_refl _)
  have hLe:H.Le (H.past H' w w'):=by
    intro c o hc
    have:=heap_lt (hR.imm c o hc)
    simp [Imm.past,this,hc]
  have hE:Ext σ.next ι H σ.next ι (H.past H' w w'):=⟨Nat.le_refl _,fun _ _=>rfl,hLe⟩
  refine ⟨ι,H.past H' w w',σ,u,⟨rfl,ae,σ0,hr,hu⟩,?_,?_,hE⟩
  · have up:∀ {v:AVal} {v':Value},VRel 0 ι (H.past H' w w') v v'->VRel σ.next ι (H.past H' w w') v v':=
      fun h=>VRel.mono (m:=0) (fun _ h=>by omega) (Nat.zero_le _) (fun _ _ _ h=>h) h h.wf
    cases he with
    | ret v v' hv=>
      simp only [frzE] at hu
      split at hu
      · rename_i y hy
        cases hu
        exact .ret _ _ (up (hfrz v y v' hown hv hy))
      · cases hu
    | pan v v' hv=>
      simp only [frzE] at hu
      split at hu
      · rename_i y hy
        cases hu
        exact .pan _ _ (up (hfrz v y v' hown hv hy))
      · cases hu
  · refine ⟨?_,?_,hR.inj,fun g=>(hR.glob g).ext hE,hR'.keep,hR.tys⟩
    · intro c o hc
      unfold Imm.past at hc
      split at hc
      · exact hold c _ (hR.imm c o hc)
      · split at hc
        · rename_i x hx'
          cases hc
          exact hR'.imm c _ hx'
        · cases hy:w'.heap[c]? with
          | none=>simp [hy] at hc
          | some y=>simp [hy] at hc; subst hc; rfl
    · intro b x hbx
      obtain ⟨h1,h2,h3⟩:=hR.live b x hbx
      refine ⟨h1.ext hE (hlt _ h3) hsz ?_,?_,by omega⟩
      · rintro m since seen rfl
        exact hlt _ h1.1.2.1
      · simp [Imm.past,h3,h2]
end Abs
end
noncomputable section
namespace Abs
open Go
theorem part_skip {L:Nat->Bool}:∀ (rs:List Ran) (a:AAct),(∀ r∈rs,L r.i=false)->part L rs a=a
  | [],_,_=>rfl
  | r :: rs, a, h => by
      rw [part,if_neg (by rw [h r (by simp)]; simp)]
      exact part_skip rs _ (fun r' hr'=>h r' (by simp [hr']))
def withOne (L:Nat->Bool) (i:Nat):Nat->Bool:=fun k=>L k || k==i
theorem withOne_self (L:Nat->Bool) (i:Nat):withOne L i i=true:=by simp [withOne]
theorem withOne_ne {L:Nat->Bool} {i k:Nat} (h:k≠i):withOne L i k=L k:=by simp [withOne,h]
theorem withOne_mono {L:Nat->Bool} {i k:Nat} (h:L k=true):withOne L i k=true:=by simp [withOne,h]
theorem Closed.withOne {ops:Array Oper} {L:Nat->Bool} (hL:Closed ops L) {i:Nat} (hi:∀ on∈boundAt ops i,L on=true):Closed ops (withOne L i):=by
 intro k hk on hon
 by_cases h:k=i
 ·subst h; exact withOne_mono (hi on hon)
 ·rw [withOne_ne h] at hk; exact withOne_mono (hL k hk on hon)
section
variable {E:Env} {ops:Array Oper} {canon:List Nat} {K:APred} {a0:AAct}
structure DInv (E:Env) (ops:Array Oper) (canon:List Nat) (K:APred) (a0:AAct) (L:Nat->Bool) (pre suf:List Nat) (vals:List Ran) (recs:List Rec) (σ:AStore):Prop where
  split:canon=pre++suf
  idx:vals.map (·.i)=pre
  inpre:∀ i,L i=true->i∈pre
  eff:∀ i∈pre,effAt E ops i=true->L i=true
  closed:Closed ops L
  form:aDr E ops (ancs ops canon []) K (clearAll ops.toList a0) suf recs (part everyOne vals a0) σ
  ents:∀ v1 r v2,vals=v1++r::v2->∃ o,ops[r.i]?=some o/\r.dst=o.dst/\(L r.i=false->isEff E o.op=false/\
    ((∃ j want b,o.guard=some (j,want)/\aYield ops (part everyOne v1 a0) j=some b/\b≠some want/\r.x=some undefA)\/
     ((o.guard=none\/∃ j b,o.guard=some (j,b)/\aYield ops (part everyOne v1 a0) j=some (some b))/\
      ∃ v,r.x=some v/\(⟨r.i,o.op,part everyOne v1 a0,v⟩:Rec)∈recs/\aRead E o.op ((part everyOne v1 a0).ev E.G) σ=some v)))
def Settled (E:Env) (ops:Array Oper) (suf:List Nat):Prop:=suf=[]\/∃ e s,suf=e::s/\effAt E ops e=true
structure DOk (E:Env) (ops:Array Oper) (canon:List Nat):Prop where
 len:canon.length=ops.size
 all:∀ i,i < ops.size->i∈canon
 top:∀ p i q,canon=p++i::q->(∀ on∈boundAt ops i,on∈p)/\i ∉ p/\i < ops.size
 pairs:∀ p i q j r,canon=p++i::q++j::r->(effAt E ops i=true\/clashAt ops i j=true)->(look (ancs ops canon []) j).testBit i=true
theorem DOk.of (h:drawOk E ops canon=true):DOk E ops canon:=by
 simp only [drawOk,Bool.and_eq_true,List.all_eq_true] at h
 obtain ⟨⟨⟨h0,h1⟩,h2⟩,h3⟩:=h
 refine ⟨Nat.eq_of_beq_eq_true h0,fun i hi=>by simpa using h1 i (by simpa using hi),?_,chkPairs_spec h3⟩
 intro p i q hc
 obtain ⟨g1,g2,g3,g4⟩:=chkTop_spec h2 p i q hc
 exact ⟨fun on hon=>(g1 on hon).resolve_left (by simp),g3,g4⟩
theorem DOk.nodup (h:DOk E ops canon) {p:List Nat} {i:Nat} {q:List Nat} (hc:canon=p++i::q):i ∉ p/\i ∉ q:=by
 refine ⟨(h.top p i q hc).2.1,?_⟩
 intro hi
 obtain ⟨q1,q2,rfl⟩:=List.append_of_mem hi
 exact (h.top (p++i::q1) i q2 (by simp [hc])).2.1 (by simp)
theorem DOk.anc (_h:DOk E ops canon) {L:Nat->Bool} (hL:Closed ops L) {i j:Nat} (hj:L j=true) (ht:(look (ancs ops canon []) j).testBit i=true):L i=true:=
 ancs_spec hL canon [] (by intro j i _ h; simp [look] at h) j i hj ht
theorem DInv.advance (hok : DOk E ops canon) {L : Nat → Bool} {σ : AStore} : ∀ (suf pre : List Nat) (vals : List Ran) (recs : List Rec), DInv E ops canon K a0 L pre suf vals recs σ →
    ∃ pre' suf' vals' recs' add,DInv E ops canon K a0 L pre' suf' vals' recs' σ/\Settled E ops suf'/\vals'=vals++add/\∀ r∈add,L r.i=false
  | [],pre,vals,recs,h=>⟨pre,[],vals,recs,[],h,.inl rfl,by simp,by simp⟩
  | i :: suf, pre, vals, recs, h => by
      by_cases he:effAt E ops i=true
      · exact ⟨pre,i::suf,vals,recs,[],h,.inr ⟨i,suf,rfl,he⟩,by simp,by simp⟩
      · have hnd:=hok.nodup h.split
        have hLi:L i=false:=by
          cases hl:L i with
          | false=>rfl
          | true=>exact absurd (h.inpre i hl) hnd.1
        have hf:=h.form
        have heb:effAt E ops i=false:=by simpa using he
        simp only [aDr] at hf
        cases ho:ops[i]? with
        | none=>rw [ho] at hf; exact hf.elim
        | some o=>
          rw [ho] at hf
          have hie:isEff E o.op=false:=by simpa [effAt,ho] using heb
          simp only [hie] at hf
          have key : ∀ (x : Option AVal) (recs' : List Rec), (∀ r ∈ recs, r ∈ recs') →
              aDr E ops (ancs ops canon []) K (clearAll ops.toList a0) suf recs' ((part everyOne vals a0).put o.dst x) σ->
              ((∃ j want b,o.guard=some (j,want)/\aYield ops (part everyOne vals a0) j=some b/\b≠some want/\x=some undefA)\/
               ((o.guard=none\/∃ j b,o.guard=some (j,b)/\aYield ops (part everyOne vals a0) j=some (some b))/\
                ∃ v,x=some v/\(⟨i,o.op,part everyOne vals a0,v⟩:Rec)∈recs'/\aRead E o.op ((part everyOne vals a0).ev E.G) σ=some v))->
              ∃ pre' suf' vals' recs' add,DInv E ops canon K a0 L pre' suf' vals' recs' σ/\Settled E ops suf'/\vals'=vals++add/\∀ r∈add,L r.i=false:=by
            intro x recs' hsub hform hcase
            have hinv:DInv E ops canon K a0 L (pre++[i]) suf (vals++[⟨i,o.dst,x⟩]) recs' σ:=by
              refine ⟨by simp [h.split],by simp [h.idx],fun k hk=>by simp [h.inpre k hk],?_,h.closed,?_,?_⟩
              · intro k hk hke
                simp at hk
                rcases hk with hk|rfl
                · exact h.eff k hk hke
                · rw [heb] at hke; cases hke
              · rw [part_append]
                exact hform
              · intro v1 r v2 hv
                by_cases hv2:v2=[]
                · subst hv2
                  have:=List.append_inj' hv (by simp)
                  obtain ⟨rfl,hr⟩:=this
                  simp at hr
                  subst hr
                  exact ⟨o,ho,rfl,fun _=>⟨hie,hcase⟩⟩
                · obtain ⟨v2',z,rfl⟩:∃ v2' z,v2=v2'++[z]:=⟨v2.dropLast,v2.getLast hv2,(List.dropLast_concat_getLast hv2).symm⟩
                  have hv':vals++[⟨i,o.dst,x⟩]=(v1++r::v2')++[z]:=by simpa using hv
                  have:=List.append_inj' hv' (by simp)
                  obtain ⟨o',q1,q2,q3⟩:=h.ents v1 r v2' this.1
                  refine ⟨o',q1,q2,fun hl=>?_⟩
                  obtain ⟨q4,q5⟩:=q3 hl
                  refine ⟨q4,?_⟩
                  rcases q5 with q5|⟨q5,v,q6,q7,q8⟩
                  · exact .inl q5
                  · exact .inr ⟨q5,v,q6,hsub _ q7,q8⟩
            obtain ⟨pre',suf',vals',recs'',add,g1,g2,g3,g4⟩:=DInv.advance hok suf _ _ _ hinv
            refine ⟨pre',suf',vals',recs'',⟨i,o.dst,x⟩::add,g1,g2,by rw [g3]; simp,?_⟩
            intro r hr
            simp at hr
            rcases hr with rfl|hr
            · exact hLi
            · exact g4 r hr
          have read : (match aRead E o.op ((part everyOne vals a0).ev E.G) σ with
              | some v=>aDr E ops (ancs ops canon []) K (clearAll ops.toList a0) suf (⟨i,o.op,part everyOne vals a0,v⟩::recs) ((part everyOne vals a0).put o.dst (some v)) σ
              | none=>False)->(o.guard=none\/∃ j b,o.guard=some (j,b)/\aYield ops (part everyOne vals a0) j=some (some b))->
              ∃ pre' suf' vals' recs' add,DInv E ops canon K a0 L pre' suf' vals' recs' σ/\Settled E ops suf'/\vals'=vals++add/\∀ r∈add,L r.i=false:=by
            intro hr hg
            split at hr
            · rename_i v hv
              exact key (some v) _ (fun r hr=>by simp [hr]) hr (.inr ⟨hg,v,rfl,by simp,hv⟩)
            · exact hr.elim
          split at hf
          · rename_i hg
            exact read hf (.inl hg)
          · rename_i j want hg
            split at hf
            · exact hf.elim
            · rename_i b hy
              by_cases hb:b=some want
              · exact read (hf.1 hb) (.inr ⟨j,want,hg,by rw [hy,hb]⟩)
              · exact key (some undefA) recs (fun r hr=>hr) (hf.2 hb) (.inl ⟨j,want,b,hg,hy,hb,rfl⟩)
theorem reads_same (hok:DOk E ops canon) (hfit:∀ (i:Nat) (o:Oper),ops[i]?=some o->a0.fits o.dst=true) {L:Nat->Bool} {vals:List Ran} (hents:∀ r∈vals,∃ o,ops[r.i]?=some o/\r.dst=o.dst) {i:Nat} {o:Oper} (ho:ops[i]?=some o) (hLi:L i=false)
  (hL:Closed ops L) (hb:∀ on∈boundAt ops i,L on=true) {rs1 rest:List Ran} (hv:vals=rs1++rest) {suf':List Nat}
  (hc:canon=rs1.map (·.i)++i::suf') (hrest:rest=[]\/∃ r v2 q,rest=r::v2/\r.i=i/\suf'=v2.map (·.i)++q):
  ∀ t∈readsOf ops o,(part L vals a0).tmps.get t=(part everyOne rs1 a0).tmps.get t:=by
 intro t ht
 have hf1:∀ r∈vals,a0.fits r.dst=true:=by
  intro r hr
  obtain ⟨o',h1,h2⟩:=hents r hr
  rw [h2]; exact hfit _ _ h1
 rw [part_get _ _ _ _ hf1,part_get _ _ _ _ (fun r hr=>hf1 r (by rw [hv]; simp [hr]))]
 congr 1
 have hL':=hL.withOne hb
 have h1:∀ r∈rs1,r.dst=some t->L r.i=true:=by
  intro r hr hd
  obtain ⟨o',q1,q2⟩:=hents r (by rw [hv]; simp [hr])
  have hcl:clashAt ops r.i i=true:=by
   simp only [clashAt,q1,ho,clash]
   rw [<-q2,hd]
   simp [ht]
  obtain ⟨p1,p2,hp⟩:=List.append_of_mem hr
  have hci:canon=p1.map (·.i)++r.i::p2.map (·.i)++i::suf':=by rw [hc,hp]; simp
  have hb':=hok.pairs _ _ _ _ _ hci (.inr hcl)
  have:=hok.anc hL' (withOne_self L i) hb'
  have hne:r.i≠i:=by
   intro he
   have:=(hok.nodup (p:=rs1.map (·.i)) (i:=i) (q:=suf') hc).1
   exact this (List.mem_map.2 ⟨r,hr,he⟩)
  rwa [withOne_ne hne] at this
 have h2:∀ r∈rest,r.dst=some t->L r.i=false:=by
  intro r hr hd
  rcases hrest with rfl|⟨r0,v2,q,rfl,hr0,rfl⟩
  ·simp at hr
  ·simp at hr
   rcases hr with rfl|hr
   ·rw [hr0]; exact hLi
   ·obtain ⟨o',q1,q2⟩:=hents r (by rw [hv]; simp [hr])
    have hcl:clashAt ops i r.i=true:=by
     simp only [clashAt,q1,ho,clash]
     rw [<-q2,hd]
     simp [ht]
    obtain ⟨p1,p2,hp⟩:=List.append_of_mem hr
    have hci:canon=rs1.map (·.i)++i::p1.map (·.i)++r.i::(p2.map (·.i)++q):=by rw [hc,hp]; simp
    have hb':=hok.pairs _ _ _ _ _ hci (.inr hcl)
    cases hl:L r.i with
    | false=>rfl
    | true=>have:=hok.anc hL hl hb'; rw [hLi] at this; cases this
 rw [hv,lastW_append,lastW_none h2,lastW_all h1]
 simp
theorem part_withOne (hok:DOk E ops canon) (hfit:∀ (i:Nat) (o:Oper),ops[i]?=some o->a0.fits o.dst=true) {L:Nat->Bool} {vals:List Ran} (hents:∀ r∈vals,∃ o,ops[r.i]?=some o/\r.dst=o.dst) {i:Nat} (hLi:L i=false)
  (hL:Closed ops L) {v1 v2:List Ran} {r:Ran} (hri:r.i=i) (hv:vals=v1++r::v2) {q:List Nat} (hc:canon=vals.map (·.i)++q):
  (part (withOne L i) vals a0).Le ((part L vals a0).put r.dst r.x):=by
 have hf1:∀ r∈vals,a0.fits r.dst=true:=by
  intro r hr
  obtain ⟨o',h1,h2⟩:=hents r hr
  rw [h2]; exact hfit _ _ h1
 obtain ⟨n1,n2⟩:=part_n (withOne L i) vals a0
 obtain ⟨n3,n4⟩:=part_n L vals a0
 obtain ⟨n5,n6⟩:=(part L vals a0).put_n r.dst r.x
 refine ⟨by rw [n1,n5,n3],by rw [n2,n6,n4],?_⟩
 intro t v ht
 rw [AAct.put_get (by rw [AAct.fits_n n3]; exact hf1 r (by rw [hv]; simp))]
 rw [part_get _ _ _ _ hf1] at ht
 have hcr:canon=v1.map (·.i)++i::(v2.map (·.i)++q):=by rw [hc,hv]; simp [hri]
 have hnd:=hok.nodup hcr
 by_cases hd:r.dst=some t
 ·rw [if_pos hd]
  have h2:∀ r'∈v2,r'.dst=some t->withOne L i r'.i=false:=by
   intro r' hr' hd'
   obtain ⟨o',q1,q2⟩:=hents r' (by rw [hv]; simp [hr'])
   obtain ⟨o,q3,q4⟩:=hents r (by rw [hv]; simp)
   rw [hri] at q3
   have hcl:clashAt ops i r'.i=true:=by
    simp only [clashAt,q1,q3,clash]
    rw [<-q2,<-q4,hd,hd']
    simp
   obtain ⟨p1,p2,hp⟩:=List.append_of_mem hr'
   have hci:canon=v1.map (·.i)++i::p1.map (·.i)++r'.i::(p2.map (·.i)++q):=by rw [hcr,hp]; simp
   have hb':=hok.pairs _ _ _ _ _ hci (.inr hcl)
   have hne:r'.i≠i:=by
    intro he
    exact hnd.2 (by simp; exact .inl ⟨r',hr',he⟩)
   rw [withOne_ne hne]
   cases hl:L r'.i with
   | false=>rfl
   | true=>have:=hok.anc hL hl hb'; rw [hLi] at this; cases this
  rw [hv,lastW_append,lastW,lastW_none h2] at ht
  simp only [] at ht
  rw [if_pos ⟨by rw [hri]; exact withOne_self L i,hd⟩] at ht
  simpa using ht
 ·rw [if_neg hd,part_get _ _ _ _ hf1]
  rw [<-ht]
  congr 1
  refine lastW_congr ?_
  intro r' hr' hd'
  rw [hv] at hr'
  simp at hr'
  rcases hr' with hr'|rfl|hr'
  ·have:r'.i≠i:=fun he=>hnd.1 (List.mem_map.2 ⟨r',hr',he⟩)
   rw [withOne_ne this]
  ·exact absurd hd' hd
  ·have:r'.i≠i:=fun he=>hnd.2 (by simp; exact .inl ⟨r',hr',he⟩)
   rw [withOne_ne this]
end
end Abs
end
noncomputable section
namespace Abs
open Go
section
variable {E:Env} {ops:Array Oper} {canon:List Nat} {K:APred} {a0:AAct}
theorem clearAll_le : ∀ (os : List Oper) (a : AAct), (∀ o ∈ os, a.fits o.dst = true) → (clearAll os a).n = a.n ∧ (clearAll os a).defers = a.defers ∧
    ∀ t v,(clearAll os a).tmps.get t=some v->a.tmps.get t=some v/\∀ o∈os,o.dst≠some t
  | [],a,_=>⟨rfl,rfl,fun t v h=>⟨h,by simp⟩⟩
  | o :: os, a, hf => by
      obtain ⟨n1,n2⟩:=a.put_n o.dst none
      obtain ⟨h1,h2,h3⟩:=clearAll_le os (a.put o.dst none) (fun o' ho'=>by rw [AAct.fits_n n1]; exact hf o' (by simp [ho']))
      refine ⟨h1.trans n1,h2.trans n2,fun t v ht=>?_⟩
      obtain ⟨g1,g2⟩:=h3 t v ht
      rw [AAct.put_get (hf o (by simp))] at g1
      split at g1
      · cases g1
      · rename_i hne
        exact ⟨g1,fun o' ho'=>by
          simp at ho'
          rcases ho' with rfl|ho'
          · exact hne
          · exact g2 o' ho'⟩
theorem ready_spec {listed:Array Bool} {L:Nat->Bool} (hl:∀ i,i < ops.size->listed.getD i true=L i) (hs:listed.size=ops.size) {i:Nat}:
  i∈Region.ready .any ops listed ↔ i < ops.size/\L i=false/\∀ on∈boundAt ops i,on < ops.size/\L on=true:=by
 unfold Region.ready
 rw [List.mem_filter,List.mem_range]
 constructor
 ·rintro ⟨h1,h2⟩
  simp only [Bool.and_eq_true,Bool.not_eq_true'] at h2
  obtain ⟨h2,h3⟩:=h2
  refine ⟨h1,by rw [<-hl i h1]; exact h2,?_⟩
  intro on hon
  have ho:ops[i]?=some ops[i]:=Array.getElem?_eq_getElem h1
  rw [ho] at h3
  simp only [Option.map_some,Option.getD_some] at h3
  simp only [boundAt,ho,bound,List.mem_map,List.mem_filter] at hon
  obtain ⟨e,⟨he1,he2⟩,rfl⟩:=hon
  rw [Array.all_eq_true_iff_forall_mem] at h3
  have:=h3 e (by simpa using he1)
  rw [he2] at this
  simp only [Bool.not_true,Bool.false_or] at this
  have hlt:e.on < ops.size:=by
   rcases Nat.lt_or_ge e.on ops.size with h|h
   ·exact h
   ·rw [Array.getD_eq_getD_getElem?,Array.getElem?_eq_none (by omega)] at this; simp at this
  refine ⟨hlt,?_⟩
  rw [<-hl _ hlt,<-this,Array.getD_eq_getD_getElem?,Array.getD_eq_getD_getElem?,Array.getElem?_eq_getElem (by omega)]
  rfl
 ·rintro ⟨h1,h2,h3⟩
  refine ⟨h1,?_⟩
  have ho:ops[i]?=some ops[i]:=Array.getElem?_eq_getElem h1
  simp only [hl i h1,h2,Bool.not_false,Bool.true_and,ho,Option.map_some,Option.getD_some]
  rw [Array.all_eq_true_iff_forall_mem]
  intro e he
  by_cases hb:Region.binds .any e=true
  ·have hon:e.on∈boundAt ops i:=by
    simp only [boundAt,ho,bound,List.mem_map,List.mem_filter]
    exact ⟨e,⟨by simpa using he,hb⟩,rfl⟩
   obtain ⟨g1,g2⟩:=h3 _ hon
   have:=hl _ g1
   rw [g2,Array.getD_eq_getD_getElem?,Array.getElem?_eq_getElem (by omega)] at this
   simp only [hb,Bool.not_true,Bool.false_or]
   rw [Array.getD_eq_getD_getElem?,Array.getElem?_eq_getElem (by omega)]
   exact this
  ·simp [hb]
theorem first_open {L:Nat->Bool}:∀ (l:List Nat),(∃ i∈l,L i=false)->∃ p i q,l=p++i::q/\L i=false/\∀ x∈p,L x=true
  | [],h=>by simp at h
  | x :: l, h => by
      cases hx:L x with
      | false=>exact ⟨[],x,l,rfl,hx,by simp⟩
      | true=>
        obtain ⟨i,hi,hLi⟩:=h
        simp at hi
        rcases hi with rfl|hi
        · rw [hx] at hLi; cases hLi
        · obtain ⟨p,j,q,h1,h2,h3⟩:=first_open l ⟨i,hi,hLi⟩
          refine ⟨x::p,j,q,by rw [h1]; rfl,h2,?_⟩
          intro y hy
          simp at hy
          rcases hy with rfl|hy
          · exact hx
          · exact h3 y hy
theorem filter_withOne {L:Nat->Bool} {i:Nat} (hi:L i=false):∀ (l:List Nat),i∈l->(l.filter fun k=>!(withOne L i k)).length < (l.filter fun k=>!(L k)).length:=by
 have le:∀ l:List Nat,(l.filter fun k=>!(withOne L i k)).length<=(l.filter fun k=>!(L k)).length:=by
  intro l
  induction l with
  | nil=>simp
  | cons x l ih=>
   simp only [List.filter_cons]
   by_cases hx:x=i
   ·subst hx
    simp [withOne_self,hi]; omega
   ·rw [withOne_ne hx]
    cases L x<;>simp<;>omega
 intro l
 induction l with
 | nil=>intro h; simp at h
 | cons x l ih=>
  intro h
  simp only [List.filter_cons]
  by_cases hx:x=i
  ·subst hx
   have:=le l
   simp [withOne_self,hi]; omega
  ·simp at h
   have:=ih (h.resolve_left (fun e=>hx e.symm))
   rw [withOne_ne hx]
   cases L x<;>simp<;>omega
theorem clearAll_part (hfit:∀ (i:Nat) (o:Oper),ops[i]?=some o->a0.fits o.dst=true) {L:Nat->Bool} {vals:List Ran} (hents:∀ r∈vals,∃ o,ops[r.i]?=some o/\r.dst=o.dst):
  (clearAll ops.toList a0).Le (part L vals a0):=by
 have hf0:∀ o∈ops.toList,a0.fits o.dst=true:=by
  intro o ho
  obtain ⟨k,hk,rfl⟩:=List.mem_iff_getElem.1 ho
  exact hfit k _ (by simp at hk; simp [hk])
 have hf1:∀ r∈vals,a0.fits r.dst=true:=by
  intro r hr
  obtain ⟨o',h1,h2⟩:=hents r hr
  rw [h2]; exact hfit _ _ h1
 obtain ⟨h1,h2,h3⟩:=clearAll_le ops.toList a0 hf0
 obtain ⟨n1,n2⟩:=part_n L vals a0
 refine ⟨by rw [h1,n1],by rw [h2,n2],fun t v ht=>?_⟩
 obtain ⟨g1,g2⟩:=h3 t v ht
 rw [part_get _ _ _ _ hf1,lastW_none]
 ·exact g1
 ·intro r hr hd
  obtain ⟨o',q1,q2⟩:=hents r hr
  exact absurd (q2.symm.trans hd) (g2 o' (by
   have:=Array.mem_of_getElem? q1
   simpa using this))
theorem ev_same {a b:AAct} {o:Oper} {G:Nat->AVal} (h:∀ t∈readsOf ops o,a.tmps.get t=b.tmps.get t):∀ x∈o.op.operands.toList,a.ev G x=b.ev G x:=by
 intro x hx
 cases x with
 | tmp t=>exact h t (by simp only [readsOf,List.mem_append,List.mem_filterMap]; exact .inl ⟨_,hx,rfl⟩)
 | _=>rfl
theorem yield_same {a b:AAct} {o:Oper} {j:Nat} {want:Bool} (hg:o.guard=some (j,want)) (h:∀ t∈readsOf ops o,a.tmps.get t=b.tmps.get t):aYield ops a j=aYield ops b j:=by
 unfold aYield
 cases hd:(ops[j]?).bind (·.dst) with
 | none=>rfl
 | some t=>
  simp only []
  rw [h t (by simp only [readsOf,guardTmp,hg,hd,List.mem_append]; exact .inr (by simp))]
theorem DInv.ents' {L:Nat->Bool} {pre suf:List Nat} {vals:List Ran} {recs:List Rec} {σ:AStore} (h:DInv E ops canon K a0 L pre suf vals recs σ):∀ r∈vals,∃ o,ops[r.i]?=some o/\r.dst=o.dst:=by
 intro r hr
 obtain ⟨v1,v2,hv⟩:=List.append_of_mem hr
 obtain ⟨o,h1,h2,_⟩:=h.ents v1 r v2 hv
 exact ⟨o,h1,h2⟩
theorem draw_fin (hok:DOk E ops canon) {n0:Nat} {ι0:Inj} {H0:Imm} {L:Nat->Bool} {pre suf:List Nat} {vals:List Ran} {recs:List Rec} {σ:AStore} {ι:Inj} {H:Imm} {w:World} {ac:Act}
  (hinv:DInv E ops canon K a0 L pre suf vals recs σ) (hset:Settled E ops suf) (hR:Rel E ι H σ w) (ha:ActRel σ.next ι H (part L vals a0) ac) (he:Ext n0 ι0 H0 σ.next ι H)
  (hall:∀ i∈canon,L i=true):APost E n0 ι0 H0 K .normal ac w:=by
 have hs:suf=[]:=by
  rcases hset with h|⟨e,s,h,_⟩
  ·exact h
  ·subst h
   have:=hinv.inpre e (hall e (by rw [hinv.split]; simp))
   exact absurd this (hok.nodup hinv.split).1
 subst hs
 have hp:part L vals a0=part everyOne vals a0:=part_eq vals a0 (fun r hr=>hall _ (by
  rw [hinv.split,<-hinv.idx]; simp; exact ⟨r,hr,rfl⟩))
 rw [hp] at ha
 exact ⟨ι,H,σ,_,.normal,hinv.form,.normal,ha,hR,he⟩
theorem draw_all (hok:DOk E ops canon) {L:Nat->Bool} {listed:Array Bool} (hsz:listed.size=ops.size) (hl:∀ i,i < ops.size->listed.getD i true=L i)
  (hr:Region.ready .any ops listed=[]):∀ i∈canon,L i=true:=by
 intro i hi
 cases hL:L i with
 | true=>rfl
 | false=>
  obtain ⟨p,j,q,h1,h2,h3⟩:=first_open canon ⟨i,hi,hL⟩
  obtain ⟨g1,g2,g3⟩:=hok.top p j q h1
  have:j∈Region.ready .any ops listed:=(ready_spec hl hsz).2 ⟨g3,h2,fun on hon=>by
   have hp:=g1 on hon
   obtain ⟨p1,p2,rfl⟩:=List.append_of_mem hp
   exact ⟨(hok.top p1 on (p2++j::q) (by rw [h1]; simp)).2.2,h3 on hp⟩⟩
  rw [hr] at this
  simp at this
theorem draw_main (ιr : Inj) (hok : DOk E ops canon) (hfit : ∀ (i : Nat) (o : Oper), ops[i]? = some o → a0.fits o.dst = true) {n0 : Nat} {ι0 : Inj} {H0 : Imm} : ∀ (fuel : Nat) (L : Nat → Bool) (listed : Array Bool) (pre suf : List Nat) (vals : List Ran) (recs : List Rec)
    (σ:AStore) (ι:Inj) (H:Imm) (w:World) (ac:Act),listed.size=ops.size->(∀ i,i < ops.size->listed.getD i true=L i)->(canon.filter fun i=>!(L i)).length<=fuel->
    DInv E ops canon K a0 L pre suf vals recs σ->Settled E ops suf->Rel E ι H σ w->ActRel σ.next ι H (part L vals a0) ac->Ext n0 ι0 H0 σ.next ι H->
    wpAnyIn (FR ιr E.rd) 0 E.P .any ops (APost E n0 ι0 H0 K) fuel listed ac w:=by
  intro fuel
  induction fuel with
  | zero=>
    intro L listed pre suf vals recs σ ι H w ac hsz hl hcnt hinv hset hR ha he
    have hall:∀ i∈canon,L i=true:=by
      intro i hi
      cases hL:L i with
      | true=>rfl
      | false=>
        have:i∈canon.filter (fun i=>!(L i)):=List.mem_filter.2 ⟨hi,by simp [hL]⟩
        have h0:canon.filter (fun i=>!(L i))=[]:=List.length_eq_zero_iff.1 (by omega)
        rw [h0] at this; simp at this
    refine ⟨?_,draw_fin hok hinv hset hR ha he hall⟩
    cases hr:Region.ready .any ops listed with
    | nil=>rfl
    | cons i l=>
      have:i∈Region.ready .any ops listed:=by rw [hr]; simp
      obtain ⟨h1,h2,_⟩:=(ready_spec hl hsz).1 this
      rw [hall i (hok.all i h1)] at h2; cases h2
  | succ fuel ih=>
    intro L listed pre suf vals recs σ ι H w ac hsz hl hcnt hinv hset hR ha he
    refine ⟨fun hr=>draw_fin hok hinv hset hR ha he (draw_all hok hsz hl hr),?_⟩
    intro i hi
    obtain ⟨h1,h2,h3⟩:=(ready_spec hl hsz).1 hi
    have hb:∀ on∈boundAt ops i,L on=true:=fun on hon=>(h3 on hon).2
    have hic:=hok.all i h1
    have hL':=hinv.closed.withOne hb
    have hents:=hinv.ents'
    have hsz':(listed.setIfInBounds i true).size=ops.size:=by simpa using hsz
    have hl':∀ k,k < ops.size->(listed.setIfInBounds i true).getD k true=withOne L i k:=by
      intro k hk
      by_cases hki:k=i
      · subst hki
        rw [withOne_self,Array.getD_eq_getD_getElem?]
        simp [hsz,hk]
      · rw [withOne_ne hki,<-hl k hk,Array.getD_eq_getD_getElem?,Array.getD_eq_getD_getElem?]
        simp [Ne.symm hki]
    have hcnt':(canon.filter fun k=>!(withOne L i k)).length<=fuel:=by
      have:=filter_withOne h2 canon hic
      omega
    have next : ∀ (pre suf : List Nat) (vals : List Ran) (recs : List Rec) (σ : AStore) (ι : Inj) (H : Imm) (w : World) (ac : Act), DInv E ops canon K a0 (withOne L i) pre suf vals recs σ →
        Rel E ι H σ w->ActRel σ.next ι H (part (withOne L i) vals a0) ac->Ext n0 ι0 H0 σ.next ι H->wpAnyIn (FR ιr E.rd) 0 E.P .any ops (APost E n0 ι0 H0 K) fuel (listed.setIfInBounds i true) ac w:=by
      intro pre suf vals recs σ ι H w ac hinv hR ha he
      obtain ⟨pre',suf',vals',recs',add,g1,g2,g3,g4⟩:=DInv.advance hok _ _ _ _ hinv
      have ha':ActRel σ.next ι H (part (withOne L i) vals' a0) ac:=by
        rw [g3,part_append,part_skip add _ g4]; exact ha
      exact ih _ _ _ _ _ _ _ _ _ _ _ hsz' hl' hcnt' g1 g2 hR ha' he
    have ho:ops[i]?=some ops[i]:=Array.getElem?_eq_getElem h1
    generalize hoo:ops[i]=o at ho
    unfold wpOpIn
    simp only [ho]
    rw [hinv.split,List.mem_append] at hic
    by_cases hip:i∈pre
    · -- a read that is made late
      have hip':=hip
      rw [<-hinv.idx,List.mem_map] at hip'
      obtain ⟨r,hr,hri⟩:=hip'
      obtain ⟨v1,v2,hv⟩:=List.append_of_mem hr
      obtain ⟨o',q1,q2,q3⟩:=hinv.ents v1 r v2 hv
      rw [hri,ho] at q1
      cases q1
      obtain ⟨q4,q5⟩:=q3 (by rw [hri]; exact h2)
      have hcv:canon=v1.map (·.i)++i::(v2.map (·.i)++suf):=by rw [hinv.split,<-hinv.idx,hv]; simp [hri]
      have same:=reads_same hok hfit hents ho h2 hinv.closed hb hv hcv (.inr ⟨r,v2,suf,rfl,hri,rfl⟩)
      have hle:=part_withOne hok hfit hents h2 hinv.closed hri hv (q:=suf) (by rw [hinv.idx]; exact hinv.split)
      have hfo:(part L vals a0).fits o.dst=true:=by rw [AAct.fits_n (part_n L vals a0).1]; exact hfit i o ho
      have hinv':DInv E ops canon K a0 (withOne L i) pre suf vals recs σ:=by
        refine ⟨hinv.split,hinv.idx,?_,fun k hk hke=>withOne_mono (hinv.eff k hk hke),hL',hinv.form,?_⟩
        · intro k hk
          by_cases hki:k=i
          · rw [hki]; exact hip
          · rw [withOne_ne hki] at hk; exact hinv.inpre k hk
        · intro u1 r' u2 hu
          obtain ⟨o',p1,p2,p3⟩:=hinv.ents u1 r' u2 hu
          refine ⟨o',p1,p2,fun hl=>p3 ?_⟩
          cases hll:L r'.i with
          | false=>rfl
          | true=>rw [withOne_mono hll] at hl; cases hl
      rcases q5 with ⟨j,want,b,hg,hy,hbw,hx⟩|⟨hw,v,hx,hrec,hread⟩
      · -- it is left out
        rw [<-yield_same hg same] at hy
        have hy':=aYield_sound ha hy
        have hnw:¬ Region.wanted o (yielded ops ac.tmps)=true:=by simp [Region.wanted,hg,hy',hbw]
        rw [if_neg hnw]
        refine ⟨fun _ _=>trivial,?_⟩
        have ha':=(ha.put hfo undefA_rel).le (a:=part (withOne L i) vals a0) (by rw [q2,hx] at hle; exact hle)
        exact next pre suf vals recs σ ι H w _ hinv' hR ha' he
      · have hwant:Region.wanted o (yielded ops ac.tmps)=true:=by
          rcases hw with hg|⟨j,b,hg,hy⟩
          · simp [Region.wanted,hg]
          · rw [<-yield_same hg same] at hy
            have hy':=aYield_sound ha hy
            simp [Region.wanted,hg,hy']
        rw [if_pos hwant]
        have hop:=aRead_some q4 hread
        rw [<-aOp_congr E true o.op σ (ev_same (ops:=ops) (G:=E.G) same)] at hop
        have hs:=aOp_sound hR (ha.rho hR) true o
        rw [hop] at hs
        obtain ⟨v',w',ι',H',hrun,hvr,hR',he'⟩:=hs
        refine ⟨fun _ _=>trivial,?_⟩
        rw [semAt_run (E:=E) (σ:=σ) (lit:=true) (ρ:=(part L vals a0).ev E.G) (.inl ⟨by rw [hop]; simp,by rw [hop]; simp⟩),hrun]
        have ha':=((ha.ext he').put hfo hvr).le (a:=part (withOne L i) vals a0) (by rw [q2,hx] at hle; exact hle)
        exact next pre suf vals recs σ ι' H' w' _ hinv' hR' ha' (he.trans he')
    · -- what may turn the store
      have his:=hic.resolve_left hip
      obtain ⟨e,s,hse,hee⟩:∃ e s,suf=e::s/\effAt E ops e=true:=by
        rcases hset with h|h
        · rw [h] at his; simp at his
        · exact h
      subst hse
      have hie:i=e:=by
        simp at his
        rcases his with h|h
        · exact h
        · obtain ⟨s1,s2,rfl⟩:=List.append_of_mem h
          have hbit:=hok.pairs pre e s1 i s2 (by rw [hinv.split]; simp) (.inl hee)
          have:=hok.anc hL' (withOne_self L i) hbit
          have hne:e≠i:=by
            intro hh
            exact (hok.nodup hinv.split).2 (by rw [hh]; simp)
          rw [withOne_ne hne] at this
          exact absurd (hinv.inpre e this) (hok.nodup hinv.split).1
      subst hie
      have heff:isEff E o.op=true:=by simpa [effAt,ho] using hee
      have same:=reads_same hok hfit hents ho h2 hinv.closed hb (rs1:=vals) (rest:=[]) (by simp) (suf':=s) (by rw [hinv.idx]; exact hinv.split) (.inl rfl)
      have hfo:(part L vals a0).fits o.dst=true:=by rw [AAct.fits_n (part_n L vals a0).1]; exact hfit i o ho
      have hform:=hinv.form
      simp only [aDr,ho,heff] at hform
      have hvi:vals.map (·.i)=pre:=hinv.idx
      have step : ∀ (x : Option AVal) (σ' : AStore) (ι' : Inj) (H' : Imm) (w' : World) (ac' : Act), (σ' = σ ∨ ∀ r ∈ recs, (look (ancs ops canon []) i).testBit r.i = true ∨ r.holds E σ') →
          aDr E ops (ancs ops canon []) K (clearAll ops.toList a0) s recs ((part everyOne vals a0).put o.dst x) σ'->Rel E ι' H' σ' w'->
          ActRel σ'.next ι' H' ((part L vals a0).put o.dst x) ac'->Ext n0 ι0 H0 σ'.next ι' H'->wpAnyIn (FR ιr E.rd) 0 E.P .any ops (APost E n0 ι0 H0 K) fuel (listed.setIfInBounds i true) ac' w':=by
        intro x σ' ι' H' w' ac' hrecs hf hR' ha' he'
        have hpart:part (withOne L i) (vals++[⟨i,o.dst,x⟩]) a0=(part L vals a0).put o.dst x:=by
          rw [part_append]
          simp only [part,withOne_self,if_true]
          congr 1
          have:∀ (rs:List Ran) (a:AAct),(∀ r∈rs,r.i≠i)->part (withOne L i) rs a=part L rs a:=by
            intro rs
            induction rs with
            | nil=>intro a _; rfl
            | cons r rs ih2=>
              intro a h
              simp only [part]
              rw [withOne_ne (h r (by simp))]
              exact ih2 _ (fun r' hr'=>h r' (by simp [hr']))
          refine this vals a0 ?_
          intro r hr hri
          exact hip (by rw [<-hvi]; exact List.mem_map.2 ⟨r,hr,hri⟩)
        refine next (pre++[i]) s (vals++[⟨i,o.dst,x⟩]) recs σ' ι' H' w' ac' ?_ hR' (by rw [hpart]; exact ha') he'
        refine ⟨by simp [hinv.split],by simp [hvi],?_,?_,hL',by rw [part_append]; exact hf,?_⟩
        · intro k hk
          by_cases hki:k=i
          · simp [hki]
          · rw [withOne_ne hki] at hk; simp [hinv.inpre k hk]
        · intro k hk hke
          simp at hk
          rcases hk with hk|rfl
          · exact withOne_mono (hinv.eff k hk hke)
          · exact withOne_self L k
        · intro u1 r u2 hu
          by_cases hu2:u2=[]
          · subst hu2
            have:=List.append_inj' hu (by simp)
            obtain ⟨rfl,hr⟩:=this
            simp at hr
            subst hr
            exact ⟨o,ho,rfl,fun hh=>by rw [withOne_self] at hh; cases hh⟩
          · obtain ⟨u2',z,rfl⟩:∃ u2' z,u2=u2'++[z]:=⟨u2.dropLast,u2.getLast hu2,(List.dropLast_concat_getLast hu2).symm⟩
            have hu':vals++[⟨i,o.dst,x⟩]=(u1++r::u2')++[z]:=by simpa using hu
            have:=List.append_inj' hu' (by simp)
            obtain ⟨o',p1,p2,p3⟩:=hinv.ents u1 r u2' this.1
            refine ⟨o',p1,p2,fun hh=>?_⟩
            have hLr:L r.i=false:=by
              cases hll:L r.i with
              | false=>rfl
              | true=>rw [withOne_mono hll] at hh; cases hh
            obtain ⟨p4,p5⟩:=p3 hLr
            refine ⟨p4,?_⟩
            rcases p5 with p5|⟨p5,v,p6,p7,p8⟩
            · exact .inl p5
            · refine .inr ⟨p5,v,p6,p7,?_⟩
              rcases hrecs with rfl|hrecs
              · exact p8
              rcases hrecs _ p7 with hb'|hh'
              · have:=hok.anc hL' (withOne_self L i) hb'
                rw [this] at hh; cases hh
              · exact hh'
      have clear:=clearAll_part hfit hents (L:=L)
      have go : aGoD E K (clearAll ops.toList a0) (fun x σ' => recsOk E (look (ancs ops canon []) i) σ' recs ∧ aDr E ops (ancs ops canon []) K (clearAll ops.toList a0) s recs ((part everyOne vals a0).put o.dst x) σ') σ
          (aOp E true o.op ((part everyOne vals a0).ev E.G) σ)->Region.wanted o (yielded ops ac.tmps)=true->
          (if Region.wanted o (yielded ops ac.tmps)=true then o.wpIn (FR ιr E.rd) 0 E.P ac w (wpAnyIn (FR ιr E.rd) 0 E.P .any ops (APost E n0 ι0 H0 K) fuel (listed.setIfInBounds i true)) (APost E n0 ι0 H0 K)
            else (∀ f,o.about E.P w ac.eval=some f->(FR ιr E.rd).fn f)/\wpAnyIn (FR ιr E.rd) 0 E.P .any ops (APost E n0 ι0 H0 K) fuel (listed.setIfInBounds i true) (ac.put o.dst undef) w):=by
        intro hgo hwant
        rw [if_pos hwant]
        rw [<-aOp_congr E true o.op σ (ev_same (ops:=ops) (G:=E.G) same)] at hgo
        have hs:=aOp_sound hR (ha.rho hR) true o
        refine ⟨fun _ _=>trivial,?_⟩
        have hsem:o.semAt (FR ιr E.rd).round ac.eval=execOp ac.eval o:=by
          refine semAt_run (E:=E) (σ:=σ) (lit:=true) (ρ:=(part L vals a0).ev E.G) (.inl ⟨?_,?_⟩)
          · intro d hd; rw [hd] at hgo; exact hgo
          · intro hd; rw [hd] at hgo; exact hgo
        rw [hsem]
        generalize aOp E true o.op ((part L vals a0).ev E.G) σ=res at hgo hs
        cases res with
        | val v σ'=>
          obtain ⟨v',w',ι',H',hrun,hvr,hR',he'⟩:=hs
          rw [hrun]
          exact step (some v) σ' ι' H' w' _ (.inr (recsOk_mem hgo.1)) hgo.2 hR' ((ha.ext he').put hfo hvr) (he.trans he')
        | vals l=>
          obtain ⟨p,hp,v',w',ι',H',hrun,hvr,hR',he'⟩:=hs
          rw [hrun]
          have:=hgo p hp
          exact step (some p.1) p.2 ι' H' w' _ (.inr (recsOk_mem this.1)) this.2 hR' ((ha.ext he').put hfo hvr) (he.trans he')
        | skip σ'=>
          obtain ⟨w',hrun,hR',hn⟩:=hs
          rw [hrun]
          have he':Ext σ.next ι H σ'.next ι H:=⟨by omega,fun _ _=>rfl,Imm.Le.refl _⟩
          exact step (some undefA) σ' ι H w' _ (.inr (recsOk_mem hgo.1)) hgo.2 hR' ((ha.ext he').put hfo undefA_rel) (he.trans he')
        | enter t args=>
         cases t with
         | yld b=>
          obtain ⟨args',hargs,st,pend,ps,as,bd,tm,nt,d,fn,tmps,y1,y2,y3,y4,y5,y6,hrun⟩:=hs
          rw [hrun]
          refine ⟨(fun hh=>by cases hh),RoundIn.mono (ARound.sound hgo hR hargs y1 y2 y3 y4 y5 y6 ιr) ?_⟩
          rintro ex w1 ⟨ι1,H1,σ1,ae,hq,hx,hR1,he1⟩
          cases hx with
          | ret v v' hv=>exact step (some v) σ1 ι1 H1 w1 _ (.inr (recsOk_mem hq.1)) hq.2 hR1 ((ha.ext he1).put hfo hv) (he.trans he1)
          | pan v v' hv=>exact ⟨ι1,H1,σ1,_,_,hq,.pan v v' hv,(ha.ext he1).le clear,hR1,he.trans he1⟩
         | fn f=>
          obtain ⟨args',hrun,hargs⟩:=hs
          rw [hrun]
          refine ⟨(fun hh=>by cases hh),callsIn_FR (Calls.mono (hgo ι H w args' hR hargs) ?_)⟩
          rintro ex w1 ⟨ι1,H1,σ1,ae,hq,hx,hR1,he1⟩
          cases hx with
          | ret v v' hv=>exact step (some v) σ1 ι1 H1 w1 _ (.inr (recsOk_mem hq.1)) hq.2 hR1 ((ha.ext he1).put hfo hv) (he.trans he1)
          | pan v v' hv=>exact ⟨ι1,H1,σ1,_,_,hq,.pan v v' hv,(ha.ext he1).le clear,hR1,he.trans he1⟩
        | pan v=>
          obtain ⟨v',hrun,hv⟩:=hs
          rw [hrun]
          exact ⟨ι,H,σ,_,_,hgo,.pan v v' hv,ha.le clear,hR,he⟩
        | dfr d=>exact hgo.elim
        | recov=>exact hgo.elim
        | bad=>exact hgo.elim
      split at hform
      · rename_i hg
        exact go hform (by simp [Region.wanted,hg])
      · rename_i j want hg
        split at hform
        · exact hform.elim
        · rename_i b hy
          rw [<-yield_same hg same] at hy
          have hy':=aYield_sound ha hy
          by_cases hbw:b=some want
          · exact go (hform.1 hbw) (by simp [Region.wanted,hg,hy',hbw])
          · have hnw:¬ Region.wanted o (yielded ops ac.tmps)=true:=by simp [Region.wanted,hg,hy',hbw]
            rw [if_neg hnw]
            refine ⟨fun _ _=>trivial,?_⟩
            exact step (some undefA) σ ι H w _ (.inl rfl) (hform.2 hbw) hR (ha.put hfo undefA_rel) he
theorem AWp.region_draw {id:Nat} (hm:E.P.follows .mixedOrders=true) {σ:AStore} (h:aDrawn E ops canon K a0 σ):AWp E (.region id ops true) K a0 σ:=by
 obtain ⟨h1,h2,h3⟩:=h
 have hok:=DOk.of h1
 have hfit:∀ (i:Nat) (o:Oper),ops[i]?=some o->a0.fits o.dst=true:=by
  intro i o ho
  simp only [fitsAll,List.all_eq_true] at h2
  have:=Array.mem_of_getElem? ho
  exact h2 o (by simpa using this)
 intro ι H w ac hR ha _
 refine wpIn_region_any hm ?_
 have hR':Rel E ι H σ {w with drawn:=w.drawn+1}:=hR.congr rfl ⟨rfl,rfl⟩
 have hinv:DInv E ops canon K a0 (fun _=>false) [] canon [] [] σ:=
  ⟨rfl,rfl,by simp,by simp,(fun i hi=>by cases hi),h3,fun v1 r v2 hv=>by simp at hv⟩
 obtain ⟨pre',suf',vals',recs',add,g1,g2,g3,g4⟩:=DInv.advance hok _ _ _ _ hinv
 refine draw_main ι hok hfit ops.size (fun _=>false) _ pre' suf' vals' recs' σ ι H _ ac (by simp) ?_ ?_ g1 g2 hR' ?_ (Ext.refl _ _ _)
 ·intro i hi
  rw [Array.getD_eq_getD_getElem?]
  simp [hi]
 ·rw [<-hok.len]
  exact List.length_filter_le _ _
 ·rw [g3]
  simp only [List.nil_append]
  rw [part_skip add _ g4]
  exact ha
end
end Abs
end
