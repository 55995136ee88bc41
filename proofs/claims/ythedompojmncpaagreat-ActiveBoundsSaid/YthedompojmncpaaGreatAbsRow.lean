/- Part of the abstract layer; it proves no statement by itself. -/
import Derived.Test.YthedompojmncpaaGreatAbsFz
import Derived.WideKeyArgs
import Derived.ChangeSame
import Derived.KernelRfl
noncomputable section
namespace Abs
set_option linter.unusedVariables false
set_option linter.unusedSimpArgs false
set_option linter.unusedSectionVars false
open Go Go.ChangeShapes
theorem okWide_notagg {P:Program} {w:World} {r:Reach} {base:Nat} {t:TypeId} {v:Value} (h:Value.okWide P w r base t v) (ht:isAggT P t=false):∀ cs,v≠.agg cs:=by
 rintro cs rfl
 unfold Value.okWide at h
 unfold isAggT at ht
 cases hu:P.underlying t with
 | none=>rw [hu] at h; simp [Cell.okWide,Cell.ok,hu] at h
 | some d=>
  rw [hu] at h ht
  cases d<;>simp only [] at h ht<;>first
   | (cases ht; done)
   | (simp [Cell.okWide,Cell.ok,hu] at h; done)
theorem okWide_agg {P:Program} {w:World} {r:Reach} {base:Nat} {t:TypeId} {v:Value} (h:Value.okWide P w r base t v) (ht:isAggT P t=true):∃ cs,v=.agg cs:=by
 unfold Value.okWide at h
 unfold isAggT at ht
 cases hu:P.underlying t with
 | none=>rw [hu] at ht; cases ht
 | some d=>
  rw [hu] at h ht
  cases d<;>simp only [] at h ht<;>first
   | (cases ht; done)
   | (obtain ⟨cs,h1,_⟩:=h; exact ⟨cs,h1⟩)
section
variable {H:Type} {enc:TypeId×Value->H} {P:Program} {w:World} {sp:Nat->Bool} {held:Bool} {ι:Inj}
end
theorem keptBut_of {w w':World} (hs:Same w w') (h:∀ (c:Nat) (o:Obj),w.heap[c]?=some o->w'.heap[c]?=some o) (may:MemPlace->Prop):w.keptBut w' may:=by
 refine ⟨hs.1,hs.2,fun i hi=>?_⟩
 obtain ⟨o,ho⟩:∃ o,w.heap[i]?=some o:=⟨w.heap[i],by simp [hi]⟩
 rw [ho,h i o ho]
 cases o<;>simp
theorem sameAt_of {w w':World} (h:∀ (c:Nat) (o:Obj),w.heap[c]?=some o->w'.heap[c]?=some o) {p:MemPlace} (hp:p.block < w.heap.size):w.sameAt w' p:=by
 have hb:w'.heap[p.block]?=w.heap[p.block]?:=by
  have:w.heap[p.block]?=some w.heap[p.block]:=by simp [hp]
  rw [this]; exact h _ _ this
 cases p with
 | cell b off=>simp only [World.sameAt,World.cell?]; simp only [MemPlace.block] at hb; rw [hb]
 | map b=>exact hb
theorem trodAll_keeps {H : Type} {enc : TypeId × Value → H} {P : Program} {W W' : World} (hl : laidOutB P = true) {sp' : Nat → Bool} : ∀ {ts : List TypeId} {vs : List Value} {ds : List (DataW H)} {ps : List MemPlace},
    (∀ t∈ts,P.readableRec t=true/\t < P.types.size)->DataW.TrodAll enc P W 0 (fun _=>true) true ts vs ds ps->(∀ p∈ps,W.sameAt W' p)->(∀ p∈ps,sp' p.block=true)->DataW.TrodAll enc P W' 0 sp' true ts vs ds ps
  | [],[],[],_,_,h,_,_=>h
  | t :: ts, v :: vs, d :: ds, _, ht, ⟨p, q, h1, h2, e⟩, hs, hsp => by
      subst e
      have ht0:=ht t (by simp)
      exact ⟨p,q,WideElems.Trod_stays hl ht0.1 ht0.2 h1 (fun x hx=>hs x (List.mem_append_left _ hx)) (fun x hx=>hsp x (List.mem_append_left _ hx)),
        trodAll_keeps hl (fun t ht'=>ht t (by simp [ht'])) h2 (fun x hx=>hs x (List.mem_append_right _ hx)) (fun x hx=>hsp x (List.mem_append_right _ hx)),rfl⟩
theorem post_keeps {H:Type} {enc:TypeId×Value->H} {P:Program} {f:Func} {s:ChangeSpec} {apart fresh handsOn:Bool} {W W':World} {args:Array Value} {v:Value} {ds:List (DataW H)} {before:List MemPlace}
  (hvars:s.vars=[]) (hW:DataW.Whole enc P f.params.toList s.vars apart W args.toList ds [] before)
  (hres:∀ (b:Nat) (sp:Nat->Bool),DataW.TrodAll enc P W' b sp handsOn f.resultTypes.toList (v.resultList f.resultTypes.size) (s.fn H (ds++[])).results [])
  (hargs:(s.fn H (ds++[])).args=ds) (hv:(s.fn H (ds++[])).vars=[])
  (hl:laidOutB P=true) (ht:(f.params.toList.all fun t=>P.readableRec t && decide (t < P.types.size))=true)
  (hs:Same W W') (hg:∀ (c:Nat) (o:Obj),W.heap[c]?=some o->W'.heap[c]?=some o):s.post enc P f apart fresh handsOn false W args v W':=by
 have hlt:=hW.lt
 have hW':=hW
 obtain ⟨p,q,hA,hV,rfl,_,_⟩:=hW
 have hq:q=[]:=by rw [hvars] at hV; exact hV
 subst hq
 refine ⟨ds,[],p++[],[],p,[],hW',hres _ _,?_,?_,keptBut_of hs hg _,fun h=>by cases h⟩
 ·rw [hargs]
  refine trodAll_keeps hl ?_ hA (fun x hx=>sameAt_of hg (hlt x (by simpa using hx))) (fun x hx=>by simpa using hlt x (by simpa using hx))
  intro t ht'
  rw [List.all_eq_true] at ht
  simpa using ht t ht'
 ·rw [hvars,hv]; rfl
end Abs
end
