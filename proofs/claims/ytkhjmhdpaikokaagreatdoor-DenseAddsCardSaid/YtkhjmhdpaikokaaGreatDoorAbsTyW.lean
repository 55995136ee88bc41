/- Part of the abstract layer; it proves no statement by itself. -/
import Derived.Test.YtkhjmhdpaikokaaGreatDoorAbsRow
import Derived.Test.YtkhjmhdpaikokaaGreatDoorAbsV8
import Derived.Test.YtkhjmhdpaikokaaGreatDoorAbsDf
set_option linter.unusedVariables false
set_option linter.unusedSimpArgs false
set_option linter.unusedSectionVars false
noncomputable section
namespace Abs
open Go
def HasTyW (P:Program):Nat->TypeId->List AVal->Prop
  | 0,_,_=>False
  | n+1,t,vs=>
    match shape P t with
    | .bool=>∃ b,vs=[.sc (.bool b)]
    | .int k=>∃ m,(Lit.int k m).wf=true/\vs=[.sc (.int k m)]
    | .str=>∃ s:ByteArray,s.size<=140737488351232/\vs=[.sc (.string s)]
    | .slice e c agg => vs = [.sc (.slice none 0 0)] ∨ (∃ a cap, vs = [.sc (.slice (some a) 0 cap)]) ∨
        ∃ els,els≠[]/\els.length<=maxLen/\els.length*P.bytesOf e<=140737488351232/\vs=[.data c false els]/\∀ x∈els,HasTyW P n e x.cells/\x.cells.length=c/\x.isAgg=agg
    | .struct ts=>HasL (HasTyW P n) P ts vs
    | .other=>True
theorem weightsAll_mem {H:Type} {P:Program} {e:TypeId}:∀ {l:List (DataW H)},(DataW.weightsAll P e l).all (·<=reachBytes)=true->∀ {d:DataW H},d∈l->(d.weights P e).all (·<=reachBytes)=true
  | [],_,_,hd=>by cases hd
  | x :: l, h, d, hd => by
      simp only [DataW.weightsAll,List.all_append,Bool.and_eq_true] at h
      rcases List.mem_cons.1 hd with rfl|hd
      · exact h.1
      · exact weightsAll_mem h.2 hd
section
variable {H:Type} {enc:TypeId×Value->H} {P:Program} {w:World} {sp:Nat->Bool} {held:Bool} {ι:Inj}
theorem hasL_ofW {m : Nat} {cs : List Value} (hrec : ∀ t cs d ps, DataW.trod enc P w 0 sp held m t cs = some (d, ps) → (d.weights P t).all (· ≤ reachBytes) = true → ∃ vs, HasTyW P m t vs ∧ LRel 0 ι (allH w) vs cs ∧ ∀ x ∈ vs, x.isAgg = false) :
    ∀ (fs:List Field) (xs:List (DataW H×List MemPlace)) (o n:Nat),fs.mapM (fun f=>DataW.trod enc P w 0 sp held m f.type ((cs.drop f.offset).take (P.cellsOf f.type)))=some xs->contig P fs o=some n->n<=cs.length->(DataW.weightsEach P (fs.map (·.type)) (xs.map (·.1))).all (·<=reachBytes)=true->
      ∃ vs,(HasL (HasTyW P m) P (fs.map (·.type)) vs/\∀ x∈vs,x.isAgg=false)/\LRel 0 ι (allH w) vs ((cs.drop o).take (n - o))
  | [], xs, o, n, hm, hc, _, _ => by
      cases hc
      exact ⟨[],⟨rfl,by simp⟩,by simpa using LRel.nil⟩
  | f :: fs, xs, o, n, hm, hc, hn, hwt => by
      rw [List.mapM_cons] at hm
      unfold contig at hc
      split at hc
      · rename_i hb
        have hb:=Nat.eq_of_beq_eq_true hb
        cases ha:DataW.trod enc P w 0 sp held m f.type ((cs.drop f.offset).take (P.cellsOf f.type)) with
        | none=>simp [ha] at hm
        | some y=>
          cases hl:fs.mapM (fun f=>DataW.trod enc P w 0 sp held m f.type ((cs.drop f.offset).take (P.cellsOf f.type))) with
          | none=>simp [ha,hl] at hm
          | some ys=>
            have hxs:xs=y::ys:=by simpa [ha,hl] using hm.symm
            subst hxs
            obtain ⟨d,p⟩:=y
            simp only [List.map_cons,DataW.weightsEach,List.all_append,Bool.and_eq_true] at hwt
            obtain ⟨a,a1,a2,a3⟩:=hrec _ _ _ _ ha hwt.1
            obtain ⟨b,⟨b1,b3⟩,b2⟩:=hasL_ofW hrec fs ys (o+P.cellsOf f.type) n hl hc hn hwt.2
            have hle:=contig_le hc
            have hlen:a.length=P.cellsOf f.type:=by
              rw [a2.length,List.length_take,List.length_drop,hb]; omega
            refine ⟨a++b,⟨⟨a,b,rfl,hlen,a1,b1⟩,?_⟩,?_⟩
            · intro x hx
              rcases List.mem_append.1 hx with hx|hx
              · exact a3 x hx
              · exact b3 x hx
            rw [hb] at a2
            have:=a2.append b2
            have e:(cs.drop o).take (n - o)=(cs.drop o).take (P.cellsOf f.type)++(cs.drop (o+P.cellsOf f.type)).take (n - (o+P.cellsOf f.type)):=by
              rw [show n - o=P.cellsOf f.type+(n - (o+P.cellsOf f.type)) by omega,List.take_add,List.drop_drop]
            rw [e]; exact this
      · cases hc
theorem trod_tyW : ∀ (fuel : Nat) (t : TypeId) (cs : List Value) (d : DataW H) (ps : List MemPlace), DataW.trod enc P w 0 sp held fuel t cs = some (d, ps) → (d.weights P t).all (· ≤ reachBytes) = true →
    ∃ vs,HasTyW P fuel t vs/\LRel 0 ι (allH w) vs cs/\∀ x∈vs,x.isAgg=false
  | 0,_,_,_,_,h,_=>by cases h
  | fuel + 1, t, cs, d, ps, h, hwt => by
      have other:shape P t=.other->∃ vs,HasTyW P (fuel+1) t vs/\LRel 0 ι (allH w) vs cs/\∀ x∈vs,x.isAgg=false:=by
        intro hs
        refine ⟨cs.map .sc,by unfold HasTyW; rw [hs]; trivial,LRel.scs cs,?_⟩
        intro x hx
        simp only [List.mem_map] at hx
        obtain ⟨v,_,rfl⟩:=hx
        rfl
      have one:∀ v:Value,cs=[v]->HasTyW P (fuel+1) t [.sc v]->∃ vs,HasTyW P (fuel+1) t vs/\LRel 0 ι (allH w) vs cs/\∀ x∈vs,x.isAgg=false:=by
        intro v hv hh
        refine ⟨[.sc v],hh,by rw [hv]; exact LRel.scs [v],?_⟩
        intro x hx; simp at hx; subst hx; rfl
      unfold DataW.trod at h
      cases hu:P.underlying t with
      | none=>exact other (by simp [shape,hu])
      | some ty=>
        rw [hu] at h
        cases ty with
        | bool=>
          have hs:shape P t=.bool:=by simp [shape,hu]
          split at h<;>rename_i heq<;>first|(cases heq; done)|(cases h; done)|skip
          cases heq
          exact one _ rfl (by unfold HasTyW; rw [hs]; exact ⟨_,rfl⟩)
        | int k=>
          have hs:shape P t=.int k:=by simp [shape,hu]
          split at h<;>rename_i heq<;>first|(cases heq; done)|(cases h; done)|skip
          cases heq
          split at h
          · rename_i hk
            obtain ⟨rfl,hw⟩:=hk
            exact one _ rfl (by unfold HasTyW; rw [hs]; exact ⟨_,hw,rfl⟩)
          · cases h
        | string=>
          have hs:shape P t=.str:=by simp [shape,hu]
          split at h<;>rename_i heq<;>first|(cases heq; done)|(cases h; done)|skip
          cases heq
          split at h
          · rename_i hk
            cases h
            simp only [DataW.weights,List.all_cons,List.all_nil,Bool.and_true,decide_eq_true_eq,Array.length_toList] at hwt
            exact one _ rfl (by unfold HasTyW; rw [hs]; exact ⟨_,hwt,rfl⟩)
          · cases h
        | slice e=>
          have key:∀ c agg,shape P t=.slice e c agg->0 < c->P.cellsOf e=c->isAggT P e=agg->(agg=false->c=1)->∃ vs,HasTyW P (fuel+1) t vs/\LRel 0 ι (allH w) vs cs/\∀ x∈vs,x.isAgg=false:=by
            intro c agg hs hc0 hcc hagg hc1
            split at h<;>rename_i heq<;>first|(cases heq; done)|(cases h; done)|skip
            · cases heq; exact one _ rfl (by unfold HasTyW; rw [hs]; exact .inl rfl)
            · rename_i a len cap
              cases heq
              simp only [] at h
              split at h
              · rename_i hcnd
                obtain ⟨_,hlc,hcm⟩:=hcnd
                rw [Option.bind_eq_some_iff] at h
                obtain ⟨elems,he,h⟩:=h
                rw [Option.map_eq_some_iff] at h
                obtain ⟨rest,_,hd⟩:=h
                simp only [Prod.mk.injEq] at hd
                obtain ⟨rfl,_⟩:=hd
                simp only [DataW.weights,hu,List.all_cons,List.all_append,Bool.and_eq_true,decide_eq_true_eq,List.length_map] at hwt
                obtain ⟨hwl,hwe,_⟩:=hwt
                by_cases hl0:len=0
                · subst hl0
                  exact one _ rfl (by unfold HasTyW; rw [hs]; exact .inr (.inl ⟨a,cap,rfl⟩))
                · obtain ⟨l1,l2⟩:=mapM_get he
                  simp only [List.length_range] at l1
                  have elem : ∀ i, i < len → ∃ ev : AVal, (HasTyW P fuel e ev.cells ∧ ev.cells.length = c ∧ ev.isAgg = agg) ∧ ∃ csi : List Value, csi.length = c ∧ LRel 0 ι (allH w) ev.cells csi ∧
                      (∀ k,k < c->(allH w).cell? a.block (a.off+i*c+k)=csi[k]?)/\(i=0->a.spot=none):=by
                    intro i hi
                    obtain ⟨y,y1,y2⟩:=l2 i i (by simp [hi])
                    rw [Option.bind_eq_some_iff] at y2
                    obtain ⟨csi,c1,c2⟩:=y2
                    obtain ⟨d',p'⟩:=y
                    obtain ⟨vs,v1,v2,v3⟩:=trod_tyW fuel e csi d' p' c2 (weightsAll_mem hwe (List.mem_map.2 ⟨(d',p'),List.mem_of_getElem? y1,rfl⟩))
                    obtain ⟨q1,q2⟩:=cells?_get c1
                    rw [hcc] at q1 q2
                    have hget:∀ k,k < c->(allH w).cell? a.block (a.off+i*c+k)=csi[k]?:=by
                      intro k hk
                      obtain ⟨v,w1,w2⟩:=q2 k hk
                      have hb:(a.add (i*c)).block=a.block:=by unfold Addr.add; split<;>rfl
                      have ho:(a.add (i*c)).off=a.off+i*c:=by unfold Addr.add; split<;>simp_all
                      have:=(cell?_add w2).1
                      rw [hb,ho] at this
                      rw [w1]; exact this
                    have hsp:i=0->a.spot=none:=by
                      intro hi0
                      subst hi0
                      obtain ⟨v,w1,w2⟩:=q2 0 hc0
                      have:=(cell?_add w2).2 rfl
                      simpa [Addr.add] using this
                    have hvl:vs.length=c:=by rw [v2.length,q1]
                    cases agg with
                    | true=>exact ⟨.agg vs,⟨v1,hvl,rfl⟩,csi,q1,v2,hget,hsp⟩
                    | false=>
                      have hc1:=hc1 rfl
                      obtain ⟨x,rfl⟩:∃ x,vs=[x]:=by
                        match vs,hvl with
                        | [x],_=>exact ⟨x,rfl⟩
                        | [],hvl=>simp at hvl; omega
                        | _::_::_,hvl=>simp at hvl; omega
                      have hx:=v3 x (by simp)
                      have hxc:=AVal.cells_one hx
                      exact ⟨x,⟨by rw [hxc]; exact v1,by rw [hxc]; exact hvl,hx⟩,csi,q1,by rw [hxc]; exact v2,hget,hsp⟩
                  obtain ⟨els,e1,e2⟩:=choose_list len elem
                  have hne:els≠[]:=by intro hc; subst hc; simp at e1; omega
                  have hsp:a.spot=none:=by
                    obtain ⟨x,hx⟩:∃ x,els[0]?=some x:=⟨els[0]'(by omega),by simp⟩
                    obtain ⟨_,_,_,_,_,hh⟩:=e2 0 x hx
                    exact hh rfl
                  obtain ⟨ab,ao,as⟩:=a
                  simp only at hsp
                  subst hsp
                  refine ⟨[.data c false els],?_,.cons _ _ _ _ (.data c false els ab ao len cap e1.symm hlc (by simp) ?_) .nil,?_⟩
                  · unfold HasTyW
                    rw [hs]
                    refine .inr (.inr ⟨els,hne,by omega,?_,rfl,?_⟩)
                    · rw [e1]
                      have hm:=Nat.mul_le_mul_right (P.bytesOf e) (Nat.le_add_right elems.length rest.length)
                      rw [l1] at hm hwl
                      exact Nat.le_trans hm hwl
                    intro x hx
                    obtain ⟨i,hi,rfl⟩:=List.getElem_of_mem hx
                    exact (e2 i _ (by simp [hi])).1
                  · apply DRel.of_get
                    intro i ev hev
                    obtain ⟨⟨_,g1,_⟩,csi,r1,r2,r3,_⟩:=e2 i ev hev
                    refine ⟨CRel.of_list r2 ?_,g1⟩
                    intro k hk
                    exact r3 k (by omega)
                  · intro x hx; simp at hx; subst hx; rfl
              · cases h
          cases hc:P.cellsOf e with
          | zero=>exact other (by simp [shape,hu,hc])
          | succ c=>
            cases hA:isAggT P e with
            | true=>exact key (c+1) true (by simp [shape,hu,hc,hA]) (by omega) hc hA (by simp)
            | false=>
              cases c with
              | zero=>exact key 1 false (by simp [shape,hu,hc,hA]) (by omega) hc hA (by simp)
              | succ c=>exact other (by simp [shape,hu,hc,hA])
        | struct fs=>
          cases hk:contig P fs.toList 0 with
          | none=>exact other (by simp [shape,hu,hk])
          | some n=>
            cases hb:Nat.beq n (P.cellsOf t) with
            | false=>exact other (by simp [shape,hu,hk,hb])
            | true=>
              have hs:shape P t=.struct (fs.toList.map (·.type)):=by simp [shape,hu,hk,hb]
              have hb:=Nat.eq_of_beq_eq_true hb
              simp only [] at h
              split at h
              · rename_i hlen
                rw [Option.map_eq_some_iff] at h
                obtain ⟨xs,hm,hd⟩:=h
                simp only [Prod.mk.injEq] at hd
                obtain ⟨rfl,_⟩:=hd
                simp only [DataW.weights,hu] at hwt
                obtain ⟨vs,g1,g2⟩:=hasL_ofW (ι:=ι) (fun t cs d ps h hw=>trod_tyW fuel t cs d ps h hw) fs.toList xs 0 n hm hk (by omega) hwt
                have e:(cs.drop 0).take (n - 0)=cs:=by rw [List.drop_zero,Nat.sub_zero,hb,<-hlen,List.take_length]
                rw [e] at g2
                refine ⟨vs,by unfold HasTyW; rw [hs]; exact g1.1,g2,g1.2⟩
              · cases h
        | _=>exact other (by simp [shape,hu])
theorem arg_relW {r:Reach} {base:Nat} {t:TypeId} {v:Value} {d:DataW H} {ps:List MemPlace} (hv:Value.okWide P w r base t v) (hd:DataW.Trod enc P w 0 sp held t v d ps) (hwt:(d.weights P t).all (·<=reachBytes)=true):
  ∃ fuel x,HasTyW P fuel t x.cells/\VRel 0 ι (allH w) x v/\x.isAgg=isAggT P t:=by
 obtain ⟨fuel,hf⟩:=hd
 obtain ⟨vs,h1,h2,h3⟩:=trod_tyW (ι:=ι) fuel t _ d ps hf hwt
 cases hA:isAggT P t with
 | true=>
  obtain ⟨cs,rfl⟩:=okWide_agg hv hA
  refine ⟨fuel,.agg vs,h1,?_,rfl⟩
  have:VRel 0 ι (allH w) (.agg vs) (.agg cs.toList.toArray):=.agg vs _ h2
  simpa using this
 | false=>
  have hn:=okWide_notagg hv hA
  have hc:v.cells.toList=[v]:=by cases v<;>first|rfl|exact absurd rfl (hn _)
  rw [hc] at h2
  cases h2 with
  | cons x _ xs _ hx hxs=>
   cases hxs
   have hxa:=h3 x (by simp)
   exact ⟨fuel,x,by rw [AVal.cells_one hxa]; exact h1,hx,hxa⟩
end
end Abs
end
noncomputable section
namespace Abs
open Go
def noG (Q:SPred):SPred
 | .goto _,_,_=>False
 | ex,e,σ=>Q ex e σ
section
variable {E:Env} {n:Nat} {c rest:Code} {Q:SPred} {e:Ev} {σ:AStore}
theorem noG_ret:noG Q .ret e σ=Q .ret e σ:=rfl
theorem Z_scope0 (h:V E n c (noG Q) e σ):Z E n (.scope c) Q e σ:=by
 intro hc he
 have hc:okC n c=true:=hc
 refine AWp.scopeN 1 ?_
 refine (V_sound c h hc he).mono ?_
 rintro ex a σ ⟨e,h3,h4,h5⟩
 cases ex with
 | goto l=>exact h5.elim
 | _=>exact ⟨e,h3,h4,h5⟩
end
attribute [go_sem ↓] noG_ret
end Abs
end
noncomputable section
namespace Abs
open Go
section
variable {E:Env} {n:Nat}
def vOpsM (E:Env) (K:Md->Ev->AStore->Prop):List Oper->Md->Ev->AStore->Prop
 | [],md,e,σ=>K md e σ
 | o::r,md,e,σ=>o.guard=none/\
  match aOp E false o.op (evE E.G e) σ with
  | .recov=>(match md with
   | .pan v=>vOpsM E K r .cau (putE e o.dst v) σ
   | md=>vOpsM E K r md (putE e o.dst (.sc .nilIface)) σ)
  | .val v σ'=>vOpsM E K r md (putE e o.dst v) σ'
  | .skip σ'=>vOpsM E K r md (putE e o.dst undefA) σ'
  | _=>False
def vFinM (E:Env) (rs:List ResultVar) (R:AEnd->Option AVal->AStore->Prop) (md:Md):SPred
 | .normal,e,σ|.ret,e,σ=>dRd (fun v=>R (.ret v) md.after σ) ((vResults E rs e σ).map oneOf)
 | .pan v,_,σ=>(match md with|.norm=>True|_=>False)/\R (.pan v) none σ
 | _,_,_=>False
theorem vOpsM_sound {ds : List ADef} {ops : Array Oper} {K : Md → Ev → AStore → Prop} {K' : Md → AAct → AStore → Prop} (hk : ∀ md e σ, okE e → K md e σ → K' md (actOf ds n e) σ) :
    ∀ (l:List Nat) (os:List Oper) (md:Md) (e:Ev) (σ:AStore),l.map (ops[·]?)=os.map some->fitOps n os=true->okE e->vOpsM E K os md e σ->aOpsM E ops K' l md (actOf ds n e) σ
  | [], os, md, e, σ, hl, _, he, h => by
      cases os with
      | nil=>exact hk md e σ he h
      | cons o os=>simp at hl
  | i :: l, os, md, e, σ, hl, hf, he, h => by
      cases os with
      | nil=>simp at hl
      | cons o os=>
        simp only [List.map_cons,List.cons.injEq] at hl
        simp only [fitOps,List.all_cons,Bool.and_eq_true] at hf
        obtain ⟨hi,hl⟩:=hl
        obtain ⟨hg,h⟩:=h
        simp only [aOpsM,hi]
        refine ⟨hg,by rw [fits_actOf]; exact hf.1,?_⟩
        rw [ev_actOf he]
        split
        · rename_i hop
          rw [hop] at h
          simp only [] at h
          cases md with
          | norm=>simp only [] at h ⊢; rw [put_putE]; exact vOpsM_sound hk l os _ _ σ hl hf.2 (okE_put he hf.1 _) h
          | pan v=>simp only [] at h ⊢; rw [put_putE]; exact vOpsM_sound hk l os _ _ σ hl hf.2 (okE_put he hf.1 _) h
          | cau=>simp only [] at h ⊢; rw [put_putE]; exact vOpsM_sound hk l os _ _ σ hl hf.2 (okE_put he hf.1 _) h
        · rename_i v σ' hop
          rw [hop] at h
          rw [put_putE]; exact vOpsM_sound hk l os md _ σ' hl hf.2 (okE_put he hf.1 _) h
        · rename_i σ' hop
          rw [hop] at h
          rw [put_putE]; exact vOpsM_sound hk l os md _ σ' hl hf.2 (okE_put he hf.1 _) h
        · rename_i r h1 h2 h3
          split at h
          · rename_i hop; exact absurd hop h1
          · rename_i v σ' hop; exact absurd hop (h2 v σ')
          · rename_i σ' hop; exact absurd hop (h3 σ')
          · exact h
theorem ACallsM.unds2 {ds:List ADef} {f:FuncId} {args:List AVal} {m:Option AVal} {σ:AStore} {R:AEnd->Option AVal->AStore->Prop} (h:ACallsM {E with ds:=ds} f args m σ R):ACallsM E f args m σ R:=by
 intro ι H w args' u hR ha hm
 refine CallsDIn.mono (h ι H w args' u (hR.toDs ds) ha hm) ?_
 rintro e u' w' ⟨ι',H',σ',ae,m',h1,h2,h3,h4,h5⟩
 exact ⟨ι',H',σ',ae,m',h1,h2,h3.unds,h4,h5⟩
theorem ACallsM.of_wpR' (hrd:E.rd=none) {f:FuncId} {fn:Func} {id:Nat} {ops:Array Oper} {rest:Code} {args:List AVal} {m:Option AVal} {σ:AStore} {R:AEnd->Option AVal->AStore->Prop} (hf:E.P.funcs[f]?=some fn)
  (hb:fn.body=some (.seq (.region id ops false) rest)) (hn:args.length<=fn.ntmps) (hl:args.length < 1000) {a0:AAct} (hle:a0.Le (aInit args fn.ntmps))
  (h:aOpsM E ops (fun md a σ=>AWp E rest (aEndM E fn R md) a σ) (List.range ops.size) (Md.start m) a0 σ):ACallsM E f args m σ R:=by
 intro ι H w args' u hR hargs hm
 have ha:=(aInit_rel hargs hn hl).le hle
 refine callsDIn_of_wpSIn hf hb trivial ?_
 intro c₀ cs hc
 have hc0:c₀={c₀ with mode:=u}:=by rw [<-hc]
 refine wpSIn_seq (wpSIn_region ?_)
 rw [hc0]
 refine aOpsM_sound (u0:=u) hrd (List.range ops.size) (Md.start m) _ σ ι H w _ u hR (by simpa using ha) (MdRel.start hm) (fun _=>rfl) (Ext.refl _ _ _) h
theorem ACallsM.of_V {E':Env} (hE:{E with ds:=[]}=E') (hrd:E.rd=none) {f:FuncId} (fn:Func) (id:Nat) (ops:Array Oper) (os:List Oper) (rest:Code) (rs:List ResultVar) {args:List AVal} {m:Option AVal} {σ:AStore} {R:AEnd->Option AVal->AStore->Prop}
  (hf:E.P.funcs[f]?=some fn) (hb:fn.body=some (.seq (.region id ops false) rest)) (hos:ops.toList=os) (hr:fn.results.toList=rs) (hm:fn.ntmps=n) (hok:okC n (.seq (.region id ops false) rest)=true)
  (hn:Nat.ble args.length n=true) (hl:Nat.blt args.length 1000=true)
  (h:vOpsM E' (fun md e σ=>V E' n rest (vFinM E' rs R md) e σ) os (Md.start m) (initE args 0) σ):ACallsM E f args m σ R:=by
 subst hE hm hr hos
 have hn:=Nat.le_of_ble_eq_true hn
 rw [Nat.blt_eq] at hl
 simp only [okC,Bool.and_eq_true] at hok
 refine ACallsM.unds2 (ds:=[]) (ACallsM.of_wpR' (E:={E with ds:=[]}) hrd hf hb hn hl (init_le args fn.ntmps hl) ?_)
 have hl1:(List.range ops.size).map (ops[·]?)=ops.toList.map some:=by
  apply List.ext_getElem?
  intro i
  simp only [List.getElem?_map]
  by_cases hi:i < ops.size
  ·simp [hi]
  ·rw [List.getElem?_eq_none (by simp; omega),List.getElem?_eq_none (by simp; omega)]; rfl
 refine vOpsM_sound (n:=fn.ntmps) (ds:=[]) ?_ _ ops.toList _ _ σ hl1 hok.1 (okE_initE args 0 (by omega)) h
 intro md e σ he hV
 refine (V_sound rest hV hok.2 he).mono ?_
 rintro ex a σ ⟨e,h1,h2,h3⟩
 have hd:a.defers=[]:=h2.2.1.symm.trans (actOf_n _ _ e).2
 cases ex with
 | normal=>exact ⟨hd,aResult_of_v (R:=fun v=>R (.ret v) md.after σ) h1 h2 h3⟩
 | ret=>exact ⟨hd,aResult_of_v (R:=fun v=>R (.ret v) md.after σ) h1 h2 h3⟩
 | pan v=>exact ⟨hd,h3⟩
 | exit id=>exact h3.elim
 | goto l=>exact h3.elim
def recOn (E:Env) (rs:List ResultVar) (e:Ev) (R:AEnd->AStore->Prop):AEnd->Option AVal->AStore->Prop
 | .ret _,none,σ'=>dRd (fun v=>R (.ret v) σ') ((vResults E rs e σ').map oneOf)
 | .ret _,some v,σ'=>R (.pan v) σ'
 | .pan _,_,_=>False
def vFinR (E:Env) (rs:List ResultVar) (g:FuncId) (as:List AVal) (R:AEnd->AStore->Prop):SPred
 | .normal,e,σ|.ret,e,σ=>ACallsM E g as none σ (recOn E rs e R)
 | .pan v,e,σ=>ACallsM E g as (some v) σ (recOn E rs e R)
 | _,_,_=>False
theorem low_finR {fn:Func} {rs:List ResultVar} (hr:fn.results.toList=rs) {g:FuncId} {cap as:List AVal} (hds:E.ds=[⟨.func g,cap,as⟩]) (hfn:E.fns g=true) {R:AEnd->AStore->Prop} {ex:AExit} {e:Ev} {σ:AStore}
  (h:vFinR E rs g (as++cap) R ex e σ):lowS E n (aEndD E fn R) ex e σ:=by
 subst hr
 intro he a hl
 have hd:a.defers=[⟨.func g,cap,as⟩]:=(hl.2.1.symm.trans (actOf_n _ n e).2).trans hds
 have key:∀ m,ACallsM E g (as++cap) m σ (recOn E fn.results.toList e R)->ALeaves E fn a R a.defers m σ:=by
  intro m h
  rw [hd]
  refine ⟨hfn,h.mono ?_⟩
  intro en m' σ' hh
  cases en with
  | pan v=>exact hh.elim
  | ret v=>
   cases m' with
   | none=>exact aResult_of_v (R:=fun v=>R (.ret v) σ') he hl hh
   | some v'=>exact hh
 cases ex with
 | normal=>exact key none h
 | ret=>exact key none h
 | pan v=>exact key (some v) h
 | exit id=>exact h.elim
 | goto l=>exact h.elim
theorem Top_finR {fn:Func} {rs:List ResultVar} (hr:fn.results.toList=rs) {g:FuncId} {cap as:List AVal} (hds:E.ds=[⟨.func g,cap,as⟩]) (hfn:E.fns g=true) {R:AEnd->AStore->Prop} {c:Code} {e:Ev} {σ:AStore}
  (h:Z E n c (vFinR E rs g (as++cap) R) e σ):Top E n c (aEndD E fn R) e σ:=
 Top_end (Z_mono h fun _ _ _ _ hh=>low_finR hr hds hfn hh)
end
section
variable {E:Env} {rs:List ResultVar} {g:FuncId} {as':List AVal} {R:AEnd->AStore->Prop} {RM:AEnd->Option AVal->AStore->Prop} {e:Ev} {σ:AStore} {md:Md}
theorem vFinR_ret:vFinR E rs g as' R .ret e σ=ACallsM E g as' none σ (recOn E rs e R):=rfl
theorem vFinM_normal:vFinM E rs RM md .normal e σ=dRd (fun v=>RM (.ret v) md.after σ) ((vResults E rs e σ).map oneOf):=rfl
end
attribute [go_sem ↓] vFinR_ret vFinM_normal
end Abs
namespace Abs
open Go
section
variable {E:Env} {lit:Bool} {ρ:ARho} {σ:AStore} {z:Value}
def ifcD (E:Env) (t:TypeId):Option Bool:=(E.ty t).map fun i=>match i.desc with
 | .interface _=>true
 | _=>false
def opMkI (t:TypeId) (σ:AStore):Option AVal->ARes
 | some a=>.val (.iface t a) σ
 | none=>.bad
theorem op_mkI {t:TypeId} {x:Operand} (h:ifcD E t=some false):aOp E lit (.makeInterface t x) ρ σ=opMkI t σ (ρ x):=by
 unfold ifcD at h
 simp only [aOp]
 cases hE:E.ty t with
 | none=>rw [hE] at h; cases h
 | some i=>
  rw [hE] at h
  cases ρ x with
  | none=>rfl
  | some a=>
   simp only [Option.map_some,Option.some.injEq] at h
   simp only [aIface,opMkI]
   split
   ·rename_i hd; rw [hd] at h; cases h
   ·rfl
theorem opMkI_some {t:TypeId} {a:AVal}:opMkI t σ (some a)=.val (.iface t a) σ:=rfl
theorem opBin_neI {t t':TypeId} {cst:Bool} {v:AVal} (h:ifcD E t=some true):opBin E σ .neq t cst (some (.iface t' v)) (some (.sc .nilIface))=.val (.sc (.bool true)) σ:=by
 unfold ifcD at h
 cases hE:E.ty t with
 | none=>rw [hE] at h; cases h
 | some i=>
  rw [hE] at h
  simp only [Option.map_some,Option.some.injEq] at h
  split at h
  ·rename_i hd; simp [opBin,hE,hd,aBin2,aBin,aEq,ARes.ofV]
  ·cases h
theorem opBin_neN {t:TypeId} (h:ifcD E t=some true):opBin E σ .neq t true (some (.sc .nilIface)) (some (.sc .nilIface))=.val (.sc (.bool false)) σ:=by
 unfold ifcD at h
 cases hE:E.ty t with
 | none=>rw [hE] at h; cases h
 | some i=>
  rw [hE] at h
  simp only [Option.map_some,Option.some.injEq] at h
  split at h
  ·rename_i hd; simp [opBin,hE,hd,aBin2,aBin,aEq,ARes.ofV]
  ·cases h
def asD (E:Env) (t:TypeId):Option Value:=(E.ty t).bind fun i=>match i.desc with
 | .interface _=>none
 | _=>some i.zero
def opAs (σ:AStore) (z:Value) (t:TypeId):Option AVal->ARes
 | some (.iface t' v)=>.val (if t'=t then .tuple [v,.sc (.bool true)] else .tuple [absV z,.sc (.bool false)]) σ
 | some a=>.ofV σ (aAssert .bool t z true a)
 | none=>.bad
theorem op_assert {t xt:TypeId} {x:Operand} (h:asD E t=some z):aOp E lit (.typeAssert x xt t true) ρ σ=opAs σ z t (ρ x):=by
 unfold asD at h
 simp only [aOp]
 cases hE:E.ty t with
 | none=>rw [hE] at h; cases h
 | some i=>
  rw [hE] at h
  simp only [Option.bind_some] at h
  cases ρ x with
  | none=>rfl
  | some a=>
   simp only [aAssert]
   split
   ·rename_i hd; rw [hd] at h; cases h
   ·have hz:i.zero=z:=by
     split at h
     ·cases h
     ·exact Option.some.inj h
    cases a<;>try (simp only [hz]; rfl)
    rename_i t' v
    simp only [hz,opAs]
    split<;>simp [ARes.ofV]
theorem opAs_iface {t:TypeId} {v:AVal}:opAs σ z t (some (.iface t v))=.val (.tuple [v,.sc (.bool true)]) σ:=by simp [opAs]
def opPan:Option AVal->ARes
 | some (.iface t v)=>.pan (.iface t v)
 | _=>.bad
theorem op_panic {x:Operand}:aOp E lit (.panic x) ρ σ=opPan (ρ x):=by
 simp only [aOp]
 cases ρ x with
 | none=>rfl
 | some a=>cases a<;>rfl
theorem opPan_some {t:TypeId} {v:AVal}:opPan (some (.iface t v))=.pan (.iface t v):=rfl
theorem aLookup_nil {d:TypeDesc} {k:Value} (hp:plainKey d=true):aLookup d z true (.sc (.map none)) (.sc k) σ=some (.tuple [absV z,.sc (.bool false)]):=by
 simp [aLookup,hp]
def opIAA (σ:AStore) (p:Nat×Nat):Option AVal->Option AVal->ARes
 | some a,some i=>.ofV σ (aIndexA p.1 p.2 a i)
 | _,_=>.bad
def arrAD (E:Env) (t:TypeId):Option (Nat×Nat):=match sliceElem E t with
 | some _=>none
 | none=>(arrayOf E t).map fun p=>(p.1,p.2.size)
theorem op_indexAddrA {t:TypeId} {x i:Operand} {p:Nat×Nat} (h:arrAD E t=some p):aOp E lit (.indexAddr t x i) ρ σ=opIAA σ p (ρ x) (ρ i):=by
 unfold arrAD at h
 simp only [aOp]
 cases h1:sliceElem E t with
 | some j=>rw [h1] at h; cases h
 | none=>
  rw [h1] at h
  cases h2:arrayOf E t with
  | none=>rw [h2] at h; cases h
  | some q=>
   rw [h2] at h
   cases h
   cases ρ x<;>cases ρ i<;>rfl
theorem opIAA_some {p:Nat×Nat} {a i:AVal}:opIAA σ p (some a) (some i)=.ofV σ (aIndexA p.1 p.2 a i):=rfl
end
attribute [go_sem] op_panic opPan_some opMkI_some opIAA_some opAs_iface
end Abs
end
