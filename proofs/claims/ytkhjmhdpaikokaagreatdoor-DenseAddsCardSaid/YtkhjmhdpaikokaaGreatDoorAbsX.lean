/- Part of the abstract layer; it proves no statement by itself. -/
import Derived.Test.YtkhjmhdpaikokaaGreatDoorAbsW
set_option linter.unusedVariables false
set_option linter.unusedSimpArgs false
set_option linter.unusedSectionVars false
noncomputable section
namespace Abs
open Go
abbrev Out:=AExit×AAct×AStore
abbrev OutE:=AEnd×AStore
def bindO {α β:Type}:List α->(α->Option (List β))->Option (List β)
 | [],_=>some []
 | x::xs,k=>
  match k x with
  | none=>none
  | some ys=>match bindO xs k with
   | none=>none
   | some zs=>some (ys++zs)
theorem bindO_some {α β:Type} {k:α->Option (List β)}:∀ {l:List α} {r:List β},bindO l k=some r->∀ x∈l,∃ ys,k x=some ys/\∀ y∈ys,y∈r
  | [],_,_,x,hx=>by simp at hx
  | a :: l, r, h, x, hx => by
      unfold bindO at h
      split at h
      · cases h
      · rename_i ys hys
        split at h
        · cases h
        · rename_i zs hzs
          cases h
          simp at hx
          rcases hx with rfl|hx
          · exact ⟨ys,hys,fun y hy=>by simp [hy]⟩
          · obtain ⟨us,h1,h2⟩:=bindO_some hzs x hx
            exact ⟨us,h1,fun y hy=>by simp [h2 y hy]⟩
def scEq:Value->Value->Bool
 | .int k a,.int k' b=>decide (k=k') && decide (a=b)
 | .string a,.string b=>decide (a=b)
 | .bool a,.bool b=>a==b
 | .pointer none,.pointer none=>true
 | .slice none a b,.slice none c d=>Nat.beq a c && Nat.beq b d
 | .map none,.map none=>true
 | .nilFunc,.nilFunc=>true
 | .nilIface,.nilIface=>true
 | _,_=>false
theorem scEq_eq {a b:Value} (h:scEq a b=true):a=b:=by
 unfold scEq at h
 split at h<;>simp_all
mutual
def aeq:AVal->AVal->Bool
 | .sc a,.sc b=>scEq a b
 | .ptr a b c,.ptr a' b' c'=>Nat.beq a a' && Nat.beq b b' && Nat.beq c c'
 | .iptr a,.iptr b=>aeqs a b
 | .slice a b c,.slice a' b' c'=>Nat.beq a a' && Nat.beq b b' && Nat.beq c c'
 | .view a b c,.view a' b' c'=>Nat.beq a a' && Nat.beq b b' && Nat.beq c c'
 | .data a t b,.data a' t' b'=>Nat.beq a a' && (t==t') && aeqs b b'
 | .map a,.map b=>Nat.beq a b
 | .yld a,.yld b=>Nat.beq a b
 | .endS a b,.endS a' b'=>Nat.beq a a' && Nat.beq b b'
 | .func fn a b,.func fn' a' b'=>decide (fn=fn') && aeqs a a' && aeqs b b'
 | .iface t a,.iface t' a'=>Nat.beq t t' && aeq a a'
 | .agg a,.agg b=>aeqs a b
 | .tuple a,.tuple b=>aeqs a b
 | _,_=>false
def aeqs:List AVal->List AVal->Bool
 | [],[]=>true
 | a::as,b::bs=>aeq a b && aeqs as bs
 | _,_=>false
end
mutual
theorem aeq_eq:∀ {a b:AVal},aeq a b=true->a=b
  | .sc a,b,h=>by cases b<;>simp only [aeq] at h<;>first|(rw [scEq_eq h]; done)|cases h
  | .ptr _ _ _, b, h => by
      cases b<;>simp only [aeq,Bool.and_eq_true] at h<;>first|cases h; done|skip
      obtain ⟨⟨h1,h2⟩,h3⟩:=h
      rw [Nat.eq_of_beq_eq_true h1,Nat.eq_of_beq_eq_true h2,Nat.eq_of_beq_eq_true h3]
  | .iptr a,b,h=>by cases b<;>simp only [aeq] at h<;>first|(rw [aeqs_eq h]; done)|cases h
  | .slice _ _ _, b, h => by
      cases b<;>simp only [aeq,Bool.and_eq_true] at h<;>first|cases h; done|skip
      obtain ⟨⟨h1,h2⟩,h3⟩:=h
      rw [Nat.eq_of_beq_eq_true h1,Nat.eq_of_beq_eq_true h2,Nat.eq_of_beq_eq_true h3]
  | .view _ _ _, b, h => by
      cases b<;>simp only [aeq,Bool.and_eq_true] at h<;>first|cases h; done|skip
      obtain ⟨⟨h1,h2⟩,h3⟩:=h
      rw [Nat.eq_of_beq_eq_true h1,Nat.eq_of_beq_eq_true h2,Nat.eq_of_beq_eq_true h3]
  | .data _ _ x, b, h => by
      cases b<;>simp only [aeq,Bool.and_eq_true] at h<;>first|cases h; done|skip
      obtain ⟨⟨h1,h2⟩,h3⟩:=h
      rw [Nat.eq_of_beq_eq_true h1,eq_of_beq h2,aeqs_eq h3]
  | .map _,b,h=>by cases b<;>simp only [aeq] at h<;>first|(rw [Nat.eq_of_beq_eq_true h]; done)|cases h
  | .yld _,b,h=>by cases b<;>simp only [aeq] at h<;>first|(rw [Nat.eq_of_beq_eq_true h]; done)|cases h
  | .endS _ _, b, h => by
      cases b<;>simp only [aeq,Bool.and_eq_true] at h<;>first|cases h; done|skip
      rw [Nat.eq_of_beq_eq_true h.1,Nat.eq_of_beq_eq_true h.2]
  | .func _ x y, b, h => by
      cases b<;>simp only [aeq,Bool.and_eq_true] at h<;>first|cases h; done|skip
      obtain ⟨⟨h1,h2⟩,h3⟩:=h
      rw [of_decide_eq_true h1,aeqs_eq h2,aeqs_eq h3]
  | .iface _ x, b, h => by
      cases b<;>simp only [aeq,Bool.and_eq_true] at h<;>first|cases h; done|skip
      rw [Nat.eq_of_beq_eq_true h.1,aeq_eq h.2]
  | .agg a,b,h=>by cases b<;>simp only [aeq] at h<;>first|(rw [aeqs_eq h]; done)|cases h
  | .tuple a,b,h=>by cases b<;>simp only [aeq] at h<;>first|(rw [aeqs_eq h]; done)|cases h
theorem aeqs_eq:∀ {a b:List AVal},aeqs a b=true->a=b
  | [],b,h=>by cases b<;>simp only [aeqs] at h<;>first|rfl|cases h
  | x :: xs, b, h => by
      cases b<;>simp only [aeqs,Bool.and_eq_true] at h<;>first|cases h; done|skip
      rw [aeq_eq h.1,aeqs_eq h.2]
end
abbrev XCall:=Tgt->List AVal->AStore->Option (List OutE)
def xOps (E:Env) (call:XCall) (ops:Array Oper):List Oper->AAct->AStore->Option (List Out)
 | [],a,σ=>some [(.normal,a,σ)]
 | o::rest,a,σ=>
  match a.fits o.dst with
  | false=>none
  | true=>
   match (match o.guard with
    | none=>some true
    | some (j,want)=>(aYield ops a j).map (·==some want)) with
   | none=>none
   | some false=>xOps E call ops rest (a.put o.dst (some undefA)) σ
   | some true=>
    match aOp E false o.op (a.ev E.G) σ with
    | .val v σ'=>xOps E call ops rest (a.put o.dst (some v)) σ'
    | .vals l=>bindO l fun p=>xOps E call ops rest (a.put o.dst (some p.1)) p.2
    | .skip σ'=>xOps E call ops rest (a.put o.dst (some undefA)) σ'
    | .enter f args=>
     match call f args σ with
     | none=>none
     | some outs=>bindO outs fun r=>
      match r.1 with
      | .ret v=>xOps E call ops rest (a.put o.dst (some v)) r.2
      | .pan v=>some [(.pan v,a,r.2)]
    | .dfr d=>match E.rd with
     | none=>xOps E call ops rest (({a with defers:=d::a.defers}:AAct).put o.dst (some undefA)) σ
     | some _=>none
    | .pan v=>some [(.pan v,a,σ)]
    | .recov=>none
    | .bad=>none
def CallOk (E:Env) (call:XCall):Prop:=∀ f args σ outs,call f args σ=some outs->ACallsT E f args σ fun e σ'=>(e,σ')∈outs
section
variable {E:Env} {call:XCall} (hc:CallOk E call)
include hc
theorem xOps_sound {ops : Array Oper} {K : APred} : ∀ (l : List Nat) (os : List Oper) (a : AAct) (σ : AStore) (outs : List Out), l.map (ops[·]?) = os.map some → xOps E call ops os a σ = some outs →
    (∀ o∈outs,K o.1 o.2.1 o.2.2)->aOps E ops K l a σ
  | [], os, a, σ, outs, hl, h, hK => by
      cases os with
      | nil=>simp only [xOps,Option.some.injEq] at h; subst h; exact hK (_,_,_) (List.mem_singleton.2 rfl)
      | cons o os=>simp at hl
  | i :: l, os, a, σ, outs, hl, h, hK => by
      cases os with
      | nil=>simp at hl
      | cons o os=>
        simp only [List.map_cons,List.cons.injEq] at hl
        obtain ⟨hi,hl⟩:=hl
        simp only [aOps,hi]
        unfold xOps at h
        split at h
        · cases h
        · rename_i hfit
          have rec_:∀ {a σ outs'},xOps E call ops os a σ=some outs'->(∀ o∈outs',o∈outs)->aOps E ops K l a σ:=
            fun h' hsub=>xOps_sound l os _ _ _ hl h' (fun o ho=>hK o (hsub o ho))
          have go : (match aOp E false o.op (a.ev E.G) σ with
              | .val v σ'=>xOps E call ops os (a.put o.dst (some v)) σ'
              | .vals l=>bindO l fun p=>xOps E call ops os (a.put o.dst (some p.1)) p.2
              | .skip σ'=>xOps E call ops os (a.put o.dst (some undefA)) σ'
              | .enter f args=>
                match call f args σ with
                | none=>none
                | some outs=>bindO outs fun r=>
                  match r.1 with
                  | .ret v=>xOps E call ops os (a.put o.dst (some v)) r.2
                  | .pan v=>some [(.pan v,a,r.2)]
              | .dfr d=>match E.rd with
                | none=>xOps E call ops os (({a with defers:=d::a.defers}:AAct).put o.dst (some undefA)) σ
                | some _=>none
              | .pan v=>some [(.pan v,a,σ)]
              | .recov=>none
              | .bad=>none)=some outs->aGo E o.dst K (aOps E ops K l) a σ (aOp E false o.op (a.ev E.G) σ):=by
            intro h
            generalize aOp E false o.op (a.ev E.G) σ=r at h
            cases r with
            | val v σ'=>exact ⟨hfit,rec_ h (fun _ h=>h)⟩
            | vals ll=>
              refine ⟨hfit,fun p hp=>?_⟩
              obtain ⟨ys,h1,h2⟩:=bindO_some h p hp
              exact rec_ h1 h2
            | skip σ'=>exact ⟨hfit,rec_ h (fun _ h=>h)⟩
            | enter f args=>
              refine ⟨hfit,?_⟩
              simp only [] at h
              split at h
              · cases h
              · rename_i os' hcall
                refine (hc f args σ os' hcall).mono ?_
                intro e σ' hmem
                obtain ⟨ys,h1,h2⟩:=bindO_some h (e,σ') hmem
                cases e with
                | ret v=>exact rec_ h1 h2
                | pan v=>cases h1; exact hK (_,_,_) (h2 _ (List.mem_singleton.2 rfl))
            | dfr d=>
              simp only [] at h
              split at h
              · rename_i hrd; exact ⟨hfit,hrd,rec_ h (fun _ h=>h)⟩
              · cases h
            | pan v=>cases h; exact hK (_,_,_) (List.mem_singleton.2 rfl)
            | recov=>cases h
            | bad=>cases h
          unfold aStep
          cases hg:o.guard with
          | none=>rw [hg] at h; exact go h
          | some jw=>
            obtain ⟨j,want⟩:=jw
            rw [hg] at h
            simp only [] at h ⊢
            cases hy:aYield ops a j with
            | none=>rw [hy] at h; cases h
            | some b=>
              rw [hy] at h
              simp only [Option.map_some] at h
              refine ⟨fun hb=>?_,fun hb=>?_⟩
              · have:(b==some want)=true:=by simp [hb]
                rw [this] at h; exact go h
              · have:(b==some want)=false:=by simp [hb]
                rw [this] at h
                exact ⟨hfit,rec_ h (fun _ h=>h)⟩
end
def xRecs (E:Env) (m:Nat) (σ:AStore):List Rec->Bool
 | []=>true
 | r::rs=>
  match m.testBit r.i with
  | true=>xRecs E m σ rs
  | false=>match aRead E r.op (r.a.ev E.G) σ with
   | some v=>aeq v r.v && xRecs E m σ rs
   | none=>false
theorem xRecs_sound {E:Env} {m:Nat} {σ:AStore}:∀ {rs:List Rec},xRecs E m σ rs=true->recsOk E m σ rs
  | [],_=>trivial
  | r :: rs, h => by
      unfold xRecs at h
      unfold recsOk
      cases hb:m.testBit r.i with
      | true=>rw [hb] at h; exact ⟨trivial,xRecs_sound h⟩
      | false=>
        rw [hb] at h
        simp only [] at h ⊢
        cases hr:aRead E r.op (r.a.ev E.G) σ with
        | none=>rw [hr] at h; cases h
        | some v=>
          rw [hr] at h
          simp only [Bool.and_eq_true] at h
          exact ⟨by rw [Rec.holds,hr,aeq_eq h.1],xRecs_sound h.2⟩
def xDr (E:Env) (call:XCall) (ops:Array Oper) (anc:List (Nat×Nat)) (a0:AAct):List Nat->List Rec->AAct->AStore->Option (List Out)
 | [],_,a,σ=>some [(.normal,a,σ)]
 | i::rest,recs,a,σ=>
  match ops[i]? with
  | none=>none
  | some o=>
   match (match o.guard with
    | none=>some true
    | some (j,want)=>(aYield ops a j).map (·==some want)) with
   | none=>none
   | some false=>xDr E call ops anc a0 rest recs (a.put o.dst (some undefA)) σ
   | some true=>
    match isEff E o.op with
    | false=>match aRead E o.op (a.ev E.G) σ with
     | some v=>xDr E call ops anc a0 rest (⟨i,o.op,a,v⟩::recs) (a.put o.dst (some v)) σ
     | none=>none
    | true=>
     match aOp E true o.op (a.ev E.G) σ with
     | .val v σ'=>match xRecs E (look anc i) σ' recs with
      | true=>xDr E call ops anc a0 rest recs (a.put o.dst (some v)) σ'
      | false=>none
     | .vals l=>bindO l fun p=>match xRecs E (look anc i) p.2 recs with
      | true=>xDr E call ops anc a0 rest recs (a.put o.dst (some p.1)) p.2
      | false=>none
     | .skip σ'=>match xRecs E (look anc i) σ' recs with
      | true=>xDr E call ops anc a0 rest recs (a.put o.dst (some undefA)) σ'
      | false=>none
     | .enter f args=>
      match call f args σ with
      | none=>none
      | some outs=>bindO outs fun r=>
       match r.1 with
       | .ret v=>match xRecs E (look anc i) r.2 recs with
        | true=>xDr E call ops anc a0 rest recs (a.put o.dst (some v)) r.2
        | false=>none
       | .pan v=>some [(.pan v,a0,r.2)]
     | .pan v=>some [(.pan v,a0,σ)]
     | .dfr _=>none
     | .recov=>none
     | .bad=>none
section
variable {E:Env} {call:XCall} (hc:CallOk E call)
include hc
theorem xDr_sound {ops : Array Oper} {anc : List (Nat × Nat)} {a0 : AAct} {K : APred} : ∀ (l : List Nat) (recs : List Rec) (a : AAct) (σ : AStore) (outs : List Out), xDr E call ops anc a0 l recs a σ = some outs →
    (∀ o∈outs,K o.1 o.2.1 o.2.2)->aDr E ops anc K a0 l recs a σ
  | [],recs,a,σ,outs,h,hK=>by simp only [xDr,Option.some.injEq] at h; subst h; exact hK (_,_,_) (List.mem_singleton.2 rfl)
  | i :: l, recs, a, σ, outs, h, hK => by
      unfold xDr at h
      unfold aDr
      split at h
      · cases h
      · rename_i o ho
        simp only [ho]
        have rec_:∀ {recs a σ outs'},xDr E call ops anc a0 l recs a σ=some outs'->(∀ o∈outs',o∈outs)->aDr E ops anc K a0 l recs a σ:=
          fun h' hsub=>xDr_sound l _ _ _ _ h' (fun o ho=>hK o (hsub o ho))
        have go : (match isEff E o.op with
            | false=>match aRead E o.op (a.ev E.G) σ with
              | some v=>xDr E call ops anc a0 l (⟨i,o.op,a,v⟩::recs) (a.put o.dst (some v)) σ
              | none=>none
            | true=>
              match aOp E true o.op (a.ev E.G) σ with
              | .val v σ'=>match xRecs E (look anc i) σ' recs with
                | true=>xDr E call ops anc a0 l recs (a.put o.dst (some v)) σ'
                | false=>none
              | .vals ll=>bindO ll fun p=>match xRecs E (look anc i) p.2 recs with
                | true=>xDr E call ops anc a0 l recs (a.put o.dst (some p.1)) p.2
                | false=>none
              | .skip σ'=>match xRecs E (look anc i) σ' recs with
                | true=>xDr E call ops anc a0 l recs (a.put o.dst (some undefA)) σ'
                | false=>none
              | .enter f args=>
                match call f args σ with
                | none=>none
                | some outs=>bindO outs fun r=>
                  match r.1 with
                  | .ret v=>match xRecs E (look anc i) r.2 recs with
                    | true=>xDr E call ops anc a0 l recs (a.put o.dst (some v)) r.2
                    | false=>none
                  | .pan v=>some [(.pan v,a0,r.2)]
              | .pan v=>some [(.pan v,a0,σ)]
              | .dfr _=>none
              | .recov=>none
              | .bad=>none)=some outs->
            (match isEff E o.op with
              | true=>aGoD E K a0 (fun x σ'=>recsOk E (look anc i) σ' recs/\aDr E ops anc K a0 l recs (a.put o.dst x) σ') σ (aOp E true o.op (a.ev E.G) σ)
              | false=>match aRead E o.op (a.ev E.G) σ with
                | some v=>aDr E ops anc K a0 l (⟨i,o.op,a,v⟩::recs) (a.put o.dst (some v)) σ
                | none=>False):=by
          intro h
          cases he:isEff E o.op with
          | false=>
            rw [he] at h
            simp only [] at h ⊢
            cases hr:aRead E o.op (a.ev E.G) σ with
            | none=>rw [hr] at h; cases h
            | some v=>rw [hr] at h; exact rec_ h (fun _ h=>h)
          | true=>
            rw [he] at h
            simp only [] at h ⊢
            have chk : ∀ {x : Option AVal} {σ' outs'}, (match xRecs E (look anc i) σ' recs with
                | true=>xDr E call ops anc a0 l recs (a.put o.dst x) σ'
                | false=>none)=some outs'->(∀ o∈outs',o∈outs)->recsOk E (look anc i) σ' recs/\aDr E ops anc K a0 l recs (a.put o.dst x) σ':=by
              intro x σ' outs' h' hsub
              cases hx:xRecs E (look anc i) σ' recs with
              | false=>rw [hx] at h'; cases h'
              | true=>rw [hx] at h'; exact ⟨xRecs_sound hx,rec_ h' hsub⟩
            generalize aOp E true o.op (a.ev E.G) σ=r at h
            cases r with
            | val v σ'=>exact chk h (fun _ h=>h)
            | vals ll=>
              intro p hp
              obtain ⟨ys,h1,h2⟩:=bindO_some h p hp
              exact chk h1 h2
            | skip σ'=>exact chk h (fun _ h=>h)
            | enter f args=>
              show ACallsT _ _ _ _ _
              simp only [] at h
              split at h
              · cases h
              · rename_i os' hcall
                refine (hc f args σ os' hcall).mono ?_
                intro e σ' hmem
                obtain ⟨ys,h1,h2⟩:=bindO_some h (e,σ') hmem
                cases e with
                | ret v=>exact chk h1 h2
                | pan v=>cases h1; exact hK (_,_,_) (h2 _ (List.mem_singleton.2 rfl))
            | pan v=>cases h; exact hK (_,_,_) (List.mem_singleton.2 rfl)
            | dfr d=>cases h
            | recov=>cases h
            | bad=>cases h
        cases hg:o.guard with
        | none=>rw [hg] at h; exact go h
        | some jw=>
          obtain ⟨j,want⟩:=jw
          rw [hg] at h
          simp only [] at h ⊢
          cases hy:aYield ops a j with
          | none=>rw [hy] at h; cases h
          | some b=>
            rw [hy] at h
            simp only [Option.map_some] at h
            refine ⟨fun hb=>?_,fun hb=>?_⟩
            · have:(b==some want)=true:=by simp [hb]
              rw [this] at h; exact go h
            · have:(b==some want)=false:=by simp [hb]
              rw [this] at h
              exact rec_ h (fun _ h=>h)
end
def levelOf (anc:List (Nat×Nat)) (effs:List Nat) (i:Nat):Nat:=(effs.filter fun e=>(look anc i).testBit e).length
def canonAt (E:Env) (ops:Array Oper) (lv:List (Nat×Nat)):Nat->Nat->List Nat
 | 0,_=>[]
 | n+1,k=>((lv.filter fun p=>Nat.beq p.2 k && !(effAt E ops p.1)).map (·.1))++((lv.filter fun p=>Nat.beq p.2 k && effAt E ops p.1).map (·.1))++canonAt E ops lv n (k+1)
def canonOf (E:Env) (ops:Array Oper):List Nat:=
 let idx:=List.range ops.size
 let anc:=ancs ops idx []
 let effs:=idx.filter (effAt E ops)
 canonAt E ops (idx.map fun i=>(i,levelOf anc effs i)) (effs.length+1) 0
end Abs
end
