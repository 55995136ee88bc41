/- Part of the abstract layer; it proves no statement by itself. -/
import Derived.Test.YtkhjmhdpaikokaaGreatDoorAbsZ
import GoSem.ClaimJoined
import Derived.LaidHandle
set_option linter.unusedVariables false
set_option linter.unusedSimpArgs false
set_option linter.unusedSectionVars false
noncomputable section
namespace Abs
open Go
structure Mem where
 f:FuncId
 args:List AVal
 ends:List AEnd
def findM (f:FuncId) (args:List AVal):List Mem->Option (List AEnd)
 | []=>none
 | m::ms=>
  match Nat.beq m.f f with
  | true=>match aeqs m.args args with
   | true=>some m.ends
   | false=>findM f args ms
  | false=>findM f args ms
theorem findM_some {f:FuncId} {args:List AVal} {es:List AEnd}:∀ {l:List Mem},findM f args l=some es->(⟨f,args,es⟩:Mem)∈l
  | [],h=>by cases h
  | m :: ms, h => by
      unfold findM at h
      split at h
      · rename_i h1
        split at h
        · rename_i h2
          cases h
          have e1:=Nat.eq_of_beq_eq_true h1
          have e2:=aeqs_eq h2
          subst e1 e2
          simp
        · exact List.mem_cons_of_mem _ (findM_some h)
      · exact List.mem_cons_of_mem _ (findM_some h)
def FTab.memo (F:FTab) (l:List Mem):FTab:=⟨F.fn,fun f args=>match findM f args l with
 | some es=>some es
 | none=>F.ctr f args,F.pure,F.fz,F.tz,F.ctrT⟩
def FTab.memoT (F:FTab) (l:List Mem):FTab:=⟨F.fn,F.ctr,F.pure,F.fz,F.tz,fun f args=>match findM f args l with
 | some es=>some es
 | none=>F.ctrT f args⟩
def eqEs:List AEnd->List AEnd->Bool
 | [],[]=>true
 | a::as,b::bs=>eqE a b && eqEs as bs
 | _,_=>false
theorem eqEs_eq:∀ {a b:List AEnd},eqEs a b=true->a=b
  | [],[],_=>rfl
  | [],_::_,h=>by cases h
  | _::_,[],h=>by cases h
  | a :: as, b :: bs, h => by
      simp only [eqEs,Bool.and_eq_true] at h
      have:a=b:=by
        have h1:=h.1
        cases a<;>cases b<;>simp only [eqE] at h1<;>first|cases h1; done|rw [aeq_eq h1]
      rw [this,eqEs_eq h.2]
def memOk (E:Env) (F:FTab) (n:Nat) (m:Mem):Bool:=
 match sfvs m.args with
 | true=>match xEnds (xCall E F n m.f m.args empty) with
  | some es=>eqEs es m.ends
  | none=>false
 | false=>false
theorem memOk_sound {E:Env} {F:FTab} (hrd:E.rd=none) (hF:FOk E F) {n:Nat} {m:Mem} (h:memOk E F n m=true) (σ:AStore):ACalls E m.f m.args σ fun e σ'=>σ'=σ/\e∈m.ends:=by
 unfold memOk at h
 split at h
 ·rename_i hs
  split at h
  ·rename_i es he
   have:=eqEs_eq h
   subst this
   cases hr:xCall E F n m.f m.args empty with
   | none=>rw [hr] at he; cases he
   | some os=>
    rw [hr] at he
    exact xEnds_sound hF.glob hs he ((x_sound hrd hF n).2.2.2.1 m.f m.args empty os hr) σ
  ·cases h
 ·cases h
end Abs
end
noncomputable section
namespace Abs
open Go
def allH (w:World):Imm:=fun c=>(w.heap[c]?).map (true,·)
theorem allH_cell {w:World} {b o:Nat} {c:Array Value} {e:TypeId} {f:Nat×Nat} (h:w.heap[b]?=some (.cells c e f)):(allH w).cell? b o=c[o]?:=by
 simp [Imm.cell?,allH,h]
theorem mapM_get {α β:Type} {f:α->Option β}:∀ {l:List α} {r:List β},l.mapM f=some r->r.length=l.length/\∀ (i:Nat) (x:α),l[i]?=some x->∃ y,r[i]?=some y/\f x=some y
  | [], r, h => by
      simp at h
      subst h
      exact ⟨rfl,by simp⟩
  | a :: l, r, h => by
      rw [List.mapM_cons] at h
      cases ha:f a with
      | none=>simp [ha] at h
      | some y=>
        cases hl:l.mapM f with
        | none=>simp [ha,hl] at h
        | some ys=>
          simp [ha,hl] at h
          subst h
          obtain ⟨h1,h2⟩:=mapM_get hl
          refine ⟨by simp [h1],?_⟩
          intro i x hx
          cases i with
          | zero=>simp at hx; subst hx; exact ⟨y,by simp,ha⟩
          | succ i=>simp at hx; obtain ⟨z,g1,g2⟩:=h2 i x hx; exact ⟨z,by simpa using g1,g2⟩
theorem mapO_get {α β:Type} {f:α->Option β}:∀ {l:List α} {r:List β},mapO f l=some r->r.length=l.length/\∀ (i:Nat) (x:α),l[i]?=some x->∃ y,r[i]?=some y/\f x=some y
  | [], r, h => by
      simp [mapO] at h
      subst h
      exact ⟨rfl,by simp⟩
  | a :: l, r, h => by
      obtain ⟨y,ys,h1,h2,rfl⟩:=mapO_cons h
      obtain ⟨g1,g2⟩:=mapO_get h2
      refine ⟨by simp [g1],?_⟩
      intro i x hx
      cases i with
      | zero=>simp at hx; subst hx; exact ⟨y,by simp,h1⟩
      | succ i=>simp at hx; obtain ⟨z,k1,k2⟩:=g2 i x hx; exact ⟨z,by simpa using k1,k2⟩
def wrapE (agg:Bool) (cs:List AVal):Option AVal:=
 match agg with
 | true=>some (.agg cs)
 | false=>match cs with
  | [v]=>match v.isAgg with
   | false=>some v
   | true=>none
  | _=>none
theorem wrapE_cells {agg:Bool} {cs:List AVal} {v:AVal} (h:wrapE agg cs=some v):v.cells=cs:=by
 unfold wrapE at h
 split at h
 ·cases h; rfl
 ·split at h
  ·rename_i x
   split at h
   ·rename_i hx
    cases h
    exact AVal.cells_one hx
   ·cases h
  ·cases h
def isAggT (P:Program) (t:TypeId):Bool:=
 match P.underlying t with
 | some (.struct _)|some (.array _ _)=>true
 | _=>false
section
variable {H:Type}
def absFs (P:Program) (rec:TypeId->DataW H->Option (List AVal)):List Field->List (DataW H)->Nat->Option (List AVal)
 | [],[],_=>some []
 | f::fs,d::ds,o=>
  match Nat.beq f.offset o,rec f.type d with
  | true,some vs=>
   match Nat.beq vs.length (P.cellsOf f.type),absFs P rec fs ds (o+P.cellsOf f.type) with
   | true,some ws=>some (vs++ws)
   | _,_=>none
  | _,_=>none
 | _,_,_=>none
def absD (P:Program) (dec:H->Option AVal):Nat->TypeId->DataW H->Option (List AVal)
 | 0,_,_=>none
 | n+1,t,d=>
  match P.underlying t,d with
  | some .bool,.lit (.bool b)=>some [.sc (.bool b)]
  | some (.int k),.lit (.int k' m)=>if k'=k then some [.sc (.int k m)] else none
  | some .string,.lit (.string bs)=>some [.sc (.string ⟨bs.toArray⟩)]
  | some (.slice _),.nil=>some [.sc (.slice none 0 0)]
  | some (.slice e),.slice es _=>
   match Nat.beq es.length 0 || Nat.beq (P.cellsOf e) 0,mapO (fun x=>(absD P dec n e x).bind (fun cs=>if cs.length=P.cellsOf e then wrapE (isAggT P e) cs else none)) es with
   | false,some els=>some [.data (P.cellsOf e) false els]
   | _,_=>none
  | some (.struct fs),.agg ps=>
   match absFs P (absD P dec n) fs.toList ps 0 with
   | some vs=>if vs.length=P.cellsOf t then some vs else none
   | none=>none
  | some (.func _ _ _),.nil=>some [.sc .nilFunc]
  | some (.func _ _ _),.held h=>match dec h with
   | some v=>some [v]
   | none=>none
  | _,_=>none
theorem cells?_get {w:World} {base n:Nat} {a:Addr} {cs:List Value} (h:w.cells? base a n=some cs):cs.length=n/\∀ k,k < n->∃ v,cs[k]?=some v/\w.cell? (a.add k)=some v:=by
 unfold World.cells? at h
 split at h
 ·obtain ⟨h1,h2⟩:=mapM_get h
  refine ⟨by simpa using h1,fun k hk=>?_⟩
  exact h2 k k (by simp [hk])
 ·cases h
theorem cell?_add {w:World} {a:Addr} {k:Nat} {v:Value} (h:w.cell? (a.add k)=some v):(allH w).cell? a.block (a.off+k)=some v/\(k=0->a.spot=none):=by
 have hb:(a.add k).block=a.block:=by unfold Addr.add; split<;>rfl
 have ho:(a.add k).off=a.off+k:=by unfold Addr.add; split<;>simp_all
 unfold World.cell? at h
 rw [hb,ho] at h
 split at h
 ·rename_i c e f hc
  split at h
  ·cases h
  ·rename_i hs
   refine ⟨by rw [allH_cell hc]; exact h,?_⟩
   intro hk
   subst hk
   simpa [Addr.add] using hs
 ·cases h
variable {enc:TypeId×Value->H} {P:Program} {w:World} {dec:H->Option AVal} {sp:Nat->Bool} {held:Bool} {ι:Inj}
theorem absFs_rel {rec : TypeId → DataW H → Option (List AVal)} {trod : TypeId → List Value → Option (DataW H × List MemPlace)}
    (hrec:∀ t cs d ps vs,trod t cs=some (d,ps)->rec t d=some vs->LRel 0 ι (allH w) vs cs) {cs:List Value}:
    ∀ (fs:List Field) (xs:List (DataW H×List MemPlace)) (o:Nat) (vs:List AVal),fs.mapM (fun f=>trod f.type ((cs.drop f.offset).take (P.cellsOf f.type)))=some xs->absFs P rec fs (xs.map (·.1)) o=some vs->
      ∃ k,LRel 0 ι (allH w) vs ((cs.drop o).take k)/\vs.length=k
  | [], xs, o, vs, hm, h => by
      simp at hm
      subst hm
      cases h
      exact ⟨0,by simpa using LRel.nil,rfl⟩
  | f :: fs, xs, o, vs, hm, h => by
      rw [List.mapM_cons] at hm
      cases ha:trod f.type ((cs.drop f.offset).take (P.cellsOf f.type)) with
      | none=>simp [ha] at hm
      | some y=>
        cases hl:fs.mapM (fun f=>trod f.type ((cs.drop f.offset).take (P.cellsOf f.type))) with
        | none=>simp [ha,hl] at hm
        | some ys=>
          simp [ha,hl] at hm
          subst hm
          simp only [List.map_cons,absFs] at h
          split at h
          · rename_i us hb hu
            split at h
            · rename_i ws hlen hws
              cases h
              have hb:=Nat.eq_of_beq_eq_true hb
              have hlen:=Nat.eq_of_beq_eq_true hlen
              obtain ⟨d,p⟩:=y
              have r1:=hrec _ _ _ _ _ ha hu
              obtain ⟨k,r2,r3⟩:=absFs_rel hrec fs ys (o+P.cellsOf f.type) ws hl hws
              refine ⟨P.cellsOf f.type+k,?_,by simp [hlen,r3]⟩
              have:=r1.append r2
              rw [hb] at this
              have e:(cs.drop o).take (P.cellsOf f.type+k)=(cs.drop o).take (P.cellsOf f.type)++(cs.drop (o+P.cellsOf f.type)).take k:=by
                rw [List.take_add,List.drop_drop]
              rw [e]; exact this
            · cases h
          · cases h
theorem trod_rel (hdec : ∀ t v a, dec (enc (t, v)) = some a → VRel 0 ι (allH w) a v) : ∀ (fuel n : Nat) (t : TypeId) (cs : List Value) (d : DataW H) (ps : List MemPlace) (vs : List AVal),
    DataW.trod enc P w 0 sp held fuel t cs=some (d,ps)->absD P dec n t d=some vs->LRel 0 ι (allH w) vs cs
  | 0,_,_,_,_,_,_,h,_=>by cases h
  | fuel+1,0,_,_,_,_,_,_,h=>by cases h
  | fuel + 1, n + 1, t, cs, d, ps, vs, h, ha => by
      unfold DataW.trod at h
      unfold absD at ha
      split at h
      · rename_i b hu
        cases h
        simp only [hu] at ha
        cases ha
        exact .cons _ _ _ _ (.sc _) .nil
      · rename_i k k' m hu
        split at h
        · cases h
          simp only [hu] at ha
          rename_i hk
          obtain ⟨rfl,_⟩:=hk
          simp only [if_true] at ha
          cases ha
          exact .cons _ _ _ _ (.sc _) .nil
        · cases h
      · rename_i hu
        split at h
        · cases h
          simp only [hu] at ha
          cases ha
        · cases h
      · rename_i s hu
        split at h
        · cases h
          simp only [hu] at ha
          cases ha
          exact .cons _ _ _ _ (.sc _) .nil
        · cases h
      · rename_i hu
        cases h
        simp only [hu] at ha
        cases ha
      · rename_i hu
        simp only [Option.map_eq_some_iff] at h
        obtain ⟨x,_,hx⟩:=h
        cases hx
        simp only [hu] at ha
        cases ha
      · rename_i e hu
        cases h
        simp only [hu] at ha
        cases ha
        exact .cons _ _ _ _ (.sc _) .nil
      · -- a slice
        rename_i e a len cap hu
        simp only [] at h
        split at h
        · rename_i hc
          obtain ⟨_,hlc,_⟩:=hc
          rw [Option.bind_eq_some_iff] at h
          obtain ⟨elems,he,h⟩:=h
          rw [Option.map_eq_some_iff] at h
          obtain ⟨rest,_,h⟩:=h
          cases h
          obtain ⟨l1,l2⟩:=mapM_get he
          simp only [List.length_range] at l1
          simp only [hu] at ha
          split at ha
          · rename_i els hz hm
            cases ha
            obtain ⟨m1,m2⟩:=mapO_get hm
            simp only [Bool.or_eq_false_iff] at hz
            have hz1:0 < elems.length:=by
              have:elems.length≠0:=by intro e0; simp [e0] at hz
              omega
            have hz2:0 < P.cellsOf e:=by
              have:P.cellsOf e≠0:=by intro e0; simp [e0] at hz
              omega
            have elem : ∀ i ev, els[i]? = some ev → ∃ csi : List Value, csi.length = P.cellsOf e ∧ LRel 0 ι (allH w) ev.cells csi ∧ ev.cells.length = P.cellsOf e ∧
                (∀ k,k < P.cellsOf e->(allH w).cell? a.block (a.off+i*P.cellsOf e+k)=csi[k]?)/\(i=0->a.spot=none):=by
              intro i ev hev
              have hil:i < elems.length:=by
                rcases Nat.lt_or_ge i els.length with h'|h'
                · rw [m1] at h'; simpa using h'
                · rw [List.getElem?_eq_none h'] at hev; cases hev
              obtain ⟨y,y1,y2⟩:=l2 i i (by rw [l1] at hil; simp [hil])
              rw [Option.bind_eq_some_iff] at y2
              obtain ⟨csi,c1,c2⟩:=y2
              obtain ⟨z,z1,z2⟩:=m2 i y.1 (by simp [y1])
              rw [hev] at z1
              cases z1
              rw [Option.bind_eq_some_iff] at z2
              obtain ⟨vsi,v1,v2⟩:=z2
              split at v2
              · rename_i hlen
                obtain ⟨d',p'⟩:=y
                have r:=trod_rel hdec fuel n e csi d' p' vsi c2 v1
                have hcell:=wrapE_cells v2
                obtain ⟨q1,q2⟩:=cells?_get c1
                refine ⟨csi,q1,by rw [hcell]; exact r,by rw [hcell]; exact hlen,?_,?_⟩
                · intro k hk
                  obtain ⟨v,w1,w2⟩:=q2 k hk
                  have hb:(a.add (i*P.cellsOf e)).block=a.block:=by unfold Addr.add; split<;>rfl
                  have ho:(a.add (i*P.cellsOf e)).off=a.off+i*P.cellsOf e:=by unfold Addr.add; split<;>simp_all
                  have:=(cell?_add w2).1
                  rw [hb,ho] at this
                  rw [w1]; exact this
                · intro hi0
                  subst hi0
                  obtain ⟨v,w1,w2⟩:=q2 0 hz2
                  have:=(cell?_add w2).2 rfl
                  simpa [Addr.add] using this
              · cases v2
            have hspot:a.spot=none:=by
              have hpos:0 < els.length:=by rw [m1]; simpa using hz1
              obtain ⟨_,_,_,_,_,hs⟩:=elem 0 els[0] (by simp [hpos])
              exact hs rfl
            obtain ⟨ab,ao,as⟩:=a
            simp only at hspot
            subst hspot
            refine .cons _ _ _ _ (.data (P.cellsOf e) false els ab ao len cap (by rw [m1]; simp [l1]) hlc (by simp) ?_) .nil
            apply DRel.of_get
            intro i ev hev
            obtain ⟨csi,e1,e2,e3,e4,_⟩:=elem i ev hev
            refine ⟨CRel.of_list e2 ?_,e3⟩
            intro k hk
            exact e4 k (by omega)
          · cases ha
        · cases h
      · -- a struct
        rename_i cs fs hu
        split at h
        · rename_i hlen
          rw [Option.map_eq_some_iff] at h
          obtain ⟨xs,hm,h⟩:=h
          cases h
          simp only [hu] at ha
          split at ha
          · rename_i us hus
            split at ha
            · rename_i hul
              cases ha
              obtain ⟨k,r1,r2⟩:=absFs_rel (fun t cs d ps vs h1 h2=>trod_rel hdec fuel n t cs d ps vs h1 h2) fs.toList xs 0 vs hm hus
              have hk:k=P.cellsOf t:=by rw [<-r2,hul]
              rw [hk,<-hlen] at r1
              simpa using r1
            · cases ha
          · cases ha
        · cases h
      · -- an array
        rename_i hu
        split at h
        · rw [Option.map_eq_some_iff] at h
          obtain ⟨xs,_,h⟩:=h
          cases h
          simp only [hu] at ha
          cases ha
        · cases h
      all_goals first
        | (cases h; done)
        | (rename_i hu; cases h; simp only [hu] at ha; cases ha; done)
        | (rename_i hu; cases h; simp only [hu] at ha; cases ha; exact .cons _ _ _ _ (.sc _) .nil)
        | (rename_i hu; split at h <;> first
            | (cases h; done)
            | (cases h; simp only [hu] at ha; cases ha; done)
            | (cases h; simp only [hu] at ha; split at ha<;>first|(cases ha; done)|(rename_i hd; cases ha; exact .cons _ _ _ _ (hdec _ _ _ hd) .nil)))
        | (rename_i hu; clear h; cases d<;>simp only [hu] at ha<;>cases ha; done)
        | skip
end
end Abs
end
noncomputable section
namespace Abs
open Go
def Env.ofG (P:Program) (G:Nat->AVal) (w0:World):Env:=⟨P,G,tyOf P,tyOf_ok P,fnsOf P,fnsOf_ok P,nesOf P,nesOf_ok P,w0,none,[]⟩
theorem ftab_okG (P:Program) (G:Nat->AVal) (hG:∀ g,WF 0 (G g)) (imp:List Nat) (w0:World):FOk (Env.ofG P G w0) (ftab P imp):=⟨fun _ _ h=>h,(fun _ _ _ h=>by cases h),hG,(fun _ _ _ h=>by cases h)⟩
theorem Rel.startG (P:Program) (G:Nat->AVal) (w:World) (hG:∀ g,VRel 0 (fun _=>⟨0,0,0,0,0⟩) (allH w) (G g) (.pointer (some ⟨g,0,none⟩))):Rel (Env.ofG P G w) (fun _=>⟨0,0,0,0,0⟩) (allH w) empty w where
 imm c o h:=by
  unfold allH at h
  cases hc:w.heap[c]? with
  | none=>simp [hc] at h
  | some x=>simp [hc] at h; subst h; rfl
 live b x h:=by simp [AStore.fin empty b (Nat.zero_le _)] at h
 inj b b' x x' h:=by simp [AStore.fin empty b (Nat.zero_le _)] at h
 glob:=hG
 keep:=Same.refl _
 tys b t h:=by simp [empty] at h
def oneG (gi:Nat) (cs:List AVal) (g:Nat):AVal:=
 match Nat.beq g gi with
 | true=>.iptr cs
 | false=>plainG g
theorem oneG_wf {gi:Nat} {cs:List AVal} (h:sfvs cs=true) (g:Nat):WF 0 (oneG gi cs g):=by
 unfold oneG
 split
 ·exact .iptr cs (sfvs_wf h)
 ·exact .sc _
theorem oneG_rel {gi:Nat} {cs:List AVal} {w:World} {ι:Inj} {c:Array Value} {e:TypeId} {fr:Nat×Nat} (hh:w.heap[gi]?=some (.cells c e fr)) (h:LRel 0 ι (allH w) cs c.toList) (g:Nat):
  VRel 0 ι (allH w) (oneG gi cs g) (.pointer (some ⟨g,0,none⟩)):=by
 unfold oneG
 split
 ·rename_i hb
  have:=Nat.eq_of_beq_eq_true hb
  subst this
  refine .iptr cs g 0 (CRel.of_list h ?_)
  intro k hk
  rw [Nat.zero_add,allH_cell hh]
  simp
 ·exact .sc _
theorem bytes_inj' {a b:String} (h:a.toUTF8.data.toList=b.toUTF8.data.toList):a=b:=by
 have h1:a.toUTF8=b.toUTF8:=by
  have:=Array.toList_inj.1 h
  cases ha:a.toUTF8; cases hb:b.toUTF8
  rw [ha,hb] at this
  exact congrArg ByteArray.mk this
 exact String.toByteArray_inj.1 h1
def decF (P:Program):List (String×Nat)->List UInt8->Option AVal
 | [],_=>none
 | (s,f)::r,x=>if x=s.toUTF8.data.toList/\x≠[]/\P.funcNamed s=some f then some (.func (.func f) [] []) else decF P r x
theorem decF_ok {P:Program} {n:Nat} {ι:Inj} {HH:Imm}:∀ (l:List (String×Nat)) (t:TypeId) (v:Value) (a:AVal),decF P l (funcToken P (t,v))=some a->VRel n ι HH a v
  | [],t,v,a,h=>by cases h
  | (s, f) :: r, t, v, a, h => by
      unfold decF at h
      split at h
      · rename_i hc
        obtain ⟨h1,h2,h3⟩:=hc
        cases h
        cases hb:funcToken P (t,v) with
        | nil=>exact absurd hb h2
        | cons b bs=>
          obtain ⟨g,fn,e1,e2,e3,e4⟩:=funcToken_tells hb
          subst e1
          have:fn.name=s:=bytes_inj' (by rw [e4,<-hb,h1])
          rw [this,h3] at e3
          cases e3
          exact .func _ [] [] [] [] .nil .nil
      · exact decF_ok r t v a h
theorem funcsAt_rel {P:Program} {w:World} {n:String} {d:DataW Unit} (h:funcsAt P w n d) {g t k:Nat} {vs:List AVal} (hg:P.globalNamed n=some g) (ht:(P.globals[g]?).map (·.type)=some t)
  {tbl:List (String×Nat)} (ha:absD P (decF P tbl) k t d.funcsOut=some vs) {ι:Inj} (g':Nat):VRel 0 ι (allH w) (oneG g vs g') (.pointer (some ⟨g',0,none⟩)):=by
 obtain ⟨g0,t0,cs,fuel,p,e1,e2,e3,e4⟩:=h
 rw [hg] at e1
 cases e1
 rw [ht] at e2
 cases e2
 unfold World.var? at e3
 rw [hg] at e3
 simp only [Option.bind_some] at e3
 split at e3
 ·rename_i c e fr hh
  cases e3
  exact oneG_rel hh (trod_rel (fun t v a=>decF_ok tbl t v a) fuel k _ _ _ p vs e4 ha) g'
 ·cases e3
end Abs
end
