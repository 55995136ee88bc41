/- Part of the abstract layer; it proves no statement by itself. -/
import Derived.Test.YtdbkkindfakbfaaGreatAbsZ
import GoSem.ClaimJoined
import Derived.LaidHandle
set_option linter.unusedVariables false
set_option linter.unusedSimpArgs false
set_option linter.unusedSectionVars false
noncomputable section
namespace Abs
open Go
structure Mem where
 f:FuncId
 args:List AVal
 ends:List AEnd
def findM (f:FuncId) (args:List AVal):List Mem->Option (List AEnd)
 | []=>none
 | m::ms=>
  match Nat.beq m.f f with
  | true=>match aeqs m.args args with
   | true=>some m.ends
   | false=>findM f args ms
  | false=>findM f args ms
theorem findM_some {f:FuncId} {args:List AVal} {es:List AEnd}:∀ {l:List Mem},findM f args l=some es->(⟨f,args,es⟩:Mem)∈l
  | [],h=>by cases h
  | m :: ms, h => by
      unfold findM at h
      split at h
      · rename_i h1
        split at h
        · rename_i h2
          cases h
          have e1:=Nat.eq_of_beq_eq_true h1
          have e2:=aeqs_eq h2
          subst e1 e2
          simp
        · exact List.mem_cons_of_mem _ (findM_some h)
      · exact List.mem_cons_of_mem _ (findM_some h)
def FTab.memo (F:FTab) (l:List Mem):FTab:=⟨F.fn,fun f args=>match findM f args l with
 | some es=>some es
 | none=>F.ctr f args,F.pure,F.fz,F.tz,F.ctrT⟩
def FTab.memoT (F:FTab) (l:List Mem):FTab:=⟨F.fn,F.ctr,F.pure,F.fz,F.tz,fun f args=>match findM f args l with
 | some es=>some es
 | none=>F.ctrT f args⟩
def eqEs:List AEnd->List AEnd->Bool
 | [],[]=>true
 | a::as,b::bs=>eqE a b && eqEs as bs
 | _,_=>false
theorem eqEs_eq:∀ {a b:List AEnd},eqEs a b=true->a=b
  | [],[],_=>rfl
  | [],_::_,h=>by cases h
  | _::_,[],h=>by cases h
  | a :: as, b :: bs, h => by
      simp only [eqEs,Bool.and_eq_true] at h
      have:a=b:=by
        have h1:=h.1
        cases a<;>cases b<;>simp only [eqE] at h1<;>first|cases h1; done|rw [aeq_eq h1]
      rw [this,eqEs_eq h.2]
def memOk (E:Env) (F:FTab) (n:Nat) (m:Mem):Bool:=
 match sfvs m.args with
 | true=>match xEnds (xCall E F n m.f m.args empty) with
  | some es=>eqEs es m.ends
  | none=>false
 | false=>false
theorem memOk_sound {E:Env} {F:FTab} (hrd:E.rd=none) (hF:FOk E F) {n:Nat} {m:Mem} (h:memOk E F n m=true) (σ:AStore):ACalls E m.f m.args σ fun e σ'=>σ'=σ/\e∈m.ends:=by
 unfold memOk at h
 split at h
 ·rename_i hs
  split at h
  ·rename_i es he
   have:=eqEs_eq h
   subst this
   cases hr:xCall E F n m.f m.args empty with
   | none=>rw [hr] at he; cases he
   | some os=>
    rw [hr] at he
    exact xEnds_sound hF.glob hs he ((x_sound hrd hF n).2.2.2.1 m.f m.args empty os hr) σ
  ·cases h
 ·cases h
def memOkT (E:Env) (F:FTab) (n:Nat) (m:Mem):Bool:=
 match xEndsO (xCall E F n m.f m.args empty) with
 | some es=>eqEs es m.ends
 | none=>false
theorem FOk.memoT {E:Env} {F:FTab} (hrd:E.rd=none) (hF:FOk E F) {n:Nat} {m:Mem} (h:memOkT E F n m=true):FOk E (F.memoT [m]):=by
 refine ⟨hF.fn,hF.ctr,hF.glob,?_⟩
 intro f args ends hc σ bs M args1 hz
 simp only [FTab.memoT] at hc
 split at hc
 ·rename_i es he
  cases hc
  have:=findM_some he
  simp at this
  subst this
  unfold memOkT at h
  split at h
  ·rename_i es' he'
   have:=eqEs_eq h
   subst this
   cases hr:xCall E F n f args empty with
   | none=>rw [hr] at he'; cases he'
   | some os=>
    rw [hr] at he'
    exact xEndsO_sound hF.glob he' ((x_sound hrd hF n).2.2.2.1 f args empty os hr) σ hz
  ·cases h
 ·exact hF.ctrT f args ends hc σ bs M args1 hz
end Abs
end
noncomputable section
namespace Abs
open Go
def allH (w:World):Imm:=fun c=>(w.heap[c]?).map (true,·)
theorem allH_cell {w:World} {b o:Nat} {c:Array Value} {e:TypeId} {f:Nat×Nat} (h:w.heap[b]?=some (.cells c e f)):(allH w).cell? b o=c[o]?:=by
 simp [Imm.cell?,allH,h]
theorem mapM_get {α β:Type} {f:α->Option β}:∀ {l:List α} {r:List β},l.mapM f=some r->r.length=l.length/\∀ (i:Nat) (x:α),l[i]?=some x->∃ y,r[i]?=some y/\f x=some y
  | [], r, h => by
      simp at h
      subst h
      exact ⟨rfl,by simp⟩
  | a :: l, r, h => by
      rw [List.mapM_cons] at h
      cases ha:f a with
      | none=>simp [ha] at h
      | some y=>
        cases hl:l.mapM f with
        | none=>simp [ha,hl] at h
        | some ys=>
          simp [ha,hl] at h
          subst h
          obtain ⟨h1,h2⟩:=mapM_get hl
          refine ⟨by simp [h1],?_⟩
          intro i x hx
          cases i with
          | zero=>simp at hx; subst hx; exact ⟨y,by simp,ha⟩
          | succ i=>simp at hx; obtain ⟨z,g1,g2⟩:=h2 i x hx; exact ⟨z,by simpa using g1,g2⟩
def isAggT (P:Program) (t:TypeId):Bool:=
 match P.underlying t with
 | some (.struct _)|some (.array _ _)=>true
 | _=>false
section
variable {H:Type}
theorem cells?_get {w:World} {base n:Nat} {a:Addr} {cs:List Value} (h:w.cells? base a n=some cs):cs.length=n/\∀ k,k < n->∃ v,cs[k]?=some v/\w.cell? (a.add k)=some v:=by
 unfold World.cells? at h
 split at h
 ·obtain ⟨h1,h2⟩:=mapM_get h
  refine ⟨by simpa using h1,fun k hk=>?_⟩
  exact h2 k k (by simp [hk])
 ·cases h
theorem cell?_add {w:World} {a:Addr} {k:Nat} {v:Value} (h:w.cell? (a.add k)=some v):(allH w).cell? a.block (a.off+k)=some v/\(k=0->a.spot=none):=by
 have hb:(a.add k).block=a.block:=by unfold Addr.add; split<;>rfl
 have ho:(a.add k).off=a.off+k:=by unfold Addr.add; split<;>simp_all
 unfold World.cell? at h
 rw [hb,ho] at h
 split at h
 ·rename_i c e f hc
  split at h
  ·cases h
  ·rename_i hs
   refine ⟨by rw [allH_cell hc]; exact h,?_⟩
   intro hk
   subst hk
   simpa [Addr.add] using hs
 ·cases h
variable {enc:TypeId×Value->H} {P:Program} {w:World} {dec:H->Option AVal} {sp:Nat->Bool} {held:Bool} {ι:Inj}
end
end Abs
end
noncomputable section
namespace Abs
open Go
end Abs
end
