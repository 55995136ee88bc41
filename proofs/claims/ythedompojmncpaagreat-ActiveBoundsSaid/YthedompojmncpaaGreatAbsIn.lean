/- Part of the abstract layer; it proves no statement by itself. -/
import Derived.Test.YthedompojmncpaaGreatAbsZ
import GoSem.ClaimJoined
noncomputable section
namespace Abs
set_option linter.unusedVariables false
set_option linter.unusedSimpArgs false
set_option linter.unusedSectionVars false
open Go
def allH (w:World):Imm:=fun c=>(w.heap[c]?).map (true,·)
theorem allH_cell {w:World} {b o:Nat} {c:Array Value} {e:TypeId} {f:Nat×Nat} (h:w.heap[b]?=some (.cells c e f)):(allH w).cell? b o=c[o]?:=by
 simp [Imm.cell?,allH,h]
theorem mapM_get {α β:Type} {f:α->Option β}:∀ {l:List α} {r:List β},l.mapM f=some r->r.length=l.length/\∀ (i:Nat) (x:α),l[i]?=some x->∃ y,r[i]?=some y/\f x=some y
  | [], r, h => by
      simp at h
      subst h
      exact ⟨rfl,by simp⟩
  | a :: l, r, h => by
      rw [List.mapM_cons] at h
      cases ha:f a with
      | none=>simp [ha] at h
      | some y=>
        cases hl:l.mapM f with
        | none=>simp [ha,hl] at h
        | some ys=>
          simp [ha,hl] at h
          subst h
          obtain ⟨h1,h2⟩:=mapM_get hl
          refine ⟨by simp [h1],?_⟩
          intro i x hx
          cases i with
          | zero=>simp at hx; subst hx; exact ⟨y,by simp,ha⟩
          | succ i=>simp at hx; obtain ⟨z,g1,g2⟩:=h2 i x hx; exact ⟨z,by simpa using g1,g2⟩
def isAggT (P:Program) (t:TypeId):Bool:=
 match P.underlying t with
 | some (.struct _)|some (.array _ _)=>true
 | _=>false
section
variable {H:Type}
theorem cells?_get {w:World} {base n:Nat} {a:Addr} {cs:List Value} (h:w.cells? base a n=some cs):cs.length=n/\∀ k,k < n->∃ v,cs[k]?=some v/\w.cell? (a.add k)=some v:=by
 unfold World.cells? at h
 split at h
 ·obtain ⟨h1,h2⟩:=mapM_get h
  refine ⟨by simpa using h1,fun k hk=>?_⟩
  exact h2 k k (by simp [hk])
 ·cases h
theorem cell?_add {w:World} {a:Addr} {k:Nat} {v:Value} (h:w.cell? (a.add k)=some v):(allH w).cell? a.block (a.off+k)=some v/\(k=0->a.spot=none):=by
 have hb:(a.add k).block=a.block:=by unfold Addr.add; split<;>rfl
 have ho:(a.add k).off=a.off+k:=by unfold Addr.add; split<;>simp_all
 unfold World.cell? at h
 rw [hb,ho] at h
 split at h
 ·rename_i c e f hc
  split at h
  ·cases h
  ·rename_i hs
   refine ⟨by rw [allH_cell hc]; exact h,?_⟩
   intro hk
   subst hk
   simpa [Addr.add] using hs
 ·cases h
variable {enc:TypeId×Value->H} {P:Program} {w:World} {dec:H->Option AVal} {sp:Nat->Bool} {held:Bool} {ι:Inj}
end
end Abs
end
