/- Part of the abstract layer; it proves no statement by itself. -/
import Derived.Test.YtkhjmhdpaikokaaGreatDoorAbsMm
set_option linter.unusedVariables false
set_option linter.unusedSimpArgs false
set_option linter.unusedSectionVars false
noncomputable section
namespace Abs
open Go
inductive Sh where
 | bool
 | int (k:IntKind)
 | str
 | slice (e:TypeId) (c:Nat) (agg:Bool)
 | struct (ts:List TypeId)
 | other
def contig (P:Program):List Field->Nat->Option Nat
 | [],o=>some o
 | f::fs,o=>match Nat.beq f.offset o with
  | true=>contig P fs (o+P.cellsOf f.type)
  | false=>none
def shape (P:Program) (t:TypeId):Sh:=
 match P.underlying t with
 | some .bool=>.bool
 | some (.int k)=>.int k
 | some .string=>.str
 | some (.slice e)=>match P.cellsOf e,isAggT P e with
  | c+1,true=>.slice e (c+1) true
  | 1,false=>.slice e 1 false
  | _,_=>.other
 | some (.struct fs)=>match contig P fs.toList 0 with
  | some n=>match Nat.beq n (P.cellsOf t) with
   | true=>.struct (fs.toList.map (·.type))
   | false=>.other
  | none=>.other
 | _=>.other
def HasL (rec:TypeId->List AVal->Prop) (P:Program):List TypeId->List AVal->Prop
 | [],vs=>vs=[]
 | t::ts,vs=>∃ a b,vs=a++b/\a.length=P.cellsOf t/\rec t a/\HasL rec P ts b
theorem LRel.scs {n:Nat} {ι:Inj} {H:Imm}:∀ (cs:List Value),LRel n ι H (cs.map .sc) cs
 | []=>.nil
 | c::cs=>.cons _ _ _ _ (.sc c) (LRel.scs cs)
section
variable {H:Type} {enc:TypeId×Value->H} {P:Program} {w:World} {sp:Nat->Bool} {held:Bool} {ι:Inj}
theorem contig_le:∀ {fs:List Field} {o n:Nat},contig P fs o=some n->o<=n
  | [],o,n,h=>by cases h; exact Nat.le_refl _
  | f :: fs, o, n, h => by
      unfold contig at h
      split at h
      · have:=contig_le h; omega
      · cases h
theorem choose_list {α:Type}:∀ (n:Nat) {p:Nat->α->Prop},(∀ i,i < n->∃ x,p i x)->∃ l:List α,l.length=n/\∀ i x,l[i]?=some x->p i x
  | 0,_,_=>⟨[],rfl,by simp⟩
  | n + 1, p, h => by
      obtain ⟨l,h1,h2⟩:=choose_list n (p:=p) (fun i hi=>h i (by omega))
      obtain ⟨x,hx⟩:=h n (by omega)
      refine ⟨l++[x],by simp [h1],?_⟩
      intro i y hy
      rw [List.getElem?_append] at hy
      split at hy
      · exact h2 i y hy
      · rename_i hi
        have:i=n:=by
          rcases Nat.lt_or_ge (i - l.length) 1 with h'|h'
          · omega
          · rw [List.getElem?_eq_none (by simpa using h')] at hy; cases hy
        subst this
        simp [h1] at hy
        subst hy; exact hx
end
end Abs
end
