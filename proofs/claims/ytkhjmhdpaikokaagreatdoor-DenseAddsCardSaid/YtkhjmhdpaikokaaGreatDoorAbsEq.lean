/- Part of the abstract layer; it proves no statement by itself. -/
import Derived.Test.YtkhjmhdpaikokaaGreatDoorAbsX
set_option linter.unusedVariables false
set_option linter.unusedSimpArgs false
set_option linter.unusedSectionVars false
noncomputable section
namespace Abs.Fr
open Go Abs
def lEq {α:Type} (f:α->α->Bool):List α->List α->Bool
 | [],[]=>true
 | a::as,b::bs=>f a b && lEq f as bs
 | _,_=>false
theorem lEq_eq {α:Type} {f:α->α->Bool} (hf:∀ a b,f a b=true->a=b):∀ {a b:List α},lEq f a b=true->a=b
 | [],[],_=>rfl
 | [],_::_,h=>by cases h
 | _::_,[],h=>by cases h
 | a::as,b::bs,h=>by
  simp only [lEq,Bool.and_eq_true] at h
  rw [hf a b h.1,lEq_eq hf h.2]
def arEq {α:Type} (f:α->α->Bool) (a b:Array α):Bool:=lEq f a.toList b.toList
theorem arEq_eq {α:Type} {f:α->α->Bool} (hf:∀ a b,f a b=true->a=b) {a b:Array α} (h:arEq f a b=true):a=b:=
 Array.toList_inj.1 (lEq_eq hf h)
def opEq {α:Type} (f:α->α->Bool):Option α->Option α->Bool
 | none,none=>true
 | some a,some b=>f a b
 | _,_=>false
theorem opEq_eq {α:Type} {f:α->α->Bool} (hf:∀ a b,f a b=true->a=b) {a b:Option α} (h:opEq f a b=true):a=b:=by
 cases a<;>cases b<;>simp_all [opEq]
 exact hf _ _ h
theorem nEq {a b:Nat} (h:Nat.beq a b=true):a=b:=Nat.eq_of_beq_eq_true h
def odEq:Operand->Operand->Bool
 | .tmp a,.tmp b=>Nat.beq a b
 | .const a,.const b=>scEq a b
 | .global a,.global b=>Nat.beq a b
 | .func a,.func b=>Nat.beq a b
 | _,_=>false
theorem odEq_eq (a b:Operand) (h:odEq a b=true):a=b:=by
 unfold odEq at h
 split at h
 ·rw [nEq h]
 ·rw [scEq_eq h]
 ·rw [nEq h]
 ·rw [nEq h]
 ·cases h
def clEq:Callee->Callee->Bool
 | .value a,.value b=>odEq a b
 | .builtin a,.builtin b=>decide (a=b)
 | .invoke a m,.invoke b n=>odEq a b && decide (m=n)
 | _,_=>false
theorem clEq_eq (a b:Callee) (h:clEq a b=true):a=b:=by
 unfold clEq at h
 split at h
 ·rw [odEq_eq _ _ h]
 ·rw [of_decide_eq_true h]
 ·simp only [Bool.and_eq_true] at h; rw [odEq_eq _ _ h.1,of_decide_eq_true h.2]
 ·cases h
def caEq (a b:Call):Bool:=clEq a.callee b.callee && (arEq odEq a.args b.args && arEq Nat.beq a.argTypes b.argTypes)
theorem caEq_eq (a b:Call) (h:caEq a b=true):a=b:=by
 cases a; cases b
 simp only [caEq,Bool.and_eq_true] at h
 obtain ⟨h1,h2,h3⟩:=h
 rw [clEq_eq _ _ h1,arEq_eq odEq_eq h2,arEq_eq (fun _ _ h=>nEq h) h3]
def paEq (a b:Nat×Operand):Bool:=Nat.beq a.1 b.1 && odEq a.2 b.2
theorem paEq_eq (a b:Nat×Operand) (h:paEq a b=true):a=b:=by
 cases a; cases b
 simp only [paEq,Bool.and_eq_true] at h
 rw [nEq h.1,odEq_eq _ _ h.2]
def fnEq:Fn->Fn->Bool
 | .func f,.func g=>Nat.beq f g
 | _,_=>false
theorem fnEq_eq (a b:Fn) (h:fnEq a b=true):a=b:=by
 unfold fnEq at h
 split at h
 ·rw [nEq h]
 ·cases h
def oEq:Op->Op->Bool
 | .makeFunc f a b,.makeFunc f' a' b'=>fnEq f f' && arEq odEq a a' && arEq odEq b b'
 | .typeAssert x t u b,.typeAssert x' t' u' b'=>odEq x x' && Nat.beq t t' && Nat.beq u u' && (b==b')
 | .insert t a b c,.insert t' a' b' c'=>Nat.beq t t' && odEq a a' && odEq b b' && odEq c c'
 | .mapEntry t a b,.mapEntry t' a' b'=>Nat.beq t t' && odEq a a' && odEq b b'
 | .entryStore t a b c,.entryStore t' a' b' c'=>Nat.beq t t' && odEq a a' && odEq b b' && odEq c c'
 | .move a,.move b=>odEq a b
 | .assign a,.assign b=>odEq a b
 | .pick a b c,.pick a' b' c'=>odEq a a' && odEq b b' && odEq c c'
 | .alloc t,.alloc t'=>Nat.beq t t'
 | .box t a,.box t' a'=>Nat.beq t t' && odEq a a'
 | .build t ps,.build t' ps'=>Nat.beq t t' && arEq paEq ps ps'
 | .buildSlice t n ps,.buildSlice t' n' ps'=>Nat.beq t t' && Nat.beq n n' && arEq paEq ps ps'
 | .load t a,.load t' a'=>Nat.beq t t' && odEq a a'
 | .store t a b,.store t' a' b'=>Nat.beq t t' && odEq a a' && odEq b b'
 | .nilCheck a,.nilCheck b=>odEq a b
 | .binOp o t a b u,.binOp o' t' a' b' u'=>decide (o=o') && Nat.beq t t' && odEq a a' && odEq b b' && Nat.beq u u'
 | .unOp o t a,.unOp o' t' a'=>decide (o=o') && Nat.beq t t' && odEq a a'
 | .convert t u a,.convert t' u' a'=>Nat.beq t t' && Nat.beq u u' && odEq a a'
 | .makeInterface t a,.makeInterface t' a'=>Nat.beq t t' && odEq a a'
 | .makeSlice t a b,.makeSlice t' a' b'=>Nat.beq t t' && odEq a a' && odEq b b'
 | .makeMap t a,.makeMap t' a'=>Nat.beq t t' && opEq odEq a a'
 | .slice t a b c d,.slice t' a' b' c' d'=>Nat.beq t t' && odEq a a' && opEq odEq b b' && opEq odEq c c' && opEq odEq d d'
 | .fieldAddr t a f,.fieldAddr t' a' f'=>Nat.beq t t' && odEq a a' && Nat.beq f f'
 | .field t a f,.field t' a' f'=>Nat.beq t t' && odEq a a' && Nat.beq f f'
 | .indexAddr t a b,.indexAddr t' a' b'=>Nat.beq t t' && odEq a a' && odEq b b'
 | .index t a b,.index t' a' b'=>Nat.beq t t' && odEq a a' && odEq b b'
 | .lookup t a b c,.lookup t' a' b' c'=>Nat.beq t t' && odEq a a' && odEq b b' && (c==c')
 | .mapUpdate t a b c,.mapUpdate t' a' b' c'=>Nat.beq t t' && odEq a a' && odEq b b' && odEq c c'
 | .range t a,.range t' a'=>Nat.beq t t' && odEq a a'
 | .next a b,.next a' b'=>odEq a a' && (b==b')
 | .entry a,.entry a'=>odEq a a'
 | .extract a i,.extract a' i'=>odEq a a' && Nat.beq i i'
 | .call c,.call c'=>caEq c c'
 | .defer c,.defer c'=>caEq c c'
 | .panic a,.panic a'=>odEq a a'
 | _,_=>false
theorem oEq_eq (a b:Op) (h:oEq a b=true):a=b:=by
  unfold oEq at h
  split at h
  all_goals first
    | (cases h; done)
    | ((first|(replace h:=nEq h; subst h)|(replace h:=odEq_eq _ _ h; subst h)|(replace h:=arEq_eq paEq_eq h; subst h)|(replace h:=arEq_eq odEq_eq h; subst h)|(replace h:=fnEq_eq _ _ h; subst h)|(replace h:=opEq_eq odEq_eq h; subst h)|(replace h:=caEq_eq _ _ h; subst h)|(replace h:=of_decide_eq_true h; subst h)|(replace h:=eq_of_beq h; subst h)); rfl)
    | (try simp only [Bool.and_eq_true] at h
       first
        | (obtain ⟨⟨⟨⟨h1,h2⟩,h3⟩,h4⟩,h5⟩:=h; (first|(replace h1:=nEq h1; subst h1)|(replace h1:=odEq_eq _ _ h1; subst h1)|(replace h1:=arEq_eq paEq_eq h1; subst h1)|(replace h1:=arEq_eq odEq_eq h1; subst h1)|(replace h1:=fnEq_eq _ _ h1; subst h1)|(replace h1:=opEq_eq odEq_eq h1; subst h1)|(replace h1:=caEq_eq _ _ h1; subst h1)|(replace h1:=of_decide_eq_true h1; subst h1)|(replace h1:=eq_of_beq h1; subst h1)); (first|(replace h2:=nEq h2; subst h2)|(replace h2:=odEq_eq _ _ h2; subst h2)|(replace h2:=arEq_eq paEq_eq h2; subst h2)|(replace h2:=arEq_eq odEq_eq h2; subst h2)|(replace h2:=fnEq_eq _ _ h2; subst h2)|(replace h2:=opEq_eq odEq_eq h2; subst h2)|(replace h2:=caEq_eq _ _ h2; subst h2)|(replace h2:=of_decide_eq_true h2; subst h2)|(replace h2:=eq_of_beq h2; subst h2)); (first|(replace h3:=nEq h3; subst h3)|(replace h3:=odEq_eq _ _ h3; subst h3)|(replace h3:=arEq_eq paEq_eq h3; subst h3)|(replace h3:=arEq_eq odEq_eq h3; subst h3)|(replace h3:=fnEq_eq _ _ h3; subst h3)|(replace h3:=opEq_eq odEq_eq h3; subst h3)|(replace h3:=caEq_eq _ _ h3; subst h3)|(replace h3:=of_decide_eq_true h3; subst h3)|(replace h3:=eq_of_beq h3; subst h3)); (first|(replace h4:=nEq h4; subst h4)|(replace h4:=odEq_eq _ _ h4; subst h4)|(replace h4:=arEq_eq paEq_eq h4; subst h4)|(replace h4:=arEq_eq odEq_eq h4; subst h4)|(replace h4:=fnEq_eq _ _ h4; subst h4)|(replace h4:=opEq_eq odEq_eq h4; subst h4)|(replace h4:=caEq_eq _ _ h4; subst h4)|(replace h4:=of_decide_eq_true h4; subst h4)|(replace h4:=eq_of_beq h4; subst h4)); (first|(replace h5:=nEq h5; subst h5)|(replace h5:=odEq_eq _ _ h5; subst h5)|(replace h5:=arEq_eq paEq_eq h5; subst h5)|(replace h5:=arEq_eq odEq_eq h5; subst h5)|(replace h5:=fnEq_eq _ _ h5; subst h5)|(replace h5:=opEq_eq odEq_eq h5; subst h5)|(replace h5:=caEq_eq _ _ h5; subst h5)|(replace h5:=of_decide_eq_true h5; subst h5)|(replace h5:=eq_of_beq h5; subst h5)); rfl)
        | (obtain ⟨⟨⟨h1,h2⟩,h3⟩,h4⟩:=h; (first|(replace h1:=nEq h1; subst h1)|(replace h1:=odEq_eq _ _ h1; subst h1)|(replace h1:=arEq_eq paEq_eq h1; subst h1)|(replace h1:=arEq_eq odEq_eq h1; subst h1)|(replace h1:=fnEq_eq _ _ h1; subst h1)|(replace h1:=opEq_eq odEq_eq h1; subst h1)|(replace h1:=caEq_eq _ _ h1; subst h1)|(replace h1:=of_decide_eq_true h1; subst h1)|(replace h1:=eq_of_beq h1; subst h1)); (first|(replace h2:=nEq h2; subst h2)|(replace h2:=odEq_eq _ _ h2; subst h2)|(replace h2:=arEq_eq paEq_eq h2; subst h2)|(replace h2:=arEq_eq odEq_eq h2; subst h2)|(replace h2:=fnEq_eq _ _ h2; subst h2)|(replace h2:=opEq_eq odEq_eq h2; subst h2)|(replace h2:=caEq_eq _ _ h2; subst h2)|(replace h2:=of_decide_eq_true h2; subst h2)|(replace h2:=eq_of_beq h2; subst h2)); (first|(replace h3:=nEq h3; subst h3)|(replace h3:=odEq_eq _ _ h3; subst h3)|(replace h3:=arEq_eq paEq_eq h3; subst h3)|(replace h3:=arEq_eq odEq_eq h3; subst h3)|(replace h3:=fnEq_eq _ _ h3; subst h3)|(replace h3:=opEq_eq odEq_eq h3; subst h3)|(replace h3:=caEq_eq _ _ h3; subst h3)|(replace h3:=of_decide_eq_true h3; subst h3)|(replace h3:=eq_of_beq h3; subst h3)); (first|(replace h4:=nEq h4; subst h4)|(replace h4:=odEq_eq _ _ h4; subst h4)|(replace h4:=arEq_eq paEq_eq h4; subst h4)|(replace h4:=arEq_eq odEq_eq h4; subst h4)|(replace h4:=fnEq_eq _ _ h4; subst h4)|(replace h4:=opEq_eq odEq_eq h4; subst h4)|(replace h4:=caEq_eq _ _ h4; subst h4)|(replace h4:=of_decide_eq_true h4; subst h4)|(replace h4:=eq_of_beq h4; subst h4)); rfl)
        | (obtain ⟨⟨h1,h2⟩,h3⟩:=h; (first|(replace h1:=nEq h1; subst h1)|(replace h1:=odEq_eq _ _ h1; subst h1)|(replace h1:=arEq_eq paEq_eq h1; subst h1)|(replace h1:=arEq_eq odEq_eq h1; subst h1)|(replace h1:=fnEq_eq _ _ h1; subst h1)|(replace h1:=opEq_eq odEq_eq h1; subst h1)|(replace h1:=caEq_eq _ _ h1; subst h1)|(replace h1:=of_decide_eq_true h1; subst h1)|(replace h1:=eq_of_beq h1; subst h1)); (first|(replace h2:=nEq h2; subst h2)|(replace h2:=odEq_eq _ _ h2; subst h2)|(replace h2:=arEq_eq paEq_eq h2; subst h2)|(replace h2:=arEq_eq odEq_eq h2; subst h2)|(replace h2:=fnEq_eq _ _ h2; subst h2)|(replace h2:=opEq_eq odEq_eq h2; subst h2)|(replace h2:=caEq_eq _ _ h2; subst h2)|(replace h2:=of_decide_eq_true h2; subst h2)|(replace h2:=eq_of_beq h2; subst h2)); (first|(replace h3:=nEq h3; subst h3)|(replace h3:=odEq_eq _ _ h3; subst h3)|(replace h3:=arEq_eq paEq_eq h3; subst h3)|(replace h3:=arEq_eq odEq_eq h3; subst h3)|(replace h3:=fnEq_eq _ _ h3; subst h3)|(replace h3:=opEq_eq odEq_eq h3; subst h3)|(replace h3:=caEq_eq _ _ h3; subst h3)|(replace h3:=of_decide_eq_true h3; subst h3)|(replace h3:=eq_of_beq h3; subst h3)); rfl)
        | (obtain ⟨h1,h2⟩:=h; (first|(replace h1:=nEq h1; subst h1)|(replace h1:=odEq_eq _ _ h1; subst h1)|(replace h1:=arEq_eq paEq_eq h1; subst h1)|(replace h1:=arEq_eq odEq_eq h1; subst h1)|(replace h1:=fnEq_eq _ _ h1; subst h1)|(replace h1:=opEq_eq odEq_eq h1; subst h1)|(replace h1:=caEq_eq _ _ h1; subst h1)|(replace h1:=of_decide_eq_true h1; subst h1)|(replace h1:=eq_of_beq h1; subst h1)); (first|(replace h2:=nEq h2; subst h2)|(replace h2:=odEq_eq _ _ h2; subst h2)|(replace h2:=arEq_eq paEq_eq h2; subst h2)|(replace h2:=arEq_eq odEq_eq h2; subst h2)|(replace h2:=fnEq_eq _ _ h2; subst h2)|(replace h2:=opEq_eq odEq_eq h2; subst h2)|(replace h2:=caEq_eq _ _ h2; subst h2)|(replace h2:=of_decide_eq_true h2; subst h2)|(replace h2:=eq_of_beq h2; subst h2)); rfl))
def edEq (a b:Edge):Bool:=Nat.beq a.on b.on && decide (a.ground=b.ground)
theorem edEq_eq (a b:Edge) (h:edEq a b=true):a=b:=by
 cases a; cases b
 unfold edEq at h
 rw [Bool.and_eq_true] at h
 obtain ⟨h1,h2⟩:=h
 (first|(replace h1:=nEq h1; subst h1)|(replace h1:=odEq_eq _ _ h1; subst h1)|(replace h1:=arEq_eq paEq_eq h1; subst h1)|(replace h1:=arEq_eq odEq_eq h1; subst h1)|(replace h1:=fnEq_eq _ _ h1; subst h1)|(replace h1:=opEq_eq odEq_eq h1; subst h1)|(replace h1:=caEq_eq _ _ h1; subst h1)|(replace h1:=of_decide_eq_true h1; subst h1)|(replace h1:=eq_of_beq h1; subst h1)); (first|(replace h2:=nEq h2; subst h2)|(replace h2:=odEq_eq _ _ h2; subst h2)|(replace h2:=arEq_eq paEq_eq h2; subst h2)|(replace h2:=arEq_eq odEq_eq h2; subst h2)|(replace h2:=fnEq_eq _ _ h2; subst h2)|(replace h2:=opEq_eq odEq_eq h2; subst h2)|(replace h2:=caEq_eq _ _ h2; subst h2)|(replace h2:=of_decide_eq_true h2; subst h2)|(replace h2:=eq_of_beq h2; subst h2)); rfl
def guEq (a b:Nat×Bool):Bool:=Nat.beq a.1 b.1 && (a.2==b.2)
theorem guEq_eq (a b:Nat×Bool) (h:guEq a b=true):a=b:=by
 cases a; cases b
 unfold guEq at h
 rw [Bool.and_eq_true] at h
 obtain ⟨h1,h2⟩:=h
 (first|(replace h1:=nEq h1; subst h1)|(replace h1:=odEq_eq _ _ h1; subst h1)|(replace h1:=arEq_eq paEq_eq h1; subst h1)|(replace h1:=arEq_eq odEq_eq h1; subst h1)|(replace h1:=fnEq_eq _ _ h1; subst h1)|(replace h1:=opEq_eq odEq_eq h1; subst h1)|(replace h1:=caEq_eq _ _ h1; subst h1)|(replace h1:=of_decide_eq_true h1; subst h1)|(replace h1:=eq_of_beq h1; subst h1)); (first|(replace h2:=nEq h2; subst h2)|(replace h2:=odEq_eq _ _ h2; subst h2)|(replace h2:=arEq_eq paEq_eq h2; subst h2)|(replace h2:=arEq_eq odEq_eq h2; subst h2)|(replace h2:=fnEq_eq _ _ h2; subst h2)|(replace h2:=opEq_eq odEq_eq h2; subst h2)|(replace h2:=caEq_eq _ _ h2; subst h2)|(replace h2:=of_decide_eq_true h2; subst h2)|(replace h2:=eq_of_beq h2; subst h2)); rfl
def orEq (a b:Oper):Bool:=opEq Nat.beq a.dst b.dst && (oEq a.op b.op && (Nat.beq a.type b.type && (arEq edEq a.after b.after && (opEq guEq a.guard b.guard && decide (a.pos=b.pos)))))
theorem orEq_eq (a b:Oper) (h:orEq a b=true):a=b:=by
 cases a; cases b
 unfold orEq at h
 simp only [Bool.and_eq_true] at h
 obtain ⟨h1,h2,h3,h4,h5,h6⟩:=h
 have e1:=opEq_eq (fun _ _ h=>nEq h) h1
 have e2:=oEq_eq _ _ h2
 have e3:=nEq h3
 have e4:=arEq_eq edEq_eq h4
 have e5:=opEq_eq guEq_eq h5
 have e6:=of_decide_eq_true h6
 subst e1 e2 e3 e4 e5 e6
 rfl
def cEq:Code->Code->Bool
 | .skip,.skip=>true
 | .region i ops d,.region j ops' d'=>Nat.beq i j && ((d==d') && arEq orEq ops ops')
 | .seq a b,.seq a' b'=>cEq a a' && cEq b b'
 | .cond c a b,.cond c' a' b'=>odEq c c' && (cEq a a' && cEq b b')
 | .block i a,.block j b=>Nat.beq i j && cEq a b
 | .loop a,.loop b=>cEq a b
 | .scope a,.scope b=>cEq a b
 | .rangeFunc f ps a b,.rangeFunc f' ps' a' b'=>odEq f f' && (arEq Nat.beq ps ps' && (cEq a a' && cEq b b'))
 | .exit i,.exit j=>Nat.beq i j
 | .label i,.label j=>Nat.beq i j
 | .goto i,.goto j=>Nat.beq i j
 | .ret,.ret=>true
 | _,_=>false
theorem cEq_eq:∀ (a b:Code),cEq a b=true->a=b
 | .skip,b,h=>by cases b<;>first|rfl|cases h
 | .ret,b,h=>by cases b<;>first|rfl|cases h
 | .refuse _,b,h=>by cases b<;>cases h
 | .exit i,b,h=>by cases b<;>first|(cases h; done)|(unfold cEq at h; rw [nEq h])
 | .label i,b,h=>by cases b<;>first|(cases h; done)|(unfold cEq at h; rw [nEq h])
 | .goto i,b,h=>by cases b<;>first|(cases h; done)|(unfold cEq at h; rw [nEq h])
 | .loop a,b,h=>by cases b<;>first|(cases h; done)|(unfold cEq at h; rw [cEq_eq _ _ h])
 | .scope a,b,h=>by cases b<;>first|(cases h; done)|(unfold cEq at h; rw [cEq_eq _ _ h])
 | .block i a,b,h=>by cases b<;>first|(cases h; done)|(unfold cEq at h; rw [Bool.and_eq_true] at h; rw [nEq h.1,cEq_eq _ _ h.2])
 | .seq x y,b,h=>by cases b<;>first|(cases h; done)|(unfold cEq at h; rw [Bool.and_eq_true] at h; rw [cEq_eq _ _ h.1,cEq_eq _ _ h.2])
 | .cond c x y,b,h=>by cases b<;>first|(cases h; done)|(unfold cEq at h; rw [Bool.and_eq_true,Bool.and_eq_true] at h; rw [odEq_eq _ _ h.1,cEq_eq _ _ h.2.1,cEq_eq _ _ h.2.2])
 | .region i ops d,b,h=>by cases b<;>first|(cases h; done)|(unfold cEq at h; rw [Bool.and_eq_true,Bool.and_eq_true] at h; rw [nEq h.1,eq_of_beq h.2.1,arEq_eq orEq_eq h.2.2])
 | .rangeFunc f ps x y,b,h=>by cases b<;>first|(cases h; done)|(unfold cEq at h; rw [Bool.and_eq_true,Bool.and_eq_true,Bool.and_eq_true] at h; rw [odEq_eq _ _ h.1,arEq_eq (fun _ _ h=>nEq h) h.2.1,cEq_eq _ _ h.2.2.1,cEq_eq _ _ h.2.2.2])
end Abs.Fr
end
