/- Part of the abstract layer; it proves no statement by itself. -/
import Derived.Test.YtkhjmhdpaikokaaGreatDoorAbsRow
import Derived.Test.YtkhjmhdpaikokaaGreatDoorAbsV3
set_option linter.unusedVariables false
set_option linter.unusedSimpArgs false
set_option linter.unusedSectionVars false
noncomputable section
namespace Abs
open Go
section
variable {E:Env} {n:Nat} {ds:List ADef}
end
section
variable {E:Env} {ops:Array Oper} {anc:List (Nat×Nat)} {K:SPred} {recs:List SRec} {e:Ev} {q:Bool} {σ:AStore} {k:List SRec->Ev->Bool->AStore->Prop}
end
end Abs
end
noncomputable section
namespace Abs
open Go
attribute [go_sem] Nat.testBit_eq_decide_div_mod_eq decide_true decide_false if_true if_false Bool.not_true Bool.not_false Bool.and_true Bool.true_and Bool.and_self and_true true_and and_self or_true true_or List.length_cons List.length_nil List.drop_zero List.drop_succ_cons List.drop_nil List.take_succ_cons List.take_zero List.take_nil List.getElem?_cons_zero List.getElem?_cons_succ List.getElem?_nil List.set_cons_zero List.set_cons_succ List.all_cons List.all_nil List.map_cons List.map_nil Option.bind_some Option.map_some Option.isSome_some Int.toNat_natCast Nat.zero_add Nat.add_zero Nat.one_mul Nat.mul_one Nat.le_refl Int.le_refl Nat.zero_le not_true_eq_false not_false_eq_true ne_eq eq_self Nat.succ_ne_zero List.replicate_succ List.replicate_zero Bool.false_eq_true List.nil_append List.cons_append Nat.le_add_left Nat.lt_add_one Nat.lt_irrefl Nat.add_eq_zero_iff false_and and_false Nat.add_left_cancel_iff Nat.add_right_cancel_iff List.length_append List.length_map List.length_replicate List.length_set List.getElem?_map
attribute [go_sem] putR_ret
end Abs
end
noncomputable section
namespace Abs
open Go
section
variable {E:Env} {n:Nat} {ds:List ADef}
end
section
variable {E:Env} {ops:Array Oper} {anc:List (Nat×Nat)} {K:SPred} {recs:List SRec} {e:Ev} {q:Bool} {σ:AStore}
end
end Abs
end
noncomputable section
namespace Abs
open Go
attribute [go_sem] reduceIte Nat.reduceEqDiff Nat.reduceAdd Nat.reduceSub Nat.reduceMul Nat.reducePow Nat.reduceDiv Nat.reduceMod Nat.reduceBEq Nat.reduceBNe Nat.reduceLT Nat.reduceLeDiff Int.reduceToNat reduceCtorEq
theorem dcf {p:Prop} [i:Decidable p] (h:¬ p):decide p=false:=decide_eq_false h
theorem dct {p:Prop} [i:Decidable p] (h:p):decide p=true:=decide_eq_true h
class Spl (G:Prop) (D₁ P₁ D₂ P₂ A B:outParam Prop):Prop where
 imp:(D₁/\P₁->A)->(D₂/\P₂->B)->G
class SplZ (G:Prop) (E:outParam Env) (e:outParam Ev) (c:outParam Operand) (A B:outParam Prop):Prop where
 dec:∀ (P:Prop) (i:Decidable P),evE E.G e c=some (.sc (.bool (decide P)))->(P->A)->(¬ P->B)->G
 ndec:∀ (P:Prop) (i:Decidable P),evE E.G e c=some (.sc (.bool (!decide P)))->(¬ P->A)->(P->B)->G
section
variable {E:Env} {n:Nat} {c:Operand} {x y z:Code} {Q:SPred} {e:Ev} {σ:AStore} {P:Prop} {p q:Prop}
instance {i:Decidable P}:Spl (vIf (some (some (decide P))) true p q) (decide P=true) P (decide P=false) (¬ P) p q:=⟨fun h1 h2=>vIf_dec (fun h=>h1 ⟨dct h,h⟩) (fun h=>h2 ⟨dcf h,h⟩)⟩
instance {i:Decidable P}:Spl (vIf (some (some (decide P))) false p q) (decide P=false) (¬ P) (decide P=true) P p q:=⟨fun h1 h2=>vIf_decf (fun h=>h1 ⟨dcf h,h⟩) (fun h=>h2 ⟨dct h,h⟩)⟩
instance {i:Decidable P}:Spl (vIf (some (some (!decide P))) true p q) (decide P=false) (¬ P) (decide P=true) P p q:=⟨fun h1 h2=>vIf_ndec (fun h=>h1 ⟨dcf h,h⟩) (fun h=>h2 ⟨dct h,h⟩)⟩
instance {i:Decidable P}:Spl (vIf (some (some (!decide P))) false p q) (decide P=true) P (decide P=false) (¬ P) p q:=⟨fun h1 h2=>vIf_ndecf (fun h=>h1 ⟨dct h,h⟩) (fun h=>h2 ⟨dcf h,h⟩)⟩
instance:SplZ (Z E n (.cond c x y) Q e σ) E e c (V E n x Q e σ) (V E n y Q e σ):=⟨fun _ _ hb h1 h2=>Z_dec hb h1 h2,fun _ _ hb h1 h2=>Z_ndec hb h1 h2⟩
instance:SplZ (Z E n (.seq (.cond c x y) z) Q e σ) E e c (V E n x (thenS (V E n z Q) Q) e σ) (V E n y (thenS (V E n z Q) Q) e σ):=⟨fun _ _ hb h1 h2=>Zs_dec hb h1 h2,fun _ _ hb h1 h2=>Zs_ndec hb h1 h2⟩
theorem vy1 {G D₁ P₁ D₂ P₂ A B:Prop} [s:Spl G D₁ P₁ D₂ P₂ A B] (h1:D₁/\P₁->A) (h2:D₂/\P₂->B):G:=s.imp h1 h2
theorem vz2 {G A B:Prop} [s:SplZ G E e c A B] {i:Decidable P} (h1:P->A) (h2:¬ P->B) (hb:evE E.G e c=some (.sc (.bool (decide P))):=by exact rfl):G:=s.dec P i hb h1 h2
theorem vz3 {G A B:Prop} [s:SplZ G E e c A B] {i:Decidable P} (h1:¬ P->A) (h2:P->B) (hb:evE E.G e c=some (.sc (.bool (!decide P))):=by exact rfl):G:=s.ndec P i hb h1 h2
theorem vy2 {G A B:Prop} [s:SplZ G E e c A B] {i:Decidable P} (h1:decide P=true/\P->A) (h2:decide P=false/\¬ P->B) (hb:evE E.G e c=some (.sc (.bool (decide P))):=by exact rfl):G:=s.dec P i hb (fun h=>h1 ⟨dct h,h⟩) (fun h=>h2 ⟨dcf h,h⟩)
theorem vy3 {G A B:Prop} [s:SplZ G E e c A B] {i:Decidable P} (h1:decide P=false/\¬ P->A) (h2:decide P=true/\P->B) (hb:evE E.G e c=some (.sc (.bool (!decide P))):=by exact rfl):G:=s.ndec P i hb (fun h=>h1 ⟨dcf h,h⟩) (fun h=>h2 ⟨dct h,h⟩)
theorem vzt (h1:V E n x Q e σ) (hb:evE E.G e c=some (.sc (.bool true)):=by exact rfl):Z E n (.cond c x y) Q e σ:=Z_true hb h1
theorem vzf (h1:V E n y Q e σ) (hb:evE E.G e c=some (.sc (.bool false)):=by exact rfl):Z E n (.cond c x y) Q e σ:=Z_false hb h1
theorem vsb {id:Nat} {c y:Code} (h:V E n c (blkS id (thenS (V E n y Q) Q)) e σ):Z E n (.seq (.block id c) y) Q e σ:=Z_seq_block h
theorem vzb {id:Nat} {c:Code} (h:V E n c (blkS id Q) e σ):Z E n (.block id c) Q e σ:=Z_block h
theorem vzq {x y:Code} (h:V E n x (thenS (V E n y Q) Q) e σ):Z E n (.seq x y) Q e σ:=Z_seq h
theorem vz {G H:Prop} (h:H) (r:H->G:=by first|exact fun h=>vzt h|exact fun h=>vzf h|exact vsb|exact vzb|exact vzq):G:=r h
theorem vif {G P₁ P₂ A B:Prop} (a:P₁->A) (b:P₂->B) (r:(P₁->A)->(P₂->B)->G:=by first|exact fun a b=>vz2 a b|exact fun a b=>vz3 a b):G:=r a b
theorem vsu {p:Prop} (h:p:=by (repeat' (first|exact trivial|refine ⟨rfl,?_⟩))):p:=h
theorem vom {p:Prop} (h:p:=by first|omega|(dsimp only; omega)):p:=h
theorem vw {G P₁ P₂ A B A1 B1:Prop} (a:P₁->A1) (b:P₂->B1) (r:A->B->G:=by first|exact fun a b=>vy1 a b|exact fun a b=>vy2 a b|exact fun a b=>vy3 a b)
  (ca:(P₁->A1)->A:=by first|(intro h ⟨hd,hq⟩; exact (fun (_:True)=>by exfalso; omega) (h hq))|(intro h ⟨hd,hq⟩; simp -implicitDefEqProofs only [go_sem,hd]; exact h hq)|(intro h ⟨hd,hq⟩; exact h hq))
  (cb:(P₂->B1)->B:=by first|(intro h ⟨hd,hq⟩; exact (fun (_:True)=>by exfalso; omega) (h hq))|(intro h ⟨hd,hq⟩; simp -implicitDefEqProofs only [go_sem,hd]; exact h hq)|(intro h ⟨hd,hq⟩; exact h hq)):G:=r (ca a) (cb b)
end
class LpC (G:Prop) (E:outParam Env) (n:outParam Nat) (c:outParam Code) (Q:outParam SPred) (e:outParam Ev) (σ:outParam AStore):Prop where
 law:Z E n (.loop c) Q e σ->G
section
variable {E:Env} {n:Nat} {c y:Code} {Q:SPred} {e:Ev} {σ:AStore} {id:Nat}
instance:LpC (Z E n (.loop c) Q e σ) E n c Q e σ:=⟨fun h=>h⟩
instance:LpC (Z E n (.block id (.loop c)) Q e σ) E n c (blkS id Q) e σ:=⟨fun h=>Z_block h⟩
instance:LpC (Z E n (.seq (.block id (.loop c)) y) Q e σ) E n c (blkS id (thenS (V E n y Q) Q)) e σ:=⟨fun h=>Z_seq (Z_block h)⟩
theorem vlp {G:Prop} [l:LpC G E n c Q e σ] {ι:Type} (S:ι->Ev) (I:ι->AStore->Prop) (m:ι->Nat) (okS:∀ i,okT (S i)=true) (i0:ι) (h0:subE (S i0) e) (hσ:I i0 σ)
  (round:∀ i σ,I i σ->V E n c (again S I m (m i) Q) (S i) σ):G:=l.law (Z_loop S I m okS i0 h0 hσ round)
end
end Abs
end
