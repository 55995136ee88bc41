/-
  Part of the abstract layer (K2): values, stores and steps that stand for those of the model, and the proof that they do. It proves no statement by itself.
-/
import Derived.Test.YtmimfnjcnndhpaaGreatAbsK
import Derived.Test.YtmimfnjcnndhpaaGreatAbsE
import Derived.LaidEqlPtr
noncomputable section
namespace Abs
set_option linter.unusedVariables false
set_option linter.unusedSimpArgs false
set_option linter.unusedSectionVars false
open Go

/-! ### Structs side by side -/

def aEqFs (E : Env) (f : TypeId → AVal → AVal → Option Bool) (xs ys : List AVal) : List Field → Option Bool
  | [] => some true
  | fd :: r =>
    match decide (fd.name = "_") with
    | true => aEqFs E f xs ys r
    | false =>
      match E.ty fd.type with
      | some j =>
        match loadCs j.isA j.size fd.offset xs, loadCs j.isA j.size fd.offset ys with
        | some a, some b =>
          match f fd.type a b with
          | some true => aEqFs E f xs ys r
          | some false => some false
          | none => none
        | _, _ => none
      | none => none

def aEqIn (E : Env) : Nat → TypeId → AVal → AVal → Option Bool
  | 0, _, _, _ => none
  | d + 1, t, x, y =>
    match E.ty t with
    | none => none
    | some i =>
      match i.desc, x, y with
      | .bool, .sc (.bool a), .sc (.bool b) => some (a == b)
      | .int _, .sc (.int k a), .sc (.int k' b) => if k = k' then some (a == b) else none
      | .string, .sc (.string a), .sc (.string b) => some (a == b)
      | .struct fs, .agg xs, .agg ys =>
        match E.P.stoodInHeld t with
        | true => none
        | false => aEqFs E (aEqIn E d) xs ys fs.toList
      | _, _, _ => none

section
variable {E : Env} {ι : Inj} {H : Imm} {w : World} {n : Nat}

theorem aEqFs_sound {d : Nat} {f : TypeId → AVal → AVal → Option Bool}
    (hf : ∀ t x y x' y' b, VRel n ι H x x' → VRel n ι H y y' → f t x y = some b → (Op.equalIn d t x' y').run E.P w = .ok b w)
    {xs ys : List AVal} {xs' ys' : List Value} (hx : LRel n ι H xs xs') (hy : LRel n ι H ys ys') : ∀ (fs : List Field) (b : Bool), aEqFs E f xs ys fs = some b →
    (forIn (m := Sem) fs ((none, ()) : Option Bool × Unit) fun fd _ => if fd.name ≠ "_" then (do
        let a ← part fd.type xs'.toArray fd.offset
        let b ← part fd.type ys'.toArray fd.offset
        let r ← Op.equalIn d fd.type a b
        if (!r) = true then pure (ForInStep.done (some false, ())) else pure (ForInStep.yield (none, ())) : Sem (ForInStep (Option Bool × Unit))) else pure (ForInStep.yield (none, ()))).run E.P w = .ok (if b then (none, ()) else (some false, ())) w
  | [], b, h => by
      cases h
      simp
  | fd :: r, b, h => by
      unfold aEqFs at h
      rw [List.forIn_cons, Sem.run_bind]
      split at h
      · rename_i hn
        have hn : fd.name = "_" := by simpa using hn
        simp only [hn, ne_eq, not_true_eq_false, if_false, Sem.run_pure, Result.andThen_ok]
        exact aEqFs_sound hf hx hy r b h
      · rename_i hn
        have hn : ¬ fd.name = "_" := by simpa using hn
        split at h
        · rename_i j hj
          split at h
          · rename_i a b' ha hb
            obtain ⟨a', p1, p2⟩ := run_part (E := E) (w := w) hj hx ha
            obtain ⟨b'', p3, p4⟩ := run_part (E := E) (w := w) hj hy hb
            split at h
            · rename_i hr
              have := hf _ _ _ _ _ _ p2 p4 hr
              simp only [hn, ne_eq, not_false_eq_true, if_true, Sem.run_bind, p1, p3, Result.andThen_ok, this, Bool.not_true, Bool.false_eq_true, if_false, Sem.run_pure]
              exact aEqFs_sound hf hx hy r b h
            · rename_i hr
              cases h
              have := hf _ _ _ _ _ _ p2 p4 hr
              simp [hn, Sem.run_bind, p1, p3, this]
            · cases h
          · cases h
        · cases h

theorem aEqIn_sound : ∀ (d : Nat) (t : TypeId) (x y : AVal) (x' y' : Value) (b : Bool), VRel n ι H x x' → VRel n ι H y y' → aEqIn E d t x y = some b → (Op.equalIn d t x' y').run E.P w = .ok b w
  | 0, _, _, _, _, _, _, _, _, h => by cases h
  | d + 1, t, x, y, x', y', b, hx, hy, h => by
      unfold aEqIn at h
      split at h
      · cases h
      · rename_i i hi
        have hu := run_underlying E.ok hi w
        split at h
        · rename_i hd
          obtain rfl := hx.sc_inv; obtain rfl := hy.sc_inv
          cases h
          rw [Op.equalIn, Sem.run_bind, hu, hd]; rfl
        · rename_i hd
          obtain rfl := hx.sc_inv; obtain rfl := hy.sc_inv
          split at h
          · rename_i hk
            cases h
            subst hk
            rw [Op.equalIn, Sem.run_bind, hu, hd]; simp
          · cases h
        · rename_i hd
          obtain rfl := hx.sc_inv; obtain rfl := hy.sc_inv
          cases h
          rw [Op.equalIn, Sem.run_bind, hu, hd]; rfl
        · rename_i fs xs ys hd
          obtain ⟨xs', rfl, hxs⟩ := hx.agg_inv
          obtain ⟨ys', rfl, hys⟩ := hy.agg_inv
          split at h
          · cases h
          · rename_i hst
            have := aEqFs_sound (E := E) (w := w) (d := d) (fun t x y x' y' b => aEqIn_sound d t x y x' y' b) hxs hys fs.toList b h
            rw [Op.equalIn, Sem.run_bind, hu, hd]
            have hp : (program : Sem Program).run E.P w = .ok E.P w := rfl
            simp only [Result.andThen_ok, Sem.run_bind, hp, hst, Bool.false_eq_true, if_false]
            rw [← Array.forIn_toList, this]
            cases b <;> simp
        · cases h

/-- '==' and '!=' of structs too. -/
def aBin2 (E : Env) (t : TypeId) (d : TypeDesc) (op : BinOp) (cst : Bool) (x y : AVal) : Option AVal :=
  match x, y with
  | .agg xs, .agg ys =>
    match E.P.eqGuardType E.P.depth t with
    | true => none
    | false =>
      match op with
      | .eql => (aEqIn E 10000 t (.agg xs) (.agg ys)).map fun b => .sc (.bool b)
      | .neq => (aEqIn E 10000 t (.agg xs) (.agg ys)).map fun b => .sc (.bool !b)
      | _ => none
  | .ptr b i k, .ptr b' i' k' =>
    match d with
    | .pointer te =>
      match E.ty te, Nat.beq b b' && (Nat.beq i i' && Nat.beq k k'), op with
      | some _, true, .eql => some (.sc (.bool true))
      | some _, true, .neq => some (.sc (.bool false))
      | _, _, _ => none
    | _ => none
  | x, y => aBin d op cst x y

theorem run_eql_ptr_same {P : Program} {w : World} {tp te : TypeId} {j : TypeInfo} (a : Addr) (hp : P.underlying tp = some (.pointer te)) (hte : P.info? te = some j) :
    (Op.equal tp (.pointer (some a)) (.pointer (some a))).run P w = .ok true w := by
  have h : ∀ d : Nat, (Op.equalIn (d + 1) tp (.pointer (some a)) (.pointer (some a))).run P w = .ok true w := fun d => by
    simp [Op.equalIn, Go.run_underlying hp, Go.sizeOf, typeInfo, hte, run_sameAddr_same]
  exact h 9999

theorem aBin2_sound {σ : AStore} (hR : Rel E ι H σ w) {t : TypeId} {i : TyI} (hs : E.ty t = some i) {op : BinOp} {x y : Operand} {a b v : AVal} {a' b' : Value} (ha : VRel σ.next ι H a a') (hb : VRel σ.next ι H b b')
    (h : aBin2 E t i.desc op (isConstOp x || isConstOp y) a b = some v) :
    SndV E ι H σ ((do eqGuard op t x y a' b'; binOp op t a' b' : Sem Value).run E.P w) v σ := by
  unfold aBin2 at h
  split at h
  · rename_i xs ys
    have ha0 := ha
    have hb0 := hb
    obtain ⟨xs', rfl, hxs⟩ := ha.agg_inv
    obtain ⟨ys', rfl, hys⟩ := hb.agg_inv
    split at h
    · cases h
    · rename_i hg
      have hp : (program : Sem Program).run E.P w = .ok E.P w := rfl
      split at h
      · cases he : aEqIn E 10000 t (.agg xs) (.agg ys) with
        | none => rw [he] at h; cases h
        | some b0 =>
          rw [he] at h
          cases h
          have h1 : (Op.equal t (.agg xs'.toArray) (.agg ys'.toArray)).run E.P w = .ok b0 w := aEqIn_sound 10000 t _ _ _ _ b0 ha0 hb0 he
          refine SndV.same hR (v' := .bool b0) ?_ (.sc _)
          simp [eqGuard, hp, hg, binOp, h1]
      · cases he : aEqIn E 10000 t (.agg xs) (.agg ys) with
        | none => rw [he] at h; cases h
        | some b0 =>
          rw [he] at h
          cases h
          have h1 : (Op.equal t (.agg xs'.toArray) (.agg ys'.toArray)).run E.P w = .ok b0 w := aEqIn_sound 10000 t _ _ _ _ b0 ha0 hb0 he
          refine SndV.same hR (v' := .bool !b0) ?_ (.sc _)
          simp [eqGuard, hp, hg, binOp, h1]
      · cases h
  · rename_i b0 i0 k0 b1 i1 k1
    split at h
    · rename_i te hd
      split at h
      · rename_i j hj hbb
        rw [Bool.and_eq_true, Bool.and_eq_true] at hbb
        obtain ⟨e1, e2, e3⟩ := hbb
        obtain rfl := Nat.eq_of_beq_eq_true e1
        obtain rfl := Nat.eq_of_beq_eq_true e2
        obtain rfl := Nat.eq_of_beq_eq_true e3
        cases h
        obtain ⟨_, rfl⟩ := ha.ptr_inv
        obtain ⟨_, rfl⟩ := hb.ptr_inv
        obtain ⟨_, info, q1, _⟩ := E.ok te j hj
        have hp : E.P.underlying t = some (.pointer te) := by rw [(E.ok t i hs).1, hd]
        have hg := run_eqGuard (E := E) (w := w) (op := .eql) (t := t) (x := x) (y := y) (a := .pointer (some ⟨(ι b0).blk, (ι b0).base + i0 * (ι b0).sz + k0, none⟩)) (b := .pointer (some ⟨(ι b0).blk, (ι b0).base + i0 * (ι b0).sz + k0, none⟩)) (by intro c hc; cases hc) (by rintro ⟨hc, _⟩; cases hc)
        have h1 := run_eql_ptr_same (w := w) ⟨(ι b0).blk, (ι b0).base + i0 * (ι b0).sz + k0, none⟩ hp q1
        refine SndV.same hR (v' := .bool true) ?_ (.sc _)
        simp only [Sem.run_bind, hg, Result.andThen_ok]
        simp [binOp, h1]
      · rename_i j hj hbb
        rw [Bool.and_eq_true, Bool.and_eq_true] at hbb
        obtain ⟨e1, e2, e3⟩ := hbb
        obtain rfl := Nat.eq_of_beq_eq_true e1
        obtain rfl := Nat.eq_of_beq_eq_true e2
        obtain rfl := Nat.eq_of_beq_eq_true e3
        cases h
        obtain ⟨_, rfl⟩ := ha.ptr_inv
        obtain ⟨_, rfl⟩ := hb.ptr_inv
        obtain ⟨_, info, q1, _⟩ := E.ok te j hj
        have hp : E.P.underlying t = some (.pointer te) := by rw [(E.ok t i hs).1, hd]
        have hg := run_eqGuard (E := E) (w := w) (op := .neq) (t := t) (x := x) (y := y) (a := .pointer (some ⟨(ι b0).blk, (ι b0).base + i0 * (ι b0).sz + k0, none⟩)) (b := .pointer (some ⟨(ι b0).blk, (ι b0).base + i0 * (ι b0).sz + k0, none⟩)) (by intro c hc; cases hc) (by rintro ⟨hc, _⟩; cases hc)
        have h1 := run_eql_ptr_same (w := w) ⟨(ι b0).blk, (ι b0).base + i0 * (ι b0).sz + k0, none⟩ hp q1
        refine SndV.same hR (v' := .bool false) ?_ (.sc _)
        simp only [Sem.run_bind, hg, Result.andThen_ok]
        simp [binOp, h1]
      · cases h
    · cases h
  · exact aBin_sound hR hs ha hb h
end
end Abs
