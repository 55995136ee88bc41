/-
  Part of the abstract layer (K): values, stores and steps that stand for those of the model, and the proof that they do. It proves no statement by itself.
-/
import Derived.Test.YtmimfnjcnndhpaaGreatAbsJ
noncomputable section
namespace Abs
set_option linter.unusedVariables false
set_option linter.unusedSimpArgs false
set_option linter.unusedSectionVars false
open Go

section
variable {E : Env} {ι : Inj} {H : Imm} {σ σ' : AStore} {w : World}

/-! ### Operators -/

def scBin (op : BinOp) (x y : Value) : Option Value :=
  match x, y with
  | .int k a, .int k' b =>
    match op with
    | .shl => if 0 ≤ b then some (.int k (k.wrap (a * 2 ^ (min b.toNat k.bits)))) else none
    | .shr => if 0 ≤ b then some (.int k (a.fdiv (2 ^ (min b.toNat k.bits)))) else none
    | _ =>
      if k = k' then
        match op with
        | .add => some (.int k (k.wrap (a + b)))
        | .sub => some (.int k (k.wrap (a - b)))
        | .mul => some (.int k (k.wrap (a * b)))
        | .quo => if b = 0 then none else some (.int k (k.wrap (a.tdiv b)))
        | .rem => if b = 0 then none else some (.int k (a.tmod b))
        | .and => some (.int k (k.wrap (BitVec.ofInt k.bits a &&& BitVec.ofInt k.bits b).toNat))
        | .or => some (.int k (k.wrap (BitVec.ofInt k.bits a ||| BitVec.ofInt k.bits b).toNat))
        | .xor => some (.int k (k.wrap (BitVec.ofInt k.bits a ^^^ BitVec.ofInt k.bits b).toNat))
        | .andNot => some (.int k (k.wrap (BitVec.ofInt k.bits a &&& ~~~BitVec.ofInt k.bits b).toNat))
        | .eql => some (.bool (a == b))
        | .neq => some (.bool (a != b))
        | .lss => some (.bool (a < b))
        | .leq => some (.bool (a ≤ b))
        | .gtr => some (.bool (a > b))
        | .geq => some (.bool (a ≥ b))
        | _ => none
      else none
  | .string a, .string b =>
    match op with
    | .add => if ((a.size + b.size : Nat) : Int) ≤ 9223372036854775807 then some (.string (a ++ b)) else none
    | .eql => some (.bool (a.toList == b.toList))
    | .neq => some (.bool (!(a.toList == b.toList)))
    | .lss => some (.bool (Op.bytesLess a.toList b.toList))
    | .leq => some (.bool (Op.bytesLess a.toList b.toList || a.toList == b.toList))
    | .gtr => some (.bool (!(Op.bytesLess a.toList b.toList || a.toList == b.toList)))
    | .geq => some (.bool (!(Op.bytesLess a.toList b.toList)))
    | _ => none
  | _, _ => none

theorem scBin_sound {op : BinOp} {x y v : Value} (h : scBin op x y = some v) (t : TypeId) (P : Program) : (binOp op t x y).run P w = .ok v w := by
  unfold scBin at h
  split at h
  · rename_i k a k' b
    split at h
    · split at h
      · rename_i hb
        cases h
        have : ¬ b < 0 := by omega
        simp [binOp, Op.shift, this]
      · cases h
    · split at h
      · rename_i hb
        cases h
        have : ¬ b < 0 := by omega
        simp [binOp, Op.shift, this]
      · cases h
    · rename_i o1 o2
      split at h
      · rename_i hk
        subst hk
        cases op <;> simp at h o1 o2 <;> first
          | (subst h; simp [binOp, Op.intArith, Op.intBits, Op.intCmp]; done)
          | (obtain ⟨h0, rfl⟩ := h; simp [binOp, Op.intDiv, h0]; done)
          | skip
      · cases h
  · rename_i a b
    cases op <;> simp at h <;> first
      | (subst h; simp [binOp, Op.stringOp]; done)
      | (obtain ⟨h0, rfl⟩ := h
         have : ¬ (9223372036854775807 < ((a.size : Int) + (b.size : Int))) := by omega
         have e : IntKind.i64.max = 9223372036854775807 := by decide
         simp [binOp, Op.stringOp, e, this]; done)
  · cases h

/-- '==' where a nil stands beside something. -/
def aEq (d : TypeDesc) (cst : Bool) (x y : AVal) : Option Bool :=
  match d, x, y with
  | .bool, .sc (.bool a), .sc (.bool b) => some (a == b)
  | .pointer _, .sc (.pointer none), .sc (.pointer none) => some true
  | .pointer _, .sc (.pointer none), .ptr _ _ _ => some false
  | .pointer _, .sc (.pointer none), .iptr _ => some false
  | .pointer _, .ptr _ _ _, .sc (.pointer none) => some false
  | .pointer _, .iptr _, .sc (.pointer none) => some false
  | .slice _, .sc (.slice none _ _), .sc (.slice none _ _) => some true
  | .slice _, .sc (.slice none _ _), .slice _ _ _ => some false
  | .slice _, .sc (.slice none _ _), .view _ _ _ => some false
  | .slice _, .sc (.slice none _ _), .endS _ _ => some false
  | .slice _, .sc (.slice none _ _), .data _ _ _ => some false
  | .slice _, .slice _ _ _, .sc (.slice none _ _) => some false
  | .slice _, .view _ _ _, .sc (.slice none _ _) => some false
  | .slice _, .endS _ _, .sc (.slice none _ _) => some false
  | .slice _, .data _ _ _, .sc (.slice none _ _) => some false
  | .map _ _, .sc (.map none), .sc (.map none) => some true
  | .map _ _, .map _, .sc (.map none) => some false
  | .map _ _, .sc (.map none), .map _ => some false
  | .func _ _ _, .sc .nilFunc, .sc .nilFunc => some true
  | .func _ _ _, .func _ _ _, .sc .nilFunc => some false
  | .func _ _ _, .sc .nilFunc, .func _ _ _ => some false
  | .interface _, .sc .nilIface, .iface _ _ => some false
  | .interface _, .iface _ _, .sc .nilIface => some false
  | .interface _, .sc .nilIface, .sc .nilIface => if cst then some true else none
  | _, _, _ => none

theorem run_equal {t : TypeId} {d : TypeDesc} {x y : Value} (hu : (underlying t).run E.P w = .ok d w) : (Op.equal t x y).run E.P w =
    (match d, x, y with
    | .bool, .bool a, .bool b => .ok (a == b) w
    | .pointer _, .pointer none, .pointer b => .ok b.isNone w
    | .pointer _, .pointer _, .pointer none => .ok false w
    | .interface _, .nilIface, .nilIface => .ok true w
    | .interface _, .nilIface, .iface _ _ => .ok false w
    | .interface _, .iface _ _, .nilIface => .ok false w
    | .slice _, .slice none _ _, .slice b _ _ => .ok b.isNone w
    | .slice _, .slice _ _ _, .slice none _ _ => .ok false w
    | .map _ _, .map none, .map b => .ok b.isNone w
    | .map _ _, .map _, .map none => .ok false w
    | .func _ _ _, .nilFunc, .nilFunc => .ok true w
    | .func _ _ _, .nilFunc, .func _ _ _ => .ok false w
    | .func _ _ _, .func _ _ _, .nilFunc => .ok false w
    | _, _, _ => (Op.equal t x y).run E.P w) := by
  have e : ∀ x y, (Op.equal t x y) = Op.equalIn (9999 + 1) t x y := fun _ _ => rfl
  split
  all_goals first
    | rfl
    | (rename_i hu'; rw [e, Op.equalIn, Sem.run_bind, hu']; rfl)
    | (rename_i hu' hne; rw [e, Op.equalIn, Sem.run_bind, hu']; simp only [Result.andThen_ok]; rfl)

theorem aEq_sound {t : TypeId} {i : TyI} (hs : E.ty t = some i) {n : Nat} {x y : AVal} {x' y' : Value} (hx : VRel n ι H x x') (hy : VRel n ι H y y') {cst : Bool} {b : Bool} (h : aEq i.desc cst x y = some b) :
    (Op.equal t x' y').run E.P w = .ok b w ∧ (∀ a a', x' ≠ .int a a') ∧ (∀ a, x' ≠ .string a) ∧ (∀ a b', x' ≠ .float a b') ∧ (∀ a b' c, x' ≠ .complex a b' c) ∧ (∀ a, x' ≠ .agg a) ∧
      (∀ a, y' ≠ .agg a) ∧ ((x' = .nilIface ∧ y' = .nilIface) → cst = true) := by
  have hu := run_underlying E.ok hs w
  unfold aEq at h
  split at h
  all_goals first
    | (cases h; done)
    | skip
  all_goals
    rename_i hd
    first
      | (obtain rfl := hx.sc_inv; obtain rfl := hy.sc_inv)
      | (obtain rfl := hx.sc_inv; obtain ⟨_, rfl⟩ := hy.ptr_inv)
      | (obtain rfl := hx.sc_inv; obtain ⟨_, _, rfl, _⟩ := hy.iptr_inv)
      | (obtain rfl := hy.sc_inv; obtain ⟨_, rfl⟩ := hx.ptr_inv)
      | (obtain rfl := hy.sc_inv; obtain ⟨_, _, rfl, _⟩ := hx.iptr_inv)
      | (obtain rfl := hx.sc_inv; obtain ⟨_, rfl, _⟩ := hy.slice_inv)
      | (obtain rfl := hx.sc_inv; obtain ⟨rfl, _⟩ := hy.view_inv)
      | (obtain rfl := hx.sc_inv; obtain ⟨_, _, rfl, _⟩ := hy.endS_inv)
      | (obtain rfl := hx.sc_inv; obtain ⟨_, _, _, rfl, _⟩ := hy.data_inv)
      | (obtain rfl := hy.sc_inv; obtain ⟨_, rfl, _⟩ := hx.slice_inv)
      | (obtain rfl := hy.sc_inv; obtain ⟨rfl, _⟩ := hx.view_inv)
      | (obtain rfl := hy.sc_inv; obtain ⟨_, _, rfl, _⟩ := hx.endS_inv)
      | (obtain rfl := hy.sc_inv; obtain ⟨_, _, _, rfl, _⟩ := hx.data_inv)
      | (obtain rfl := hx.sc_inv; obtain ⟨_, rfl⟩ := hy.map_inv)
      | (obtain rfl := hy.sc_inv; obtain ⟨_, rfl⟩ := hx.map_inv)
      | (obtain rfl := hx.sc_inv; obtain ⟨_, _, rfl, _⟩ := hy.func_inv)
      | (obtain rfl := hy.sc_inv; obtain ⟨_, _, rfl, _⟩ := hx.func_inv)
      | (obtain rfl := hx.sc_inv; obtain ⟨_, rfl, _⟩ := hy.iface_inv)
      | (obtain rfl := hy.sc_inv; obtain ⟨_, rfl, _⟩ := hx.iface_inv)
    simp at h
    first
      | (subst h
         refine ⟨?_, by simp, by simp, by simp, by simp, by simp, by simp, by simp⟩
         exact run_equal (hd ▸ hu))
      | (have h1 := h.1
         have h2 := h.2
         subst h2
         refine ⟨?_, by simp, by simp, by simp, by simp, by simp, by simp, fun _ => h1⟩
         exact run_equal (hd ▸ hu))

def isConstOp : Operand → Bool
  | .const _ => true
  | _ => false

def aBin (d : TypeDesc) (op : BinOp) (cst : Bool) (x y : AVal) : Option AVal :=
  match x, y with
  | .sc (.int k a), .sc y => (scBin op (.int k a) y).map .sc
  | .sc (.string a), .sc y => (scBin op (.string a) y).map .sc
  | x, y =>
    match op with
    | .eql => (aEq d cst x y).map fun b => .sc (.bool b)
    | .neq => (aEq d cst x y).map fun b => .sc (.bool !b)
    | _ => none

theorem run_eqGuard {op : BinOp} {t : TypeId} {x y : Operand} {a b : Value} (h1 : ∀ c, a ≠ .agg c) (h2 : (a = .nilIface ∧ b = .nilIface) → (isConstOp x || isConstOp y) = true) :
    (eqGuard op t x y a b).run E.P w = .ok () w := by
  unfold eqGuard
  by_cases hop : op = .eql ∨ op = .neq
  · have : (!(match op with | .eql => true | .neq => true | _ => false)) = false := by rcases hop with rfl | rfl <;> rfl
    by_cases hn : a = .nilIface ∧ b = .nilIface
    · obtain ⟨rfl, rfl⟩ := hn
      have hc := h2 ⟨rfl, rfl⟩
      rcases hop with rfl | rfl <;> (cases x <;> cases y <;> simp [isConstOp] at hc <;> simp)
    · rcases hop with rfl | rfl <;> (cases a <;> first | exact absurd rfl (h1 _) | (cases b <;> first | exact absurd ⟨rfl, rfl⟩ hn | simp))
  · have : op ≠ .eql ∧ op ≠ .neq := by simpa using hop
    cases op <;> simp_all

theorem aBin_sound (hR : Rel E ι H σ w) {t : TypeId} {i : TyI} (hs : E.ty t = some i) {op : BinOp} {x y : Operand} {a b v : AVal} {a' b' : Value} (ha : VRel σ.next ι H a a') (hb : VRel σ.next ι H b b')
    (h : aBin i.desc op (isConstOp x || isConstOp y) a b = some v) :
    SndV E ι H σ ((do eqGuard op t x y a' b'; binOp op t a' b' : Sem Value).run E.P w) v σ := by
  have key : ∀ b0, aEq i.desc (isConstOp x || isConstOp y) a b = some b0 → (op = .eql ∧ v = .sc (.bool b0) ∨ op = .neq ∧ v = .sc (.bool !b0)) →
      SndV E ι H σ ((do eqGuard op t x y a' b'; binOp op t a' b' : Sem Value).run E.P w) v σ := by
    intro b0 he hv
    obtain ⟨q1, q2, q3, q4, q5, q6, q7, q8⟩ := aEq_sound (E := E) (w := w) hs ha hb he
    have hg := run_eqGuard (E := E) (w := w) (op := op) (t := t) (x := x) (y := y) (a := a') (b := b') q6 q8
    rcases hv with ⟨rfl, rfl⟩ | ⟨rfl, rfl⟩
    · refine SndV.same hR (v' := .bool b0) ?_ (.sc _)
      simp only [Sem.run_bind, hg, Result.andThen_ok]
      cases a' <;> first | exact absurd rfl (q2 _ _) | exact absurd rfl (q3 _) | exact absurd rfl (q4 _ _) | exact absurd rfl (q5 _ _ _) | simp [binOp, q1]
    · refine SndV.same hR (v' := .bool !b0) ?_ (.sc _)
      simp only [Sem.run_bind, hg, Result.andThen_ok]
      cases a' <;> first | exact absurd rfl (q2 _ _) | exact absurd rfl (q3 _) | exact absurd rfl (q4 _ _) | exact absurd rfl (q5 _ _ _) | simp [binOp, q1]
  have key2 : ∀ x0 y0 v0, a = .sc x0 → b = .sc y0 → (∀ c, x0 ≠ .agg c) → x0 ≠ .nilIface → scBin op x0 y0 = some v0 → v = .sc v0 →
      SndV E ι H σ ((do eqGuard op t x y a' b'; binOp op t a' b' : Sem Value).run E.P w) v σ := by
    intro x0 y0 v0 h1 h2 h3 h4 h5 h6
    subst h1 h2 h6
    obtain rfl := ha.sc_inv
    obtain rfl := hb.sc_inv
    have hg := run_eqGuard (E := E) (w := w) (op := op) (t := t) (x := x) (y := y) (a := a') (b := b') h3 (fun hc => absurd hc.1 h4)
    refine SndV.same hR (v' := v0) ?_ (.sc _)
    simp only [Sem.run_bind, hg, Result.andThen_ok]
    exact scBin_sound h5 t E.P
  unfold aBin at h
  split at h
  · rename_i k z y0
    cases hh : scBin op (.int k z) y0 with
    | none => simp [hh] at h
    | some v0 => simp [hh] at h; exact key2 _ _ v0 rfl rfl (by simp) (by simp) hh h.symm
  · rename_i z y0
    cases hh : scBin op (.string z) y0 with
    | none => simp [hh] at h
    | some v0 => simp [hh] at h; exact key2 _ _ v0 rfl rfl (by simp) (by simp) hh h.symm
  · split at h
    · cases he : aEq i.desc (isConstOp x || isConstOp y) a b with
      | none => simp [he] at h
      | some b0 => simp [he] at h; exact key b0 he (.inl ⟨rfl, h.symm⟩)
    · cases he : aEq i.desc (isConstOp x || isConstOp y) a b with
      | none => simp [he] at h
      | some b0 => simp [he] at h; exact key b0 he (.inr ⟨rfl, h.symm⟩)
    · cases h

def aUn (op : UnOp) (x : AVal) : Option AVal :=
  match op, x with
  | .neg, .sc (.int k n) => some (.sc (.int k (k.wrap (0 - n))))
  | .xor, .sc (.int k n) => some (.sc (.int k (k.wrap (BitVec.ofInt k.bits (if k.signed then -1 else k.max) ^^^ BitVec.ofInt k.bits n).toNat)))
  | .not, .sc (.bool b) => some (.sc (.bool !b))
  | _, _ => none

theorem aUn_sound (hR : Rel E ι H σ w) {op : UnOp} {x v : AVal} {x' : Value} (hx : VRel σ.next ι H x x') (h : aUn op x = some v) : SndV E ι H σ ((Op.unary op x').run E.P w) v σ := by
  unfold aUn at h
  split at h
  · obtain rfl := hx.sc_inv; cases h; exact SndV.same hR (v' := .int _ _) (by simp [Op.unary, Op.intArith]) (.sc _)
  · obtain rfl := hx.sc_inv; cases h; exact SndV.same hR (v' := .int _ _) (by simp [Op.unary, Op.intBits]) (.sc _)
  · obtain rfl := hx.sc_inv; cases h; exact SndV.same hR (v' := .bool _) (by simp [Op.unary]) (.sc _)
  · cases h
end
end Abs
