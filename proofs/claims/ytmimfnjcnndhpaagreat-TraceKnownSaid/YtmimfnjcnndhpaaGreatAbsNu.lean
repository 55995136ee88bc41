/-
  Part of the abstract layer (Nu): values, stores and steps that stand for those of the model, and the proof that they do. It proves no statement by itself.
-/
import Derived.Test.YtmimfnjcnndhpaaGreatAbsM
import Derived.Test.YtmimfnjcnndhpaaGreatAbsK2
noncomputable section
namespace Abs
set_option linter.unusedVariables false
set_option linter.unusedSimpArgs false
set_option linter.unusedSectionVars false
open Go

/-! ### What is told of a new block's type; bytes seen as a string -/

def sliceElem (E : Env) (t : TypeId) : Option TyI :=
  match E.ty t with
  | some i => match i.desc with
    | .slice e => E.ty e
    | _ => none
  | none => none

def u8z : AVal → Bool
  | .sc (.int .u8 _) => true
  | _ => false

def byteElem (E : Env) (t : TypeId) : Option Nat :=
  match E.ty t with
  | some i => match i.desc with
    | .slice e => match E.ty e with
      | some j => match u8z (absV j.zero) with
        | true => some e
        | false => none
      | none => none
    | _ => none
  | none => none

def appTag (E : Env) (t : TypeId) (s : AVal) (σ : AStore) (o : Option (AVal × AStore)) : Option (AVal × AStore) :=
  match byteElem E t with
  | some e => tagNew (tagS σ s e) e σ o
  | none => o

/-- Two cells, a pointer and a slice. -/
def isBld : AVal → Bool
  | .agg [.sc (.pointer none), .sc (.slice none 0 0)] => true
  | _ => false

def aSliceData (x : AVal) : Option AVal :=
  match x with
  | .sc (.slice none _ _) => some (.sc (.pointer none))
  | .slice b off len => if len ≠ 0 then some (.ptr b off 0) else none
  | _ => none

def ptrElem (E : Env) (t : TypeId) : Option (Nat × TyI) :=
  match E.ty t with
  | some i => match i.desc with
    | .pointer e => (E.ty e).map fun j => (e, j)
    | _ => none
  | none => none

def aUStr (E : Env) (pt : TypeId) (p n : AVal) (σ : AStore) : Option (AVal × AStore) :=
  match p, n with
  | .sc (.pointer none), .sc (.int .i64 0) => some (.sc (.string ByteArray.empty), σ)
  | .ptr b 0 0, .sc (.int .i64 n) =>
    match ptrElem E pt, σ.get b with
    | some (e, j), some (.cells sz els) =>
      if j.size = 1 ∧ sz = 1 ∧ 0 < n ∧ n < 4611686018427387904 ∧ n.toNat ≤ els.length ∧ hasTy σ.tys b e = true then
        match unbytes (els.take n.toNat) with
        | some ns => if (ns.all fun z => decide (0 ≤ z) && decide (z < 256)) = true then some (.sc (.string (strOf ns)), σ.del b) else none
        | none => none
      else none
    | _, _ => none
  | _, _ => none

section
variable {E : Env} {ι : Inj} {H : Imm} {σ σ' : AStore} {w : World}

theorem byteElem_none {t : TypeId} {j : TyI} (h : sliceElem E t = some j) (hz : u8z (absV j.zero) = false) : byteElem E t = none := by
  unfold sliceElem at h
  unfold byteElem
  split at h
  · rename_i i hi
    split at h
    · rename_i e hd
      simp only [h, hz]
    · cases h
  · cases h

theorem byteElem_some {t : TypeId} {e : Nat} (h : byteElem E t = some e) : ∃ i j, E.ty t = some i ∧ i.desc = .slice e ∧ E.ty e = some j := by
  unfold byteElem at h
  split at h
  · rename_i i hi
    split at h
    · rename_i e' hd
      split at h
      · rename_i j hj
        split at h
        · cases h; exact ⟨i, j, hi, hd, hj⟩
        · cases h
      · cases h
    · cases h
  · cases h

theorem appTag_sound {t : TypeId} {s v : AVal} {o : Option (AVal × AStore)} {r : Result Value}
    (hT : ∀ e i, E.ty t = some i → i.desc = .slice e → ∀ v σ', o = some (v, σ') → SndT (tagS σ s e) e E ι H σ r v σ') (hs : ∃ e i, E.ty t = some i ∧ i.desc = .slice e) (h : appTag E t s σ o = some (v, σ')) : SndV E ι H σ r v σ' := by
  unfold appTag at h
  split at h
  · rename_i e he
    obtain ⟨i, j, h1, h2, _⟩ := byteElem_some he
    exact SndT.tag (hT e i h1 h2) h
  · obtain ⟨e, i, h1, h2⟩ := hs
    exact (hT e i h1 h2 v σ' h).snd

theorem aSliceData_sound (hR : Rel E ι H σ w) {x v : AVal} {x' : Value} (hx : VRel σ.next ι H x x') (h : aSliceData x = some v) (ts : Array TypeId) (ty : TypeId) :
    SndV E ι H σ ((Builtin.unsafeSliceData_ ts ty #[x']).run E.P w) v σ := by
  unfold aSliceData at h
  split at h
  · obtain rfl := hx.sc_inv
    cases h
    exact SndV.same hR rfl (.sc _)
  · rename_i b off len
    obtain ⟨cap, rfl, hb, hl, hcap⟩ := hx.slice_inv
    split at h
    · rename_i hn
      cases h
      refine SndV.same hR (Lib.run_unsafeSliceData_row w ts ty _ len cap (by omega)) ?_
      have := VRel.ptr (n := σ.next) (ι := ι) (H := H) b off 0 hb
      rwa [Nat.add_zero] at this
    · cases h
  · cases h

theorem ptrElem_some {t : TypeId} {e : Nat} {j : TyI} (h : ptrElem E t = some (e, j)) : ∃ i, E.ty t = some i ∧ i.desc = .pointer e ∧ E.ty e = some j := by
  unfold ptrElem at h
  split at h
  · rename_i i hi
    split at h
    · rename_i e' hd
      cases hj : E.ty e' with
      | none => rw [hj] at h; cases h
      | some j' => rw [hj] at h; cases h; exact ⟨i, hi, hd, hj⟩
    · cases h
  · cases h

theorem strOf_eq (ns : List Int) : strOf ns = ⟨(ns.map fun z => UInt8.ofNat z.toNat).toArray⟩ := by
  have : ∀ (l : List Int) (r : ByteArray), l.foldl (fun r n => r.push (UInt8.ofNat n.toNat)) r = ⟨r.data ++ (l.map fun z => UInt8.ofNat z.toNat).toArray⟩ := by
    intro l
    induction l with
    | nil => intro r; simp
    | cons z l ih =>
      intro r
      rw [List.foldl_cons, ih]
      simp [ByteArray.push]
  have h := this ns ByteArray.empty
  unfold strOf
  rw [h]
  simp [ByteArray.empty, ByteArray.emptyWithCapacity]
  rfl

theorem freeze_eq {c : Array Value} {el : TypeId} {fr : Nat × Nat} {b n : Nat} (h : w.heap[b]? = some (.cells c el fr)) (hn : n ≠ 0) :
    ∃ fr', w.freeze ⟨b, 0, none⟩ n = { w with heap := w.heap.setIfInBounds b (.cells c el fr') } := by
  obtain ⟨lo, hi⟩ := fr
  refine ⟨(if lo == hi then (0, 0 + n) else (min lo 0, max hi (0 + n))), ?_⟩
  unfold World.freeze
  rw [if_neg hn]
  congr 1
  apply Array.ext_getElem?
  intro i
  rw [Array.getElem?_modify, Array.getElem?_setIfInBounds]
  have hb : b < w.heap.size := by
    rcases Nat.lt_or_ge b w.heap.size with h' | h'
    · exact h'
    · simp [Array.getElem?_eq_none h'] at h
  by_cases hi2 : b = i
  · subst hi2
    simp [hb] at h ⊢
    rw [h]
  · simp [hi2]

theorem aUStr_sound (hR : Rel E ι H σ w) {pt it : TypeId} {p n v : AVal} {p' n' : Value} (hp : VRel σ.next ι H p p') (hn : VRel σ.next ι H n n') (h : aUStr E pt p n σ = some (v, σ')) (ty : TypeId) :
    SndV E ι H σ ((Builtin.unsafeString_ #[pt, it] ty #[p', n']).run E.P w) v σ' := by
  unfold aUStr at h
  split at h
  · obtain rfl := hp.sc_inv
    obtain rfl := hn.sc_inv
    cases h
    exact SndV.same hR (Lib.run_unsafeString_none w pt it ty none) (.sc _)
  · rename_i b n
    obtain ⟨hb, rfl⟩ := hp.ptr_inv
    obtain rfl := hn.sc_inv
    split at h
    · rename_i e j sz els he hg
      split at h
      · rename_i hc
        obtain ⟨h1, h2, h3, h4, h5, h6⟩ := hc
        split at h
        · rename_i ns hns
          split at h
          · rename_i hall
            cases h
            subst h2
            obtain ⟨i, i1, i2, i3⟩ := ptrElem_some he
            obtain ⟨_, t2, t3⟩ := hR.tys _ _ (hasTy_mem h6)
            obtain ⟨⟨g1, g2, c, elem, fr, g3, gf, g4, g5, g6⟩, l2, l3⟩ := hR.live b _ hg
            have hel : elem = e := g6.trans t2
            subst hel
            have htk := unbytes_map hns
            have hlen : ns.length = n.toNat := by
              have := congrArg List.length htk
              rw [List.length_take, List.length_map] at this
              omega
            have hpu : E.P.underlying pt = some (.pointer elem) := by rw [(E.ok pt i i1).1, i2]
            have hsh : w.shape? (ι b).blk = some (elem, c.size) := by simp [World.shape?, g3]
            have hle : n.toNat ≤ c.size := by
              have : els.length * 1 ≤ (ι b).cap * 1 := Nat.mul_le_mul_right _ g2
              omega
            have hcell : ∀ (k : Nat) (x : UInt8), (ns.map fun z => UInt8.ofNat z.toNat)[k]? = some x → w.cell? ((⟨(ι b).blk, 0, none⟩ : Addr).add k) = some (.int .u8 x.toNat) := by
              intro k x hx
              rw [List.getElem?_map] at hx
              cases hz : ns[k]? with
              | none => rw [hz] at hx; cases hx
              | some z =>
                rw [hz] at hx
                cases hx
                have hk : k < ns.length := by
                  rcases Nat.lt_or_ge k ns.length with h' | h'
                  · exact h'
                  · rw [List.getElem?_eq_none h'] at hz; cases hz
                have hz256 : 0 ≤ z ∧ z < 256 := by
                  rw [List.all_eq_true] at hall
                  have := hall z (List.mem_of_getElem? hz)
                  simpa using this
                have hek : els[k]? = some (.sc (.int .u8 z)) := by
                  have h7 : (els.take n.toNat)[k]? = els[k]? := by rw [List.getElem?_take, if_pos (by omega)]
                  rw [← h7, htk, List.getElem?_map, hz]; rfl
                obtain ⟨q1, _⟩ := g5.get hek
                obtain ⟨y, hy, hv⟩ := q1.get (k := 0) (v := .sc (.int .u8 z)) rfl
                obtain rfl := hv.sc_inv
                rw [add_mk]
                have hrd := congrFun (rd_cells g3) (0 + k)
                have : rd w (ι b).blk (0 + k) = some (.int .u8 z) := by
                  rw [hrd]
                  rw [t3] at hy
                  simpa using hy
                rw [show w.cell? ⟨(ι b).blk, 0 + k, none⟩ = some (.int .u8 z) from this]
                have : ((UInt8.ofNat z.toNat).toNat : Int) = z := by
                  have : z.toNat < 256 := by omega
                  simp [UInt8.toNat_ofNat', Nat.mod_eq_of_lt this]; omega
                rw [this]
            have hrun := Lib.run_unsafeString_row (P := E.P) w pt it ty elem hpu (by rw [cellsOf_ty i3, h1]) (ι b).blk c.size hsh (ns.map fun z => UInt8.ofNat z.toNat)
              (by intro hnil; have := congrArg List.length hnil; rw [List.length_map] at this; simp only [List.length_nil] at this; omega) (by rw [List.length_map]; omega) (by rw [List.length_map]; omega) hcell
            have hn' : ((ns.map fun z => UInt8.ofNat z.toNat).length : Int) = n := by rw [List.length_map]; omega
            obtain ⟨fr', hfr⟩ := freeze_eq (n := (ns.map fun z => UInt8.ofNat z.toNat).length) g3 (by rw [List.length_map]; omega)
            rw [hfr, hn'] at hrun
            refine ⟨.string (strOf ns), _, ι, H, ?_, .sc _, hR.give hg (o := .cells c elem fr') (by intro es clock hh; cases hh), Ext.refl _ _ _⟩
            rw [strOf_eq, t3]
            simp only [Nat.zero_mul, Nat.add_zero]
            exact hrun
          · cases h
        · cases h
      · cases h
    · cases h
  · cases h
end
end Abs
