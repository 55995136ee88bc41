/- Part of the abstract layer; it proves no statement by itself. -/
import Derived.Test.YthedompojmncpaaAbsMm
import Derived.Below
noncomputable section
namespace Abs
set_option linter.unusedVariables false
set_option linter.unusedSimpArgs false
set_option linter.unusedSectionVars false
open Go Go.RowKit
structure Keeps (w w':World):Prop where
 os:w'.os=w.os
 output:w'.output=w.output
 size:w.heap.size<=w'.heap.size
 block:∀ k,k < w.heap.size->w'.heap[k]?=w.heap[k]?
theorem Keeps.of {w w':World} (h:Below w.heap.size w w'):Keeps w w':=⟨h.os,h.output,h.size,h.block⟩
theorem Rel.below {E:Env} {ι:Inj} {H:Imm} {w w':World} (h:Rel E ι H empty w) (hb:Keeps w w'):Rel E ι H empty w' where
 imm c o hc:=by
  have:=h.imm c o hc
  have hlt:c < w.heap.size:=by
   rcases Nat.lt_or_ge c w.heap.size with hh|hh
   ·exact hh
   ·rw [Array.getElem?_eq_none hh] at this; cases this
  rw [hb.block c hlt]; exact this
 live b x hx:=by simp [AStore.fin empty b (Nat.zero_le _)] at hx
 inj b b' x x' hx:=by simp [AStore.fin empty b (Nat.zero_le _)] at hx
 glob:=h.glob
 keep:=⟨hb.os.trans h.keep.1,hb.output.trans h.keep.2⟩
 tys b t ht:=by simp [empty] at ht
theorem FOk.hand {E:Env} {F:FTab} (hF:FOk E F) {f:FuncId} {args:List AVal} {v:Value} (hs:sfvs args=true)
  (h:ACalls E f args empty fun e _=>e=.ret (.sc v)):FOk E (F.memo [⟨f,args,[.ret (.sc v)]⟩]):=by
 refine ⟨hF.fn,?_,hF.glob,hF.ctrT⟩
 intro g args1 ends hc σ
 simp only [FTab.memo] at hc
 split at hc
 ·rename_i es he
  cases hc
  have:=findM_some he
  simp at this
  obtain ⟨rfl,rfl,rfl⟩:=this
  refine (ACalls.pure hF.glob (sfvs_wf hs) h (N:=100) (fun e σ0 he=>⟨.ret (.sc v),by subst he; rfl⟩) σ).mono ?_
  rintro e σ' ⟨h1,e0,σ0,rfl,h3⟩
  refine ⟨h1,?_⟩
  have h4:frzE σ0 100 (.ret (.sc v))=some (.ret (.sc v)):=rfl
  rw [h3] at h4
  cases h4
  simp
 ·exact hF.ctr g args1 ends hc σ
def FTab.gate (F F0:FTab) (mask:Nat):FTab:=⟨F0.fn,fun f args=>match mask.testBit f with
 | true=>F.ctr f args
 | false=>F0.ctr f args,F0.pure,F0.fz,F0.tz,fun f args=>match mask.testBit f with
 | true=>F.ctrT f args
 | false=>F0.ctrT f args⟩
theorem FOk.gate {E:Env} {F F0:FTab} (h:FOk E F) (h0:FOk E F0) (mask:Nat):FOk E (F.gate F0 mask):=by
 refine ⟨h0.fn,?_,h0.glob,?_⟩
 ·intro f args ends hc
  simp only [FTab.gate] at hc
  split at hc
  ·exact h.ctr f args ends hc
  ·exact h0.ctr f args ends hc
 ·intro f args ends hc
  simp only [FTab.gate] at hc
  split at hc
  ·exact h.ctrT f args ends hc
  ·exact h0.ctrT f args ends hc
theorem FOk.memoG {E:Env} {F G:FTab} (hrd:E.rd=none) (hF:FOk E F) (hG:FOk E G) {n:Nat} {m:Mem} (h:memOk E G n m=true):FOk E (F.memo [m]):=by
 refine ⟨hF.fn,?_,hF.glob,hF.ctrT⟩
 intro f args ends hc σ
 simp only [FTab.memo] at hc
 split at hc
 ·rename_i es he
  cases hc
  have:=findM_some he
  simp at this
  subst this
  exact memOk_sound hrd hG h σ
 ·exact hF.ctr f args ends hc σ
def ValidM (E:Env) (m:Mem):Prop:=∀ σ,ACalls E m.f m.args σ fun e σ'=>σ'=σ/\e∈m.ends
def ValidMT (E:Env) (m:Mem):Prop:=∀ σ bs M args1,mapO (frz (AStore.only σ bs) M) args1=some m.args->ACalls E m.f args1 σ fun e σ'=>σ'=σ/\e∈m.ends
theorem ValidM.of {E:Env} {F:FTab} (h:FOk E F) {m:Mem} (hm:F.ctr m.f m.args=some m.ends):ValidM E m:=fun σ=>h.ctr _ _ _ hm σ
theorem ValidMT.of {E:Env} {F:FTab} (h:FOk E F) {m:Mem} (hm:F.ctrT m.f m.args=some m.ends):ValidMT E m:=fun σ bs M args1 hz=>h.ctrT _ _ _ hm σ bs M args1 hz
def AllM (E:Env):List Mem->Prop
 | []=>True
 | m::ms=>ValidM E m/\AllM E ms
def AllMT (E:Env):List Mem->Prop
 | []=>True
 | m::ms=>ValidMT E m/\AllMT E ms
theorem AllM.mem {E:Env}:∀ {l:List Mem},AllM E l->∀ m∈l,ValidM E m
  | [],_,_,h=>by cases h
  | x :: l, h, m, hm => by
      rcases List.mem_cons.1 hm with rfl|hm
      · exact h.1
      · exact AllM.mem h.2 m hm
theorem AllMT.mem {E:Env}:∀ {l:List Mem},AllMT E l->∀ m∈l,ValidMT E m
  | [],_,_,h=>by cases h
  | x :: l, h, m, hm => by
      rcases List.mem_cons.1 hm with rfl|hm
      · exact h.1
      · exact AllMT.mem h.2 m hm
end Abs
end
