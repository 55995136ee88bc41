/-
  PROVED HERE: the statement EvalLawsSaid: for any three numbers the call of the law EvalLaws returns true, and the arguments read as they did. There are no conditions.
  eval.Value is shown to answer by a plain function on expressions without calls, for which the laws hold; what the parser makes of the fixed texts is computed by the executor of the abstract layer.
-/
import Derived.Test.YtdbkkindfakbfaaRows
import Derived.Test.YtdbkkindfakbfaaEvalLawsJA
import Derived.Test.YtdbkkindfakbfaaEvalLawsJB
import Derived.Test.YtdbkkindfakbfaaEvalLawsO
import Derived.Test.YtdbkkindfakbfaaEvG
import Derived.Test.YtdbkkindfakbfaaAbsTyW
import Derived.Test.YtdbkkindfakbfaaAbsRow
import Derived.KernelRfl
import Derived.WalkKit
import Derived.ProofKit
import Derived.OpenShut
import Derived.SizedLaws
namespace Go.Proofs.Ytdbkkindfakbfaa.evalLaws
open Go Go.ChangeShapes Go.WideShapes Go.ChangeAt Go.RowKit
set_option linter.unusedVariables false

theorem own:ownKnob Try.prog.godebug=none:=by kernel_rfl

/-! ### The fixed examples -/
theorem ent (w:World) {f:FuncId} {args:List Abs.AVal} {X:Abs.AVal} (h:F158.ctr f args=some [.ret X]):Abs.GivesV (Abs.EE ⟨w,[]⟩) f args X:=by
  rw [Abs.EE_of]
  intro σ
  refine Abs.ACalls.mono ((o158 w).ctr f args [.ret X] h σ) ?_
  rintro e σ' ⟨rfl,he⟩
  simp only [List.mem_singleton] at he
  exact ⟨rfl,he⟩
theorem un_of (e:Abs.Env) (d:List Abs.ADef):({({e with ds:=d}:Abs.Env) with ds:=[]}:Abs.Env)={e with ds:=[]}:=rfl
theorem EE_un (w:Abs.WD):({Abs.EE w with ds:=[]}:Abs.Env)=Abs.EE ⟨w.w,[]⟩:=un_of (Abs.Env.of Try.prog w.w) w.ds
theorem entW {f:FuncId} {args:List Abs.AVal} {X:Abs.AVal} (h:F158.ctr f args=some [.ret X]) (w:Abs.WD):Abs.GivesV (Abs.EE w) f args X:=by
  have h:=ent w.w h
  rw [<-EE_un] at h
  exact fun σ=>Abs.ACalls.unds (h σ)
/-- The tables, two calls that were walked, and the function that shows the examples. -/
def r1:Abs.Mem:=⟨9,Abs.callA 10,[.ret (.tuple [.sc (.int .i64 55),.sc (.int .i64 120),.sc (.int .i64 0),.sc (.bool false)])]⟩
def r2:Abs.Mem:=⟨9,Abs.callA 1000,[.ret (.tuple [.sc (.int .i64 0),.sc (.int .i64 1000),.sc (.int .i64 101),.sc (.bool false)])]⟩
noncomputable def FH:Abs.FTab:=(F158.memoT [r1]).memoT [r2]
set_option maxRecDepth 100000 in
theorem oH (w:World):Abs.FOk (Abs.Env.of Try.prog w) FH:=by
  have h:=o158 w
  rw [<-Abs.EE_of] at h
  have k1:=Abs.FOk.handR h (Abs.call10 (w:=⟨w,[]⟩) (entW (by kernel_rfl)))
  have k2:=Abs.FOk.handR k1 (Abs.call1000 (w:=⟨w,[]⟩) (entW (by kernel_rfl)))
  rw [Abs.EE_of] at k2
  exact k2
def ms:Abs.Mem:=⟨4,[],[.ret (.sc (.bool true))]⟩
set_option maxRecDepth 100000 in
theorem cS (w:World):Abs.memOk (Abs.Env.of Try.prog w) (FH.gate F0 (gm ||| 512)) 1000 ms=true:=by kernel_rfl
theorem oS (w:World):Abs.FOk (Abs.Env.of Try.prog w) (FH.memo [ms]):=Abs.FOk.memoG rfl (oH w) ((oH w).gate (o0 w) (gm ||| 512)) (cS w)
set_option maxRecDepth 100000 in
theorem awake (w:World):Abs.Gives (Abs.EE ⟨w,[]⟩) 4 [] fun v=>v=.sc (.bool true):=by
  rw [Abs.EE_of]
  intro σ
  refine Abs.ACalls.mono ((oS w).ctr 4 [] [(.ret (.sc (.bool true)))] (by kernel_rfl) σ) ?_
  rintro e σ' ⟨rfl,he⟩
  simp only [List.mem_singleton] at he
  exact ⟨rfl,_,rfl,he⟩
theorem mk (w : World) (j : Nat) (hj : j < Abs.exL.length) {t : ByteArray} (h1 : F158.ctr 6 [.sc (.string t)] = some [.ret (Abs.exA (Abs.exL[j]'hj))]) (h2 : F158.ctr 13 [Abs.exA (Abs.exL[j]'hj), .data 1 false Abs.nmL, .sc (.slice none 0 0)] = some [.ret (.sc (.int .i64 0))]) :
    ∃ x X,Abs.IsEx x X/\Abs.okX x=true/\Abs.nodesE x<=1000/\Abs.GivesV (Abs.EE ⟨w,[]⟩) 6 [Abs.sA t] X/\(∀ w:Abs.WD,Abs.GivesV (Abs.EE w) 13 [X,.data 1 false Abs.nmL,.sc (.slice none 0 0)] (.sc (.int .i64 0)))/\
      ∀ A B C:Int,-1000 < A->A < 1000->-1000 < B->B < 1000->-1000 < C->C < 1000->Abs.evX 100 7 (Abs.gval (Abs.glL A B C)) x=(1,0):=by
  have hm:=List.getElem_mem hj
  obtain ⟨s1,s2,s3⟩:=Abs.exL_sz _ hm
  exact ⟨_,_,Abs.exA_is s1,s2,s3,ent w h1,entW h2,fun A B C a1 a2 b1 b2 c1 c2=>Abs.law_ev a1 a2 b1 b2 c1 c2 _ hm⟩
set_option maxRecDepth 100000 in
theorem parsed (w : World) (j : Nat) (t : ByteArray) (h : Abs.txL[j]? = some t) : ∃ x X, Abs.IsEx x X ∧ Abs.okX x = true ∧ Abs.nodesE x ≤ 1000 ∧ Abs.GivesV (Abs.EE ⟨w, []⟩) 6 [Abs.sA t] X ∧ (∀ w : Abs.WD, Abs.GivesV (Abs.EE w) 13 [X, .data 1 false Abs.nmL, .sc (.slice none 0 0)] (.sc (.int .i64 0))) ∧
      ∀ A B C:Int,-1000 < A->A < 1000->-1000 < B->B < 1000->-1000 < C->C < 1000->Abs.evX 100 7 (Abs.gval (Abs.glL A B C)) x=(1,0):=by
  have hj:j < 13:=by
    rcases Nat.lt_or_ge j 13 with h'|h'
    · exact h'
    · rw [List.getElem?_eq_none (show Abs.txL.length<=j from h')] at h; cases h
  have hc:j=0\/j=1\/j=2\/j=3\/j=4\/j=5\/j=6\/j=7\/j=8\/j=9\/j=10\/j=11\/j=12:=by omega
  rcases hc with rfl|rfl|rfl|rfl|rfl|rfl|rfl|rfl|rfl|rfl|rfl|rfl|rfl
  · obtain rfl:=Option.some.inj h
    exact mk w 0 (by decide) (by kernel_rfl) (by kernel_rfl)
  · obtain rfl:=Option.some.inj h
    exact mk w 1 (by decide) (by kernel_rfl) (by kernel_rfl)
  · obtain rfl:=Option.some.inj h
    exact mk w 2 (by decide) (by kernel_rfl) (by kernel_rfl)
  · obtain rfl:=Option.some.inj h
    exact mk w 3 (by decide) (by kernel_rfl) (by kernel_rfl)
  · obtain rfl:=Option.some.inj h
    exact mk w 4 (by decide) (by kernel_rfl) (by kernel_rfl)
  · obtain rfl:=Option.some.inj h
    exact mk w 5 (by decide) (by kernel_rfl) (by kernel_rfl)
  · obtain rfl:=Option.some.inj h
    exact mk w 6 (by decide) (by kernel_rfl) (by kernel_rfl)
  · obtain rfl:=Option.some.inj h
    exact mk w 7 (by decide) (by kernel_rfl) (by kernel_rfl)
  · obtain rfl:=Option.some.inj h
    exact mk w 8 (by decide) (by kernel_rfl) (by kernel_rfl)
  · obtain rfl:=Option.some.inj h
    exact mk w 9 (by decide) (by kernel_rfl) (by kernel_rfl)
  · obtain rfl:=Option.some.inj h
    exact mk w 10 (by decide) (by kernel_rfl) (by kernel_rfl)
  · obtain rfl:=Option.some.inj h
    exact mk w 11 (by decide) (by kernel_rfl) (by kernel_rfl)
  · obtain rfl:=Option.some.inj h
    exact mk w 12 (by decide) (by kernel_rfl) (by kernel_rfl)

/-! ### The walk -/
theorem i32_of {n:Nat} {x:Abs.AVal} (hc:x.isAgg=false) (h:Abs.HasTyW Try.prog n 21 x.cells):∃ a:Int,x=.sc (.int .i32 a):=by
  cases n with
  | zero=>exact h.elim
  | succ n=>
    unfold Abs.HasTyW at h
    rw [show Abs.shape Try.prog 21=.int .i32 by kernel_rfl] at h
    obtain ⟨a,_,h⟩:=h
    exact ⟨a,Abs.one_of hc h⟩
set_option maxRecDepth 100000 in
theorem walk {H : Type} {enc : TypeId × Value → H} {w : World} {v1 v2 v3 : Value} {d1 d2 d3 : DataW H} {p1 p2 p3 : List MemPlace} {r : Reach} {base : Nat}
    (hv1:Value.okWide Try.prog w r base 21 v1) (hd1:DataW.Trod enc Try.prog w 0 (fun _=>true) true 21 v1 d1 p1) (hw1:(d1.weights Try.prog 21).all (·<=reachBytes)=true)
    (hv2:Value.okWide Try.prog w r base 21 v2) (hd2:DataW.Trod enc Try.prog w 0 (fun _=>true) true 21 v2 d2 p2) (hw2:(d2.weights Try.prog 21).all (·<=reachBytes)=true)
    (hv3:Value.okWide Try.prog w r base 21 v3) (hd3:DataW.Trod enc Try.prog w 0 (fun _=>true) true 21 v3 d3 p3) (hw3:(d3.weights Try.prog 21).all (·<=reachBytes)=true):
    Calls Try.prog 3 #[v1,v2,v3] w fun e w'=>e=.returned (.bool true)/\Abs.Same w w'/\∀ (c:Nat) (o:Obj),w.heap[c]?=some o->w'.heap[c]?=some o:=by
  obtain ⟨f1,x,a1,a2,a3⟩:=Abs.arg_relW (P:=Try.prog) (w:=w) (sp:=fun _=>true) (held:=true) (t:=21) (ι:=fun _=>⟨0,0,0,0,0⟩) hv1 hd1 hw1
  obtain ⟨f2,y,b1,b2,b3⟩:=Abs.arg_relW (P:=Try.prog) (w:=w) (sp:=fun _=>true) (held:=true) (t:=21) (ι:=fun _=>⟨0,0,0,0,0⟩) hv2 hd2 hw2
  obtain ⟨f3,z,c1,c2,c3⟩:=Abs.arg_relW (P:=Try.prog) (w:=w) (sp:=fun _=>true) (held:=true) (t:=21) (ι:=fun _=>⟨0,0,0,0,0⟩) hv3 hd3 hw3
  have a3:x.isAgg=false:=a3.trans (by kernel_rfl)
  have b3:y.isAgg=false:=b3.trans (by kernel_rfl)
  have c3:z.isAgg=false:=c3.trans (by kernel_rfl)
  obtain ⟨a,rfl⟩:=i32_of a3 a1
  obtain ⟨b,rfl⟩:=i32_of b3 b1
  obtain ⟨c,rfl⟩:=i32_of c3 c1
  have:=Abs.lawEval (w:=⟨w,[]⟩) (a:=a) (b:=b) (c:=c) (awake w) (parsed w) Abs.empty _ _ w [v1,v2,v3] (Abs.Rel.start Try.prog w) (.cons _ _ _ _ a2 (.cons _ _ _ _ b2 (.cons _ _ _ _ c2 .nil)))
  refine Calls.mono this ?_
  rintro e w' ⟨ι',H',σ',ae,⟨rfl,_,rfl,rfl⟩,hx,hR,he⟩
  cases hx with
  | ret u u' hu=>
    have:=hu.sc_inv
    subst this
    exact ⟨rfl,hR.keep,fun c o hc=>hR.imm c (true,o) (he.imm c _ (by simp [hc]))⟩

/-! ### The row -/
set_option maxRecDepth 100000 in
theorem lifted (os : Os) (started : os.Started) (H : Type) (enc : TypeId × Value → H) :
    ReturnsInHanded {} Try.checked os 3 .any (Rows.evalLawsSpec.pre6 enc Try.prog Try.f3 Rows.evalLawsRow.domain false) (Rows.evalLawsSpec.post enc Try.prog Try.f3 false true false false):=by
  refine returnsInHanded_of_change_sized (C:=Try.checked) own started (by kernel_rfl) Try.func3
    (ChangeSpec.witness6 (enc:=enc) (C:=Try.checked) false ⟨#[],#[.int .i32 0,.int .i32 0,.int .i32 0],[]⟩ 8 (by kernel_rfl) (by kernel_rfl) (by kernel_rfl) (by kernel_rfl)) ?_
  intro W base args ds gs before hval0 hW _ hwt _
  have hval:∀ (j:Nat) t v,Try.f3.params[j]?=some t->args[j]?=some v->Value.okWide Try.prog W .any base t v:=hval0
  have hW':=hW
  obtain ⟨p,q,hA0,hV,rfl,hfz,hnd⟩:=hW
  have hA:DataW.TrodAll enc Try.prog W 0 (fun _=>true) true Try.f3.params.toList args.toList ds p:=hA0
  have hwt:(DataW.weightsEach Try.prog (Try.f3.params.toList++[]) (ds++gs)).all (·<=reachBytes)=true:=hwt
  rw [Try.params3] at hA hval hwt
  obtain ⟨v1,v2,v3,d1,d2,d3,p1,p2,p3,rfl,rfl,rfl,t1,t2,t3⟩:=trodAll_three hA
  obtain ⟨rfl,rfl⟩:=trodVars_none hV
  simp only [List.append_nil,DataW.weightsEach,List.all_append,Bool.and_eq_true] at hwt
  refine (walk (hval 0 21 v1 rfl rfl) t1 hwt.1 (hval 1 21 v2 rfl rfl) t2 hwt.2.1 (hval 2 21 v3 rfl rfl) t3 hwt.2.2).mono fun e W' ⟨he,hsm,hg⟩=>?_
  subst he
  exact ⟨_,rfl,Abs.post_keeps rfl hW' (fun _ _=>(trodAll_cons_mk (shut_bool Try.underlying4 _) trodAll_mk0)) rfl rfl (by kernel_rfl) (by kernel_rfl) hsm hg⟩

theorem and_mk {a b:Bool} (ha:a=true) (hb:b=true):(a && b)=true:=by rw [ha,hb]; rfl
set_option linter.unusedVariables false in
theorem jf_of {P : Program} {f : FuncId} {fn : Func} {s : ChangeSpec} {c : OpenClaim} (hA : (fun (P : Program) (f : FuncId) (fn : Func) (s : ChangeSpec) (c : OpenClaim) => ((c.inPlace == P.inPlace f) && (c.unfollowed == P.unfollowed f) && (c.recurses == P.recurses f) && (c.named == P.varsNamed f) : Bool)) P f fn s c = true)
    (hB:(fun (P:Program) (f:FuncId) (fn:Func) (s:ChangeSpec) (c:OpenClaim)=>(laidOutB P && mapsRowed P && (c.plainKeys==P.plainKeys) && P.stopsHeard && P.mayEnter && (c.lifted==P.liftsFinal) && (P.make==some c.make):Bool)) P f fn s c=true)
    (hC:(fun (P:Program) (f:FuncId) (fn:Func) (s:ChangeSpec) (c:OpenClaim)=>(c.wf (OpenSpec.ofChange s) && fn.params.all (P.readableRec ·) && namedTie P c.named s.vars && (c.stops==[]) && (P.stops==[]) && (c.knobs==[]) && (P.stopKnobs==[]) && (c.maps==(fn.params.toList++s.plain.varTypes P).any (P.mapsRec ·)) && (c.ifaces==(fn.params.toList++s.plain.varTypes P).any (P.ifacesRec ·)) && (c.mapsOut==P.mapsAmong fn.resultTypes.toList) && (c.loops==(fn.params.toList++s.plain.varTypes P).any (P.loopsFrom ·)) && (c.wideKeys==(fn.params.toList++s.plain.varTypes P++fn.resultTypes.toList).any (P.wideKeysFrom ·)) && s.vars.all (P.varReadable ·) && fn.resultTypes.all (fun t=>P.readableRec t && decide (t < P.types.size)) && (c.ifacesOut==fn.resultTypes.toList.any (P.ifacesRec ·)) && (c.loopsOut==fn.resultTypes.toList.any (P.loopsFrom ·)) && c.shortTexts.isNone && (c.kinds==(if c.domain.isEmpty then [] else fn.params.toList.map fun t=>match P.underlying t with|some (.int k)=>some k|_=>none)) && (c.pinned==c.pinnedBy) && (c.veiled==(fn.params.toList++s.plain.varTypes P++fn.resultTypes.toList).any (P.veiledRec ·)) && c.veiledFits P fn.params.toList (fn.params.toList++s.plain.varTypes P++fn.resultTypes.toList):Bool)) P f fn s c=true):joinedFacts P f fn s c=true:=by
  simp only [Bool.and_eq_true] at hA hB hC
  obtain ⟨⟨⟨h9,h10⟩,h11⟩,h12⟩:=hA
  obtain ⟨⟨⟨⟨⟨⟨h1,h2⟩,h22⟩,h24⟩,h25⟩,h26⟩,h27⟩:=hB
  obtain ⟨⟨⟨⟨⟨⟨⟨⟨⟨⟨⟨⟨⟨⟨⟨⟨⟨⟨⟨⟨h0,h3⟩,h4⟩,h5⟩,h6⟩,h7⟩,h8⟩,h13⟩,h14⟩,h15⟩,h16⟩,h17⟩,h18⟩,h19⟩,h20⟩,h21⟩,h23⟩,h28⟩,h29⟩,h30⟩,h31⟩:=hC
  unfold joinedFacts
  simp only [Bool.and_eq_true]
  exact ⟨⟨⟨⟨⟨⟨⟨⟨⟨⟨⟨⟨⟨⟨⟨⟨⟨⟨⟨⟨⟨⟨⟨⟨⟨⟨⟨⟨⟨⟨⟨h0,h1⟩,h2⟩,h3⟩,h4⟩,h5⟩,h6⟩,h7⟩,h8⟩,h9⟩,h10⟩,h11⟩,h12⟩,h13⟩,h14⟩,h15⟩,h16⟩,h17⟩,h18⟩,h19⟩,h20⟩,h21⟩,h22⟩,h23⟩,h24⟩,h25⟩,h26⟩,h27⟩,h28⟩,h29⟩,h30⟩,h31⟩
theorem jf:joinedFacts Try.prog 3 Try.f3 Rows.evalLawsSpec Rows.evalLawsRow=true:=jf_of jA jB (by kernel_rfl)

theorem over:Rows.evalLawsRow.holds Try.pinned (OpenSpec.ofChange Rows.evalLawsSpec):=
  OpenClaim.holds_of_wide 3 Try.f3 rfl rfl rfl rfl rfl rfl rfl ⟨rfl,rfl,rfl,rfl,rfl⟩ rfl rfl rfl rfl rfl (by kernel_rfl) Try.func3 jf
    (of_decide_eq_true (by kernel_rfl)) (by unfold Func.isWrapper; first|(rw [if_pos (by decide+kernel)]; kernel_rfl)|(rw [if_neg (by decide+kernel)]; exact ⟨rfl,rfl⟩))
    (fun os started H enc _=>lifted os started H enc)

/-- The statement. -/
theorem proved:Rows.EvalLawsSaid:=
  over
#print axioms proved
end Go.Proofs.Ytdbkkindfakbfaa.evalLaws
