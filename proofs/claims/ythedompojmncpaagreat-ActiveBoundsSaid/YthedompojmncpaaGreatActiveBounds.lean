/-
  PROVED HERE: the statement ActiveBoundsSaid: for every net, discrete state and list of extra constraints the call of the law ActiveBounds returns true, and the arguments read as they did. There are no conditions.
  Both the program and the reference are shown to answer by the least closed tables of the processes, raised by the extra constraints; the fixed example is walked, too.
-/
import Derived.Test.YthedompojmncpaaGreatRows
import Derived.Test.YthedompojmncpaaGreatActiveBoundsJA
import Derived.Test.YthedompojmncpaaGreatActiveBoundsJB
import Derived.Test.YthedompojmncpaaGreatML
import Derived.Test.YthedompojmncpaaGreatAbsTyW
import Derived.Test.YthedompojmncpaaGreatAbsRow
import Derived.Test.YthedompojmncpaaGreatAbsEn
import Derived.KernelRfl
import Derived.WalkKit
import Derived.ProofKit
import Derived.OpenShut
import Derived.SizedLaws
namespace Go.Proofs.YthedompojmncpaaGreat.activeBounds
open Go Go.ChangeShapes Go.WideShapes Go.ChangeAt Go.RowKit
set_option linter.unusedVariables false

theorem own:ownKnob Tryz.prog.godebug=none:=by kernel_rfl

/-! ### The walk -/
set_option maxRecDepth 100000 in
theorem walk {H : Type} {enc : TypeId × Value → H} {w : World} {v1 v2 v3 : Value} {d1 d2 d3 : DataW H} {p1 p2 p3 : List MemPlace} {r : Reach} {base : Nat}
    (hv1:Value.okWide Tryz.prog w r base 27 v1) (hd1:DataW.Trod enc Tryz.prog w 0 (fun _=>true) true 27 v1 d1 p1) (hw1:(d1.weights Tryz.prog 27).all (·<=reachBytes)=true)
    (hv2:Value.okWide Tryz.prog w r base 31 v2) (hd2:DataW.Trod enc Tryz.prog w 0 (fun _=>true) true 31 v2 d2 p2) (hw2:(d2.weights Tryz.prog 31).all (·<=reachBytes)=true)
    (hv3:Value.okWide Tryz.prog w r base 32 v3) (hd3:DataW.Trod enc Tryz.prog w 0 (fun _=>true) true 32 v3 d3 p3) (hw3:(d3.weights Tryz.prog 32).all (·<=reachBytes)=true):
    Calls Tryz.prog 3 #[v1,v2,v3] w fun e w'=>e=.returned (.bool true)/\Abs.Same w w'/\∀ (c:Nat) (o:Obj),w.heap[c]?=some o->w'.heap[c]?=some o:=by
  obtain ⟨f1,x,a1,a2,a3⟩:=Abs.arg_relW (P:=Tryz.prog) (w:=w) (sp:=fun _=>true) (held:=true) (t:=27) (ι:=fun _=>⟨0,0,0,0,0⟩) hv1 hd1 hw1
  obtain ⟨f2,y,b1,b2,b3⟩:=Abs.arg_relW (P:=Tryz.prog) (w:=w) (sp:=fun _=>true) (held:=true) (t:=31) (ι:=fun _=>⟨0,0,0,0,0⟩) hv2 hd2 hw2
  obtain ⟨f3,z,c1,c2,c3⟩:=Abs.arg_relW (P:=Tryz.prog) (w:=w) (sp:=fun _=>true) (held:=true) (t:=32) (ι:=fun _=>⟨0,0,0,0,0⟩) hv3 hd3 hw3
  have a3:x.isAgg=true:=a3.trans (by kernel_rfl)
  have b3:y.isAgg=true:=b3.trans (by kernel_rfl)
  have c3:z.isAgg=false:=c3.trans (by kernel_rfl)
  obtain ⟨n,hN⟩:=Abs.is_nt a1
  rw [<-Abs.agg_of a3 rfl] at hN
  obtain ⟨s,hS⟩:=Abs.is_stt b1
  rw [<-Abs.agg_of b3 rfl] at hS
  obtain ⟨L,l,e2,hL⟩:=Abs.is_cns c1
  obtain rfl:=Abs.one_of c3 e2
  have:=Abs.lawBounds (w:=⟨w,[]⟩) hN hS hL (fun _=>Abs.awakeC) _ _ w [v1,v2,v3] (Abs.Rel.start Tryz.prog w) (.cons _ _ _ _ a2 (.cons _ _ _ _ b2 (.cons _ _ _ _ c2 .nil)))
  refine Calls.mono this ?_
  rintro e w' ⟨ι',H',σ',ae,rfl,hx,hR,he⟩
  cases hx with
  | ret u u' hu=>
    have:=hu.sc_inv
    subst this
    exact ⟨rfl,hR.keep,fun c o hc=>hR.imm c (true,o) (he.imm c _ (by simp [hc]))⟩

/-! ### The row -/
set_option maxRecDepth 100000 in
theorem lifted (os : Os) (started : os.Started) (H : Type) (enc : TypeId × Value → H) :
    ReturnsInHanded {} Tryz.checked os 3 .any (Rows.activeBoundsSpec.pre6 enc Tryz.prog Tryz.f3 Rows.activeBoundsRow.domain false) (Rows.activeBoundsSpec.post enc Tryz.prog Tryz.f3 false true false false):=by
  refine returnsInHanded_of_change_sized (C:=Tryz.checked) own started (by kernel_rfl) Tryz.func3
    (ChangeSpec.witness6 (enc:=enc) (C:=Tryz.checked) false ⟨#[],#[.agg #[.int .i64 0,.slice none 0 0,.slice none 0 0,.slice none 0 0,.slice none 0 0],.agg #[.slice none 0 0,.slice none 0 0],.slice none 0 0],[]⟩ 8 (by kernel_rfl) (by kernel_rfl) (by kernel_rfl) (by kernel_rfl)) ?_
  intro W base args ds gs before hval0 hW _ hwt _
  have hval:∀ (j:Nat) t v,Tryz.f3.params[j]?=some t->args[j]?=some v->Value.okWide Tryz.prog W .any base t v:=hval0
  have hW':=hW
  obtain ⟨p,q,hA0,hV,rfl,hfz,hnd⟩:=hW
  have hA:DataW.TrodAll enc Tryz.prog W 0 (fun _=>true) true Tryz.f3.params.toList args.toList ds p:=hA0
  have hwt:(DataW.weightsEach Tryz.prog (Tryz.f3.params.toList++[]) (ds++gs)).all (·<=reachBytes)=true:=hwt
  rw [Tryz.params3] at hA hval hwt
  obtain ⟨v1,v2,v3,d1,d2,d3,p1,p2,p3,rfl,rfl,rfl,t1,t2,t3⟩:=trodAll_three hA
  obtain ⟨rfl,rfl⟩:=trodVars_none hV
  simp only [List.append_nil,DataW.weightsEach,List.all_append,Bool.and_eq_true] at hwt
  refine (walk (hval 0 27 v1 rfl rfl) t1 hwt.1 (hval 1 31 v2 rfl rfl) t2 hwt.2.1 (hval 2 32 v3 rfl rfl) t3 hwt.2.2).mono fun e W' ⟨he,hsm,hg⟩=>?_
  subst he
  exact ⟨_,rfl,Abs.post_keeps rfl hW' (fun _ _=>(trodAll_cons_mk (shut_bool Tryz.underlying4 _) trodAll_mk0)) rfl rfl (by kernel_rfl) (by kernel_rfl) hsm hg⟩

theorem and_mk {a b:Bool} (ha:a=true) (hb:b=true):(a && b)=true:=by rw [ha,hb]; rfl
set_option linter.unusedVariables false in
theorem jf_of {P : Program} {f : FuncId} {fn : Func} {s : ChangeSpec} {c : OpenClaim} (hA : (fun (P : Program) (f : FuncId) (fn : Func) (s : ChangeSpec) (c : OpenClaim) => ((c.inPlace == P.inPlace f) && (c.unfollowed == P.unfollowed f) && (c.recurses == P.recurses f) && (c.named == P.varsNamed f) : Bool)) P f fn s c = true)
    (hB:(fun (P:Program) (f:FuncId) (fn:Func) (s:ChangeSpec) (c:OpenClaim)=>(laidOutB P && mapsRowed P && (c.plainKeys==P.plainKeys) && P.stopsHeard && P.mayEnter && (c.lifted==P.liftsFinal) && (P.make==some c.make):Bool)) P f fn s c=true)
    (hC:(fun (P:Program) (f:FuncId) (fn:Func) (s:ChangeSpec) (c:OpenClaim)=>(c.wf (OpenSpec.ofChange s) && fn.params.all (P.readableRec ·) && namedTie P c.named s.vars && (c.stops==[]) && (P.stops==[]) && (c.knobs==[]) && (P.stopKnobs==[]) && (c.maps==(fn.params.toList++s.plain.varTypes P).any (P.mapsRec ·)) && (c.ifaces==(fn.params.toList++s.plain.varTypes P).any (P.ifacesRec ·)) && (c.mapsOut==P.mapsAmong fn.resultTypes.toList) && (c.loops==(fn.params.toList++s.plain.varTypes P).any (P.loopsFrom ·)) && (c.wideKeys==(fn.params.toList++s.plain.varTypes P++fn.resultTypes.toList).any (P.wideKeysFrom ·)) && s.vars.all (P.varReadable ·) && fn.resultTypes.all (fun t=>P.readableRec t && decide (t < P.types.size)) && (c.ifacesOut==fn.resultTypes.toList.any (P.ifacesRec ·)) && (c.loopsOut==fn.resultTypes.toList.any (P.loopsFrom ·)) && c.shortTexts.isNone && (c.kinds==(if c.domain.isEmpty then [] else fn.params.toList.map fun t=>match P.underlying t with|some (.int k)=>some k|_=>none)) && (c.pinned==c.pinnedBy) && (c.veiled==(fn.params.toList++s.plain.varTypes P++fn.resultTypes.toList).any (P.veiledRec ·)) && c.veiledFits P fn.params.toList (fn.params.toList++s.plain.varTypes P++fn.resultTypes.toList):Bool)) P f fn s c=true):joinedFacts P f fn s c=true:=by
  simp only [Bool.and_eq_true] at hA hB hC
  obtain ⟨⟨⟨h9,h10⟩,h11⟩,h12⟩:=hA
  obtain ⟨⟨⟨⟨⟨⟨h1,h2⟩,h22⟩,h24⟩,h25⟩,h26⟩,h27⟩:=hB
  obtain ⟨⟨⟨⟨⟨⟨⟨⟨⟨⟨⟨⟨⟨⟨⟨⟨⟨⟨⟨⟨h0,h3⟩,h4⟩,h5⟩,h6⟩,h7⟩,h8⟩,h13⟩,h14⟩,h15⟩,h16⟩,h17⟩,h18⟩,h19⟩,h20⟩,h21⟩,h23⟩,h28⟩,h29⟩,h30⟩,h31⟩:=hC
  unfold joinedFacts
  simp only [Bool.and_eq_true]
  exact ⟨⟨⟨⟨⟨⟨⟨⟨⟨⟨⟨⟨⟨⟨⟨⟨⟨⟨⟨⟨⟨⟨⟨⟨⟨⟨⟨⟨⟨⟨⟨h0,h1⟩,h2⟩,h3⟩,h4⟩,h5⟩,h6⟩,h7⟩,h8⟩,h9⟩,h10⟩,h11⟩,h12⟩,h13⟩,h14⟩,h15⟩,h16⟩,h17⟩,h18⟩,h19⟩,h20⟩,h21⟩,h22⟩,h23⟩,h24⟩,h25⟩,h26⟩,h27⟩,h28⟩,h29⟩,h30⟩,h31⟩
theorem jf:joinedFacts Tryz.prog 3 Tryz.f3 Rows.activeBoundsSpec Rows.activeBoundsRow=true:=jf_of jA jB (by kernel_rfl)

theorem over:Rows.activeBoundsRow.holds Tryz.pinned (OpenSpec.ofChange Rows.activeBoundsSpec):=
  OpenClaim.holds_of_wide 3 Tryz.f3 rfl rfl rfl rfl rfl rfl rfl ⟨rfl,rfl,rfl,rfl,rfl⟩ rfl rfl rfl rfl rfl (by kernel_rfl) Tryz.func3 jf
    (of_decide_eq_true (by kernel_rfl)) (by unfold Func.isWrapper; first|(rw [if_pos (by decide+kernel)]; kernel_rfl)|(rw [if_neg (by decide+kernel)]; exact ⟨rfl,rfl⟩))
    (fun os started H enc _=>lifted os started H enc)

/-- The statement. -/
theorem proved:Rows.ActiveBoundsSaid:=
  over
#print axioms proved
end Go.Proofs.YthedompojmncpaaGreat.activeBounds
