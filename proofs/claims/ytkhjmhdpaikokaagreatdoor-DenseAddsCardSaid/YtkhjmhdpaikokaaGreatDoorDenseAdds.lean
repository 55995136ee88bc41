/-
  PROVED HERE: the statement DenseAddsCardSaid: for every net, every state with clocks and a wait, and every further wait the call of the law DenseAdds returns true, and the arguments read as they did, where the package-level variable foliot/dense.comparisons starts as the program's text lays it (the tied card).
  The program's functions are shown to answer by plain functions, of which the law is proved over the rational numbers; the run of the fixed examples is computed by the executor of the abstract layer.
-/
import Derived.Test.YtkhjmhdpaikokaaGreatDoorCards
import Derived.Test.YtkhjmhdpaikokaaGreatDoorTie
import Derived.Test.YtkhjmhdpaikokaaGreatDoorDenseAddsO
import Derived.Test.YtkhjmhdpaikokaaGreatDoorFW
import Derived.Test.YtkhjmhdpaikokaaGreatDoorAbsTyW
import Derived.Test.YtkhjmhdpaikokaaGreatDoorAbsRow
import Derived.Test.YtkhjmhdpaikokaaGreatDoorDenseAddsJA
import Derived.Test.YtkhjmhdpaikokaaGreatDoorDenseAddsJB
import Derived.KernelRfl
import Derived.WalkKit
import Derived.ProofKit
import Derived.OpenShut
import Derived.LaidMore
import Derived.LaidLaws
import Derived.SevenTiedAt
import Derived.SizedLaws
set_option linter.unusedVariables false
set_option maxRecDepth 100000
namespace Go.Proofs.YtkhjmhdpaikokaaGreatDoor.denseAdds
open Go Go.ChangeShapes Go.WideShapes Go.ChangeAt Go.RowKit

theorem own:ownKnob Tryz.prog.godebug=none:=by kernel_rfl

/-! ### The fixed examples -/
theorem EE_of (w:World):Abs.EE ⟨w,[]⟩=Abs.Env.ofG Tryz.prog G w:=Abs.EE_ofG w
theorem awake (w:World):Abs.Gives (Abs.EE ⟨w,[]⟩) 8 [] fun v=>v=.sc (.bool true):=by
  rw [EE_of]
  intro σ
  refine Abs.ACalls.mono ((o19 w).ctr 8 [] [(.ret (.sc (.bool true)))] (by kernel_rfl) σ) ?_
  rintro e σ' ⟨rfl,he⟩
  simp only [List.mem_singleton] at he
  exact ⟨rfl,_,rfl,he⟩
/-- The variable is what it is said to be. -/
theorem laid_rel {W:World} (h:laidMetH Tryz.prog Rows.denseAddsRow.laid W) (g:Nat):Abs.VRel 0 (fun _=>⟨0,0,0,0,0⟩) (Abs.allH W) (G g) (.pointer (some ⟨g,0,none⟩)):=
  Abs.funcsAt_rel (h.funcs (n:= "foliot/dense.comparisons") (List.mem_cons_self ..)) (g:=0) (t:=133) (k:=8) (by kernel_rfl) (by kernel_rfl)
    (tbl:=[("foliot/dense.comparisons$1",218),("foliot/dense.comparisons$2",219),("foliot/dense.comparisons$3",220),("foliot/dense.comparisons$4",221)]) (by kernel_rfl) g

/-! ### The walk -/
theorem walk {H : Type} {enc : TypeId × Value → H} {w : World} {v1 v2 v3 : Value} {d1 d2 d3 : DataW H} {p1 p2 p3 : List MemPlace} {r : Reach} {base : Nat} (hl : laidMetH Tryz.prog Rows.denseAddsRow.laid w)
    (hv1:Value.okWide Tryz.prog w r base 27 v1) (hd1:DataW.Trod enc Tryz.prog w 0 (fun _=>true) true 27 v1 d1 p1) (hw1:(d1.weights Tryz.prog 27).all (·<=reachBytes)=true)
    (hv2:Value.okWide Tryz.prog w r base 47 v2) (hd2:DataW.Trod enc Tryz.prog w 0 (fun _=>true) true 47 v2 d2 p2) (hw2:(d2.weights Tryz.prog 47).all (·<=reachBytes)=true)
    (hv3:Value.okWide Tryz.prog w r base 45 v3) (hd3:DataW.Trod enc Tryz.prog w 0 (fun _=>true) true 45 v3 d3 p3) (hw3:(d3.weights Tryz.prog 45).all (·<=reachBytes)=true):
    Calls Tryz.prog 5 #[v1,v2,v3] w fun e w'=>e=.returned (.bool true)/\Abs.Same w w'/\∀ (c:Nat) (o:Obj),w.heap[c]?=some o->w'.heap[c]?=some o:=by
  obtain ⟨f1,x,a1,a2,a3⟩:=Abs.arg_relW (P:=Tryz.prog) (w:=w) (sp:=fun _=>true) (held:=true) (t:=27) (ι:=fun _=>⟨0,0,0,0,0⟩) hv1 hd1 hw1
  obtain ⟨f2,y,b1,b2,b3⟩:=Abs.arg_relW (P:=Tryz.prog) (w:=w) (sp:=fun _=>true) (held:=true) (t:=47) (ι:=fun _=>⟨0,0,0,0,0⟩) hv2 hd2 hw2
  obtain ⟨f3,z,c1,c2,c3⟩:=Abs.arg_relW (P:=Tryz.prog) (w:=w) (sp:=fun _=>true) (held:=true) (t:=45) (ι:=fun _=>⟨0,0,0,0,0⟩) hv3 hd3 hw3
  have a3:x.isAgg=true:=a3.trans (by kernel_rfl)
  have b3:y.isAgg=true:=b3.trans (by kernel_rfl)
  have c3:z.isAgg=true:=c3.trans (by kernel_rfl)
  obtain ⟨n,hN⟩:=Abs.is_nt a1
  rw [<-Abs.agg_of a3 rfl] at hN
  obtain ⟨s,L,U,C,bb,mv,e1,hS,i1,i2⟩:=Abs.is_at b1
  have hy:=Abs.agg_of b3 rfl
  rw [e1] at hy
  subst hy
  obtain ⟨q,hq,i3,i4⟩:=Abs.is_ra _ _ c1
  rw [<-Abs.agg_of c3 rfl] at hq
  subst hq
  have hlaw:=Abs.lawAdds (w:=⟨w,[]⟩) (mv:=mv) hN hS i1 i2 i3 i4 awake
  rw [EE_of] at hlaw
  have:=hlaw _ _ w [v1,v2,v3] (Abs.Rel.startG Tryz.prog G w (laid_rel hl)) (.cons _ _ _ _ a2 (.cons _ _ _ _ b2 (.cons _ _ _ _ c2 .nil)))
  refine Calls.mono this ?_
  rintro e w' ⟨ι',H',σ',ae,rfl,hx,hR,he⟩
  cases hx with
  | ret u u' hu=>
    have:=hu.sc_inv
    subst this
    exact ⟨rfl,hR.keep,fun c o hc=>hR.imm c (true,o) (he.imm c _ (by simp [Abs.allH,hc]))⟩

/-! ### The row -/
theorem door_met (os:Os) (args:Array Value):laidMetH Tryz.prog Rows.denseAddsRow.laid ((World.doorLaid Tryz.prog 200 os).forCall (fun _ _=>0) ⟨#[],args,[]⟩).memory:=
  laidMetH_of_parts3 (fuel:=8) (laidMet_of_run' 8 (by kernel_rfl) (by kernel_rfl)) (by kernel_rfl) (by kernel_rfl)

theorem lifted (os : Os) (started : os.Started) (H : Type) (enc : TypeId × Value → H) :
    ReturnsInHanded {} Tryz.checked os 5 .any (fun w args=>(Rows.denseAddsSpec.pre enc Tryz.prog Tryz.f5 [] false w args/\laidMetH Tryz.prog Rows.denseAddsRow.laid w)/\sizedMet enc Tryz.prog Tryz.f5 (OpenSpec.ofChange Rows.denseAddsSpec) false w args)
      (Rows.denseAddsSpec.post enc Tryz.prog Tryz.f5 false true false false):=by
  refine returnsInHanded_of_change_and (C:=Tryz.checked) (X:=fun w _=>laidMetH Tryz.prog Rows.denseAddsRow.laid w) (fun _ _ _ hh h=>h.of_heap hh) own started (by kernel_rfl) Tryz.func5
    (ChangeSpec.witness_shaped (enc:=enc) (C:=Tryz.checked) (os:=os) (X:=fun w _=>laidMetH Tryz.prog Rows.denseAddsRow.laid w) false (World.doorLaid Tryz.prog 200 os) #[.agg #[.int .i64 0,.slice none 0 0,.slice none 0 0,.slice none 0 0,.slice none 0 0],.agg #[.slice none 0 0,.slice none 0 0,.slice none 0 0,.int .i64 0,.int .i64 0,.int .i64 0],.agg #[.int .i64 0,.int .i64 0]] 8 rfl (World.shaped_of_RefB (by kernel_rfl) (by kernel_rfl)) (by kernel_rfl) (by kernel_rfl) (by kernel_rfl) (door_met os _)) ?_
  intro W base args ds gs before hval0 hW _ hwt hL _
  have hval:∀ (j:Nat) t v,Tryz.f5.params[j]?=some t->args[j]?=some v->Value.okWide Tryz.prog W .any base t v:=hval0
  have hW':=hW
  obtain ⟨p,q,hA0,hV,rfl,hfz,hnd⟩:=hW
  have hA:DataW.TrodAll enc Tryz.prog W 0 (fun _=>true) true Tryz.f5.params.toList args.toList ds p:=hA0
  have hwt:(DataW.weightsEach Tryz.prog (Tryz.f5.params.toList++[]) (ds++gs)).all (·<=reachBytes)=true:=hwt
  rw [Tryz.params5] at hA hval hwt
  obtain ⟨v1,v2,v3,d1,d2,d3,p1,p2,p3,rfl,rfl,rfl,t1,t2,t3⟩:=trodAll_three hA
  obtain ⟨rfl,rfl⟩:=trodVars_none hV
  simp only [List.append_nil,DataW.weightsEach,List.all_append,Bool.and_eq_true] at hwt
  refine (walk hL (hval 0 27 v1 rfl rfl) t1 hwt.1 (hval 1 47 v2 rfl rfl) t2 hwt.2.1 (hval 2 45 v3 rfl rfl) t3 hwt.2.2).mono fun e W' ⟨he,hsm,hg⟩=>?_
  subst he
  exact ⟨_,rfl,Abs.post_keeps rfl hW' (fun _ _=>(trodAll_cons_mk (shut_bool Tryz.underlying4 _) trodAll_mk0)) rfl rfl (by kernel_rfl) (by kernel_rfl) hsm hg⟩

theorem and_mk {a b:Bool} (ha:a=true) (hb:b=true):(a && b)=true:=by rw [ha,hb]; rfl
theorem jf_of {P : Program} {f : FuncId} {fn : Func} {s : ChangeSpec} {c : OpenClaim} (hA : (fun (P : Program) (f : FuncId) (fn : Func) (s : ChangeSpec) (c : OpenClaim) => ((c.inPlace == P.inPlace f) && (c.unfollowed == P.unfollowed f) && (c.recurses == P.recurses f) && (c.named == P.varsNamed f) : Bool)) P f fn s c = true)
    (hB:(fun (P:Program) (f:FuncId) (fn:Func) (s:ChangeSpec) (c:OpenClaim)=>(laidOutB P && mapsRowed P && (c.plainKeys==P.plainKeys) && P.stopsHeard && P.mayEnter && (c.lifted==P.liftsFinal) && (P.make==some c.make):Bool)) P f fn s c=true)
    (hC:(fun (P:Program) (f:FuncId) (fn:Func) (s:ChangeSpec) (c:OpenClaim)=>(c.wf (OpenSpec.ofChange s) && fn.params.all (P.readableRec ·) && namedTie P c.named s.vars && (c.stops==[]) && (P.stops==[]) && (c.knobs==[]) && (P.stopKnobs==[]) && (c.maps==(fn.params.toList++s.plain.varTypes P).any (P.mapsRec ·)) && (c.ifaces==(fn.params.toList++s.plain.varTypes P).any (P.ifacesRec ·)) && (c.mapsOut==P.mapsAmong fn.resultTypes.toList) && (c.loops==(fn.params.toList++s.plain.varTypes P).any (P.loopsFrom ·)) && (c.wideKeys==(fn.params.toList++s.plain.varTypes P++fn.resultTypes.toList).any (P.wideKeysFrom ·)) && s.vars.all (P.varReadable ·) && fn.resultTypes.all (fun t=>P.readableRec t && decide (t < P.types.size)) && (c.ifacesOut==fn.resultTypes.toList.any (P.ifacesRec ·)) && (c.loopsOut==fn.resultTypes.toList.any (P.loopsFrom ·)) && c.shortTexts.isNone && (c.kinds==(if c.domain.isEmpty then [] else fn.params.toList.map fun t=>match P.underlying t with|some (.int k)=>some k|_=>none)) && (c.pinned==c.pinnedBy) && (c.veiled==(fn.params.toList++s.plain.varTypes P++fn.resultTypes.toList).any (P.veiledRec ·)) && c.veiledFits P fn.params.toList (fn.params.toList++s.plain.varTypes P++fn.resultTypes.toList):Bool)) P f fn s c=true):joinedFacts P f fn s c=true:=by
  simp only [Bool.and_eq_true] at hA hB hC
  obtain ⟨⟨⟨h9,h10⟩,h11⟩,h12⟩:=hA
  obtain ⟨⟨⟨⟨⟨⟨h1,h2⟩,h22⟩,h24⟩,h25⟩,h26⟩,h27⟩:=hB
  obtain ⟨⟨⟨⟨⟨⟨⟨⟨⟨⟨⟨⟨⟨⟨⟨⟨⟨⟨⟨⟨h0,h3⟩,h4⟩,h5⟩,h6⟩,h7⟩,h8⟩,h13⟩,h14⟩,h15⟩,h16⟩,h17⟩,h18⟩,h19⟩,h20⟩,h21⟩,h23⟩,h28⟩,h29⟩,h30⟩,h31⟩:=hC
  unfold joinedFacts
  simp only [Bool.and_eq_true]
  exact ⟨⟨⟨⟨⟨⟨⟨⟨⟨⟨⟨⟨⟨⟨⟨⟨⟨⟨⟨⟨⟨⟨⟨⟨⟨⟨⟨⟨⟨⟨⟨h0,h1⟩,h2⟩,h3⟩,h4⟩,h5⟩,h6⟩,h7⟩,h8⟩,h9⟩,h10⟩,h11⟩,h12⟩,h13⟩,h14⟩,h15⟩,h16⟩,h17⟩,h18⟩,h19⟩,h20⟩,h21⟩,h22⟩,h23⟩,h24⟩,h25⟩,h26⟩,h27⟩,h28⟩,h29⟩,h30⟩,h31⟩
theorem jf:joinedFacts Tryz.prog 5 Tryz.f5 Rows.denseAddsSpec Rows.denseAddsRow=true:=jf_of jA jB (by kernel_rfl)

theorem over:Rows.denseAddsRow.holds Tryz.pinned (OpenSpec.ofChange Rows.denseAddsSpec):=
  OpenClaim.holds_of_wide 5 Tryz.f5 rfl rfl rfl rfl rfl rfl rfl ⟨rfl,rfl,rfl,rfl,rfl⟩ rfl rfl rfl rfl rfl (by kernel_rfl) Tryz.func5 jf
    (of_decide_eq_true (by kernel_rfl)) (by unfold Func.isWrapper; first|(rw [if_pos (by decide+kernel)]; kernel_rfl)|(rw [if_neg (by decide+kernel)]; exact ⟨rfl,rfl⟩))
    (fun os started H enc _=>lifted os started H enc)

/-- The statement. -/
theorem proved:Rows.DenseAddsCardSaid:=
  Claim7.holds_tied_plain_at .later [] [.funcs] true (true, "35f5cbd0a6a6b26f564d2fb78937a1cb0b8cec7dfe91deed603da658614e7acd") true
    over (fun _ h=>by cases h) (by kernel_rfl) (fun _ h=>by cases h) denseAdds_row_tie rfl ⟨rfl,rfl⟩ (by kernel_rfl) rfl
    (fun f fn hf hfn=>by
      obtain rfl:f=5:=Option.some.inj ((show Tryz.prog.funcNamed "foliot/foliotlaw14.DenseAdds"=some 5 by kernel_rfl).symm.trans hf) |>.symm
      obtain rfl:fn=Tryz.f5:=(Option.some.inj (Tryz.func5.symm.trans hfn)).symm
      exact ⟨by kernel_rfl,fun j t ht=>by
        rw [Tryz.params5] at ht
        cases j with
        | zero=>simp at ht; subst ht; kernel_rfl
        | succ j=>
          cases j with
          | zero=>simp at ht; subst ht; kernel_rfl
          | succ j=>
            cases j with
            | zero=>simp at ht; subst ht; kernel_rfl
            | succ j=>simp at ht⟩)
    (by kernel_rfl)
#print axioms proved
end Go.Proofs.YtkhjmhdpaikokaaGreatDoor.denseAdds
