/-
  PROVED HERE: the statement EvalValuesSaid: for every expression, names with values, and functions the call of the law EvalValues returns true, and the arguments read as they did. There are no conditions.
  The program and the document are both shown to answer by one plain function; the run of the fixed examples is computed by the executor of the abstract layer.
-/
import Derived.Test.YtdbkkindfakbfaaGreatRows
import Derived.Test.YtdbkkindfakbfaaGreatEvalValuesJA
import Derived.Test.YtdbkkindfakbfaaGreatEvalValuesJB
import Derived.Test.YtdbkkindfakbfaaGreatEvalValuesO
import Derived.Test.YtdbkkindfakbfaaGreatEvG
import Derived.Test.YtdbkkindfakbfaaGreatHF
import Derived.Test.YtdbkkindfakbfaaGreatAbsTyW
import Derived.Test.YtdbkkindfakbfaaGreatAbsRow
import Derived.KernelRfl
import Derived.WalkKit
import Derived.ProofKit
import Derived.OpenShut
import Derived.SizedLaws
set_option linter.unusedVariables false
set_option maxRecDepth 100000
namespace Go.Proofs.YtdbkkindfakbfaaGreat.evalValues
open Go Go.ChangeShapes Go.WideShapes Go.ChangeAt Go.RowKit

theorem own:ownKnob Tryz.prog.godebug=none:=by kernel_rfl

/-! ### The fixed examples -/
theorem hT (n:Int) (hn:n=10\/n=1000) (w:Abs.WD):Abs.GivesV (Abs.EE w) 27 [Abs.exA (Abs.callF n),.data 1 false [Abs.sA ⟨#[118]⟩],.data 3 false [Abs.fcA Abs.sumF]] (.sc (.int .i64 0)):=by
  have h:Abs.expP Abs.nameB (Abs.callF n) [⟨#[118]⟩] [Abs.sumF]=0:=by rcases hn with rfl|rfl<;>kernel_rfl
  have hz:Abs.szX (Abs.callF n)=true:=by rcases hn with rfl|rfl<;>decide+kernel
  have:=Abs.tExpTC (w:=w) (x:=Abs.callF n) (fs:=[Abs.sumF]) (g:=[⟨#[118]⟩]) (Abs.exA_is hz) (show (2:Nat)<=_ by decide) (L:=.data 3 false [Abs.fcA Abs.sumF]) (.inr ⟨false,rfl⟩) Abs.sumF_ok.d (by decide) (by decide+kernel) (S:=.data 1 false [Abs.sA ⟨#[118]⟩]) (.inr ⟨false,rfl⟩) (by decide)
  rw [h] at this
  exact this
/-- The tables, two calls that were walked, and the function that shows the examples. -/
def r1:Abs.Mem:=⟨19,Abs.callA 10,[.ret (.tuple [.sc (.int .i64 55),.sc (.int .i64 120),.sc (.int .i64 0),.sc (.bool false)])]⟩
def r2:Abs.Mem:=⟨19,Abs.callA 1000,[.ret (.tuple [.sc (.int .i64 0),.sc (.int .i64 1000),.sc (.int .i64 101),.sc (.bool false)])]⟩
noncomputable def FH:Abs.FTab:=(F30.memoT [r1]).memoT [r2]
theorem oH (w:World):Abs.FOk (Abs.Env.of Tryz.prog w) FH:=by
  have h:=o30 w
  rw [<-Abs.EE_of] at h
  have k1:=Abs.FOk.handR h (Abs.call10 (w:=⟨w,[]⟩) (hT 10 (.inl rfl)))
  have k2:=Abs.FOk.handR k1 (Abs.call1000 (w:=⟨w,[]⟩) (hT 1000 (.inr rfl)))
  rw [Abs.EE_of] at k2
  exact k2
def ms:Abs.Mem:=⟨5,[],[.ret (.sc (.bool true))]⟩
theorem cS (w:World):Abs.memOk (Abs.Env.of Tryz.prog w) (FH.gate F0 (gm ||| 524288)) 1000 ms=true:=by kernel_rfl
theorem oS (w:World):Abs.FOk (Abs.Env.of Tryz.prog w) (FH.memo [ms]):=Abs.FOk.memoG rfl (oH w) ((oH w).gate (o0 w) (gm ||| 524288)) (cS w)
theorem awake (w:World):Abs.Gives (Abs.EE ⟨w,[]⟩) 5 [] fun v=>v=.sc (.bool true):=by
  rw [Abs.EE_of]
  intro σ
  refine Abs.ACalls.mono ((oS w).ctr 5 [] [(.ret (.sc (.bool true)))] (by kernel_rfl) σ) ?_
  rintro e σ' ⟨rfl,he⟩
  simp only [List.mem_singleton] at he
  exact ⟨rfl,_,rfl,he⟩
/-! What no one writes. -/
mutual
theorem stDat:∀ {x:Abs.St} {v:Abs.AVal},Abs.IsSt x v->Abs.Dat v
  | .mk k nm w body els, v, h => by
      simp only [Abs.IsSt] at h
      obtain ⟨SA,SB,SE,ea,eb,ee,rfl,hA,ha,hB,hb,hE,he,_⟩:=h
      exact .agg _ (.cons _ _ (.sc _) (.cons _ _ (.sc _) (.cons _ _ (.sc _) (.cons _ _ (.sc _) (.cons _ _ (.sc _) (.cons _ _ (Abs.IsD.dat hA (Abs.IsExs.dat ha)) (.cons _ _ (Abs.IsD.dat hB (stsDat hb)) (.cons _ _ (Abs.IsD.dat hE (stsDat he)) .nil))))))))
theorem stsDat:∀ {zs:List Abs.St} {els:List Abs.AVal},Abs.IsSts zs els->Abs.Dats els
  | [],els,h=>by simp only [Abs.IsSts] at h; subst h; exact .nil
  | x :: xs, els, h => by
      simp only [Abs.IsSts] at h
      obtain ⟨e,es,rfl,h1,h⟩:=h
      exact .cons _ _ (stDat h1) (stsDat h)
end
theorem saDat:∀ l:List ByteArray,Abs.Dats (l.map Abs.sA)
  | []=>.nil
  | x::l=>.cons _ _ (.sc _) (saDat l)
theorem fcDat {f:Abs.Fc} {w:Abs.AVal} (h:Abs.IsFc f w):Abs.Dat w:=by
  obtain ⟨SP,SB,eb,rfl,hP,hB,hb,_⟩:=h
  exact .agg _ (.cons _ _ (.sc _) (.cons _ _ (Abs.IsD.dat hP (saDat _)) (.cons _ _ (Abs.IsD.dat hB (stsDat hb)) .nil)))
theorem datsOf:∀ {l:List Abs.AVal},(∀ x∈l,Abs.Dat x)->Abs.Dats l
  | [],_=>.nil
  | x::l,h=>.cons x l (h x (by simp)) (datsOf fun y hy=>h y (by simp [hy]))
theorem fcsDat {l:List Abs.Fc} {els:List Abs.AVal} (h:Abs.IsFcs l els):Abs.Dats els:=datsOf fun e he=>by
  obtain ⟨j,hj,rfl⟩:=List.mem_iff_getElem.1 he
  have hl:=h.len
  obtain ⟨e',he',h2⟩:=h.at' j (l[j]'(by omega)) (List.getElem?_eq_getElem _)
  rw [List.getElem?_eq_getElem hj] at he'
  cases he'
  exact fcDat h2

/-! ### The walk -/
theorem walk {H : Type} {enc : TypeId × Value → H} {w : World} {v1 v2 v3 : Value} {d1 d2 d3 : DataW H} {p1 p2 p3 : List MemPlace} {r : Reach} {base : Nat}
    (hv1:Value.okWide Tryz.prog w r base 24 v1) (hd1:DataW.Trod enc Tryz.prog w 0 (fun _=>true) true 24 v1 d1 p1) (hw1:(d1.weights Tryz.prog 24).all (·<=reachBytes)=true)
    (hv2:Value.okWide Tryz.prog w r base 28 v2) (hd2:DataW.Trod enc Tryz.prog w 0 (fun _=>true) true 28 v2 d2 p2) (hw2:(d2.weights Tryz.prog 28).all (·<=reachBytes)=true)
    (hv3:Value.okWide Tryz.prog w r base 29 v3) (hd3:DataW.Trod enc Tryz.prog w 0 (fun _=>true) true 29 v3 d3 p3) (hw3:(d3.weights Tryz.prog 29).all (·<=reachBytes)=true):
    Calls Tryz.prog 3 #[v1,v2,v3] w fun e w'=>e=.returned (.bool true)/\Abs.Same w w'/\∀ (c:Nat) (o:Obj),w.heap[c]?=some o->w'.heap[c]?=some o:=by
  obtain ⟨f1,x,a1,a2,a3⟩:=Abs.arg_relW (P:=Tryz.prog) (w:=w) (sp:=fun _=>true) (held:=true) (t:=24) (ι:=fun _=>⟨0,0,0,0,0⟩) hv1 hd1 hw1
  obtain ⟨f2,y,b1,b2,b3⟩:=Abs.arg_relW (P:=Tryz.prog) (w:=w) (sp:=fun _=>true) (held:=true) (t:=28) (ι:=fun _=>⟨0,0,0,0,0⟩) hv2 hd2 hw2
  obtain ⟨f3,z,c1,c2,c3⟩:=Abs.arg_relW (P:=Tryz.prog) (w:=w) (sp:=fun _=>true) (held:=true) (t:=29) (ι:=fun _=>⟨0,0,0,0,0⟩) hv3 hd3 hw3
  have a3:x.isAgg=true:=a3.trans (by kernel_rfl)
  have b3:y.isAgg=true:=b3.trans (by kernel_rfl)
  have c3:z.isAgg=false:=c3.trans (by kernel_rfl)
  obtain ⟨X,hX⟩:=(Abs.is_ex _).1 _ a1
  rw [<-Abs.agg_of a3 rfl] at hX
  obtain ⟨N,V,ns,vs,e1,hN,hV,hl,hs⟩:∃ (N V:Abs.AVal) (ns:List ByteArray) (ws:List Int),y.cells=[N,V]/\Abs.IsD 1 N (ns.map Abs.sA)/\Abs.IsD 1 V (ws.map fun v=>Abs.AVal.sc (.int .i64 v))/\ns.length<=281474976710656/\∀ s∈ns,s.size<=281474976710656:=by
    cases f2 with
    | zero=>exact b1.elim
    | succ n=>exact Abs.is_given b1
  have hy:=Abs.agg_of b3 rfl
  rw [e1] at hy
  obtain ⟨L,els,fs,e2,hL,hF,hlen⟩:=Abs.is_fcs c1
  obtain rfl:=Abs.one_of c3 e2
  subst hy
  have:=Abs.valuesLaw (w:=⟨w,[]⟩) hX hN hV hl hs hL hF (fcsDat hF) hlen (awake w) Abs.empty _ _ w [v1,v2,v3] (Abs.Rel.start Tryz.prog w) (.cons _ _ _ _ a2 (.cons _ _ _ _ b2 (.cons _ _ _ _ c2 .nil)))
  refine Calls.mono this ?_
  rintro e w' ⟨ι',H',σ',ae,⟨rfl,_,rfl,rfl⟩,hx,hR,he⟩
  cases hx with
  | ret u u' hu=>
    have:=hu.sc_inv
    subst this
    exact ⟨rfl,hR.keep,fun c o hc=>hR.imm c (true,o) (he.imm c _ (by simp [hc]))⟩

/-! ### The row -/
theorem lifted (os : Os) (started : os.Started) (H : Type) (enc : TypeId × Value → H) :
    ReturnsInHanded {} Tryz.checked os 3 .any (Rows.evalValuesSpec.pre6 enc Tryz.prog Tryz.f3 Rows.evalValuesRow.domain false) (Rows.evalValuesSpec.post enc Tryz.prog Tryz.f3 false true false false):=by
  refine returnsInHanded_of_change_sized (C:=Tryz.checked) own started (by kernel_rfl) Tryz.func3
    (ChangeSpec.witness6 (enc:=enc) (C:=Tryz.checked) false ⟨#[],#[.agg #[.int .i64 0,.string ⟨#[]⟩,.int .i64 0,.slice none 0 0],.agg #[.slice none 0 0,.slice none 0 0],.slice none 0 0],[]⟩ 8 (by kernel_rfl) (by kernel_rfl) (by kernel_rfl) (by kernel_rfl)) ?_
  intro W base args ds gs before hval0 hW _ hwt _
  have hval:∀ (j:Nat) t v,Tryz.f3.params[j]?=some t->args[j]?=some v->Value.okWide Tryz.prog W .any base t v:=hval0
  have hW':=hW
  obtain ⟨p,q,hA0,hV,rfl,hfz,hnd⟩:=hW
  have hA:DataW.TrodAll enc Tryz.prog W 0 (fun _=>true) true Tryz.f3.params.toList args.toList ds p:=hA0
  have hwt:(DataW.weightsEach Tryz.prog (Tryz.f3.params.toList++[]) (ds++gs)).all (·<=reachBytes)=true:=hwt
  rw [Tryz.params3] at hA hval hwt
  obtain ⟨v1,v2,v3,d1,d2,d3,p1,p2,p3,rfl,rfl,rfl,t1,t2,t3⟩:=trodAll_three hA
  obtain ⟨rfl,rfl⟩:=trodVars_none hV
  simp only [List.append_nil,DataW.weightsEach,List.all_append,Bool.and_eq_true] at hwt
  refine (walk (hval 0 24 v1 rfl rfl) t1 hwt.1 (hval 1 28 v2 rfl rfl) t2 hwt.2.1 (hval 2 29 v3 rfl rfl) t3 hwt.2.2).mono fun e W' ⟨he,hsm,hg⟩=>?_
  subst he
  exact ⟨_,rfl,Abs.post_keeps rfl hW' (fun _ _=>(trodAll_cons_mk (shut_bool Tryz.underlying4 _) trodAll_mk0)) rfl rfl (by kernel_rfl) (by kernel_rfl) hsm hg⟩

theorem and_mk {a b:Bool} (ha:a=true) (hb:b=true):(a && b)=true:=by rw [ha,hb]; rfl
theorem jf_of {P : Program} {f : FuncId} {fn : Func} {s : ChangeSpec} {c : OpenClaim} (hA : (fun (P : Program) (f : FuncId) (fn : Func) (s : ChangeSpec) (c : OpenClaim) => ((c.inPlace == P.inPlace f) && (c.unfollowed == P.unfollowed f) && (c.recurses == P.recurses f) && (c.named == P.varsNamed f) : Bool)) P f fn s c = true)
    (hB:(fun (P:Program) (f:FuncId) (fn:Func) (s:ChangeSpec) (c:OpenClaim)=>(laidOutB P && mapsRowed P && (c.plainKeys==P.plainKeys) && P.stopsHeard && P.mayEnter && (c.lifted==P.liftsFinal) && (P.make==some c.make):Bool)) P f fn s c=true)
    (hC:(fun (P:Program) (f:FuncId) (fn:Func) (s:ChangeSpec) (c:OpenClaim)=>(c.wf (OpenSpec.ofChange s) && fn.params.all (P.readableRec ·) && namedTie P c.named s.vars && (c.stops==[]) && (P.stops==[]) && (c.knobs==[]) && (P.stopKnobs==[]) && (c.maps==(fn.params.toList++s.plain.varTypes P).any (P.mapsRec ·)) && (c.ifaces==(fn.params.toList++s.plain.varTypes P).any (P.ifacesRec ·)) && (c.mapsOut==P.mapsAmong fn.resultTypes.toList) && (c.loops==(fn.params.toList++s.plain.varTypes P).any (P.loopsFrom ·)) && (c.wideKeys==(fn.params.toList++s.plain.varTypes P++fn.resultTypes.toList).any (P.wideKeysFrom ·)) && s.vars.all (P.varReadable ·) && fn.resultTypes.all (fun t=>P.readableRec t && decide (t < P.types.size)) && (c.ifacesOut==fn.resultTypes.toList.any (P.ifacesRec ·)) && (c.loopsOut==fn.resultTypes.toList.any (P.loopsFrom ·)) && c.shortTexts.isNone && (c.kinds==(if c.domain.isEmpty then [] else fn.params.toList.map fun t=>match P.underlying t with|some (.int k)=>some k|_=>none)) && (c.pinned==c.pinnedBy) && (c.veiled==(fn.params.toList++s.plain.varTypes P++fn.resultTypes.toList).any (P.veiledRec ·)) && c.veiledFits P fn.params.toList (fn.params.toList++s.plain.varTypes P++fn.resultTypes.toList):Bool)) P f fn s c=true):joinedFacts P f fn s c=true:=by
  simp only [Bool.and_eq_true] at hA hB hC
  obtain ⟨⟨⟨h9,h10⟩,h11⟩,h12⟩:=hA
  obtain ⟨⟨⟨⟨⟨⟨h1,h2⟩,h22⟩,h24⟩,h25⟩,h26⟩,h27⟩:=hB
  obtain ⟨⟨⟨⟨⟨⟨⟨⟨⟨⟨⟨⟨⟨⟨⟨⟨⟨⟨⟨⟨h0,h3⟩,h4⟩,h5⟩,h6⟩,h7⟩,h8⟩,h13⟩,h14⟩,h15⟩,h16⟩,h17⟩,h18⟩,h19⟩,h20⟩,h21⟩,h23⟩,h28⟩,h29⟩,h30⟩,h31⟩:=hC
  unfold joinedFacts
  simp only [Bool.and_eq_true]
  exact ⟨⟨⟨⟨⟨⟨⟨⟨⟨⟨⟨⟨⟨⟨⟨⟨⟨⟨⟨⟨⟨⟨⟨⟨⟨⟨⟨⟨⟨⟨⟨h0,h1⟩,h2⟩,h3⟩,h4⟩,h5⟩,h6⟩,h7⟩,h8⟩,h9⟩,h10⟩,h11⟩,h12⟩,h13⟩,h14⟩,h15⟩,h16⟩,h17⟩,h18⟩,h19⟩,h20⟩,h21⟩,h22⟩,h23⟩,h24⟩,h25⟩,h26⟩,h27⟩,h28⟩,h29⟩,h30⟩,h31⟩
theorem jf:joinedFacts Tryz.prog 3 Tryz.f3 Rows.evalValuesSpec Rows.evalValuesRow=true:=jf_of jA jB (by kernel_rfl)

theorem over:Rows.evalValuesRow.holds Tryz.pinned (OpenSpec.ofChange Rows.evalValuesSpec):=
  OpenClaim.holds_of_wide 3 Tryz.f3 rfl rfl rfl rfl rfl rfl rfl ⟨rfl,rfl,rfl,rfl,rfl⟩ rfl rfl rfl rfl rfl (by kernel_rfl) Tryz.func3 jf
    (of_decide_eq_true (by kernel_rfl)) (by unfold Func.isWrapper; first|(rw [if_pos (by decide+kernel)]; kernel_rfl)|(rw [if_neg (by decide+kernel)]; exact ⟨rfl,rfl⟩))
    (fun os started H enc _=>lifted os started H enc)

/-- The statement. -/
theorem proved:Rows.EvalValuesSaid:=
  over
#print axioms proved
end Go.Proofs.YtdbkkindfakbfaaGreat.evalValues
