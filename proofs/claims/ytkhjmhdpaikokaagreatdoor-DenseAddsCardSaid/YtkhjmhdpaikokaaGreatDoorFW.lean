/-
  Functions of the program walked: each is shown to compute a plain function (FW).
-/
import Derived.Test.YtkhjmhdpaikokaaGreatDoorF7
import Derived.Test.YtkhjmhdpaikokaaGreatDoorD3
set_option linter.unusedSimpArgs false
set_option linter.unusedVariables false
set_option maxRecDepth 100000
set_option maxHeartbeats 16000000
set_option linter.unusedSectionVars false
noncomputable section
namespace Abs
open Go Go.Proofs
/-- Behind a call only these places matter. -/
theorem putR_less {E:Env} {f:FuncId} {args:List AVal} {σ:AStore} {K:SPred} {k:Ev->AStore->Prop} {e:Ev} {dst:Option Nat} (S:Ev) (hS:subE S e) (h:∀ e',subE S e'->ACalls E f args σ (putR E K k e' dst)):ACalls E f args σ (putR E K k e dst):=h e hS
theorem kS2 (σ:AStore) (a b:ABlk):KeepS σ ((σ.alloc a).set σ.next b):=(KeepS.alloc σ a).set (Nat.le_refl _) b
theorem cells3 {s:Dn} {X:AVal} (h:IsDn s X):∃ L U C,X=.agg [L,U,C]/\(L.fit=true/\L.cells=[L]/\L.isCell=true)/\(U.fit=true/\U.cells=[U]/\U.isCell=true)/\(C.fit=true/\C.cells=[C]/\C.isCell=true):=by
 obtain ⟨L,U,C,rfl,hd,hK,_,_⟩:=h
 obtain ⟨⟨hL,_⟩,⟨hU,_⟩⟩:=hd.two
 exact ⟨L,U,C,rfl,⟨hL.fit,hL.cells,hL.isCell⟩,⟨hU.fit,hU.cells,hU.isCell⟩,⟨hK.fit,hK.cells,hK.isCell⟩⟩
theorem lawAdds {w:WD} {n:Nt} {v L U C:AVal} {s:Dn} {b1 b2:Int×Int} {mv:Int} (h:IsNt n v) (hu:IsDn s (.agg [L,U,C])) (q1:in64 b1.1) (q2:in64 b1.2) (q3:in64 b2.1) (q4:in64 b2.2) (awake:∀ w:World,Gives (EE ⟨w,[]⟩) 8 [] fun v=>v=(.sc (.bool (true)))):
  ACalls (EE w) 5 [v,.agg [L,U,C,(.sc (.int .i64 (b1.1))),(.sc (.int .i64 (b1.2))),(.sc (.int .i64 (mv)))],rA b2] empty fun e _=>e=.ret (.sc (.bool (true))):=by
 have hLa:=fun w:WD=>largeC (w:=w) h
 have hLd:=fun w:WD=>largeDC (w:=w) hu
 have hWt:=fun (w:WD) (hs:NtS n) (t:Dn) (X:AVal) (b:Int×Int) (hX:IsDn t X) (i1:in64 b.1) (i2:in64 b.2)=>waitC (w:=w) h hs hX i1 i2
 have hMo:=fun (w:WD) (hs:NtS n)=>mostC (w:=w) h hs hu
 have hCk:=fun (w:WD) (hs:NtS n) (t:Dn) (X:AVal) (hX:IsDn t X)=>dcheckC (w:=w) h hs hX
 obtain ⟨SV,SC,SF,SP,fels,rfl,icl,⟨hV,lv,hvo⟩,⟨hC,lc,hco⟩,hF,hFs,lf,hP⟩:=h
 obtain ⟨L',U',C',he,⟨kL,cL,iL⟩,⟨kU,cU,iU⟩,⟨kK,cK,iK⟩⟩:=cells3 hu
 simp only [AVal.agg.injEq,List.cons.injEq,and_true] at he
 obtain ⟨rfl,rfl,rfl⟩:=he
 obtain ⟨pels,hP1,hPl,hPat⟩:=hP.at'
 have kV:=hV.fit
 have cV:=hV.cells
 have iV:=hV.isCell
 have kC:=hC.fit
 have cC:=hC.cells
 have iC:=hC.isCell
 have kF:=hF.fit
 have cF:=hF.cells
 have iF:=hF.isCell
 have kP:=hP1.fit
 have cP:=hP1.cells
 have iP:=hP1.isCell
 have hya:∀ y:Int×Int,(rA y).cells=[(.sc (.int .i64 (y.1))),(.sc (.int .i64 (y.2)))]:=fun _=>rfl
 have hyr:∀ y:Int×Int,AVal.agg [(.sc (.int .i64 (y.1))),(.sc (.int .i64 (y.2)))]=rA y:=fun _=>rfl
 have hfb:(rA b2).fit=true:=id rfl
 refine of_5 rfl rfl rfl (by kernel_rfl) ?_
 simp -implicitDefEqProofs only [go_sem,kV,cV,iV,kC,cC,iC,kF,cF,iF,kP,cP,iP,kL,cL,iL,kU,cU,iU,kK,cK,iK,hya,hfb]
 have g0:(((empty.alloc (.cells 5 [.agg [(.sc (.int .i64 (n.clocks))),SV,SC,SF,SP]])).alloc (.cells 6 [.agg [L,U,C,(.sc (.int .i64 (b1.1))),(.sc (.int .i64 (b1.2))),(.sc (.int .i64 (mv)))]])).alloc (.cells 2 [rA b2])).get 0=some (.cells 5 [.agg [(.sc (.int .i64 (n.clocks))),SV,SC,SF,SP]]):=by kernel_rfl
 have g1:(((empty.alloc (.cells 5 [.agg [(.sc (.int .i64 (n.clocks))),SV,SC,SF,SP]])).alloc (.cells 6 [.agg [L,U,C,(.sc (.int .i64 (b1.1))),(.sc (.int .i64 (b1.2))),(.sc (.int .i64 (mv)))]])).alloc (.cells 2 [rA b2])).get 1=some (.cells 6 [.agg [L,U,C,(.sc (.int .i64 (b1.1))),(.sc (.int .i64 (b1.2))),(.sc (.int .i64 (mv)))]]):=by kernel_rfl
 have g2:(((empty.alloc (.cells 5 [.agg [(.sc (.int .i64 (n.clocks))),SV,SC,SF,SP]])).alloc (.cells 6 [.agg [L,U,C,(.sc (.int .i64 (b1.1))),(.sc (.int .i64 (b1.2))),(.sc (.int .i64 (mv)))]])).alloc (.cells 2 [rA b2])).get 2=some (.cells 2 [.agg [(.sc (.int .i64 (b2.1))),(.sc (.int .i64 (b2.2)))]]):=by kernel_rfl
 have hnx:(((empty.alloc (.cells 5 [.agg [(.sc (.int .i64 (n.clocks))),SV,SC,SF,SP]])).alloc (.cells 6 [.agg [L,U,C,(.sc (.int .i64 (b1.1))),(.sc (.int .i64 (b1.2))),(.sc (.int .i64 (mv)))]])).alloc (.cells 2 [rA b2])).next=3:=rfl
 generalize (((empty.alloc (.cells 5 [.agg [(.sc (.int .i64 (n.clocks))),SV,SC,SF,SP]])).alloc (.cells 6 [.agg [L,U,C,(.sc (.int .i64 (b1.1))),(.sc (.int .i64 (b1.2))),(.sc (.int .i64 (mv)))]])).alloc (.cells 2 [rA b2]))=τ at g0 g1 g2 hnx ⊢
 refine (hLa _).use ?_
 rintro r (rfl|⟨rfl,hlg⟩)
 ·(repeat' first|refine vw ?_ ?_<;>intro hq|refine vz ?_|simp -implicitDefEqProofs only [go_sem])
  refine (awake _).use ?_
  rintro _ rfl
  (repeat' first|refine vw ?_ ?_<;>intro hq|refine vz ?_|simp -implicitDefEqProofs only [go_sem])
 have hs:=hlg.nts
 (repeat' first|refine vw ?_ ?_<;>intro hq|refine vz ?_|simp -implicitDefEqProofs only [go_sem,g0,g1,kV,cV,iV,kC,cC,iC,kF,cF,iF,kP,cP,iP,kL,cL,iL,kU,cU,iU,kK,cK,iK])
 refine (hLd _).use ?_
 cases hld:largeD s with
 | true=>
  (repeat' first|refine vw ?_ ?_<;>intro hq|refine vz ?_|simp -implicitDefEqProofs only [go_sem])
  refine (awake _).use ?_
  rintro _ rfl
  (repeat' first|refine vw ?_ ?_<;>intro hq|refine vz ?_|simp -implicitDefEqProofs only [go_sem])
 | false=>
 (repeat' first|refine vw ?_ ?_<;>intro hq|refine vz ?_|simp -implicitDefEqProofs only [go_sem,g0,g1,kV,cV,iV,kC,cC,iC,kF,cF,iF,kP,cP,iP,kL,cL,iL,kU,cU,iU,kK,cK,iK])
 refine (hCk _ hs _ _ hu).use ?_
 cases hck:dckB n s with
 | false=>
  simp only [Bool.false_eq_true,if_false]
  (repeat' first|refine vw ?_ ?_<;>intro hq|refine vz ?_|simp -implicitDefEqProofs only [go_sem])
  refine (awake _).use ?_
  rintro _ rfl
  (repeat' first|refine vw ?_ ?_<;>intro hq|refine vz ?_|simp -implicitDefEqProofs only [go_sem])
 | true=>
 simp only [if_true]
 (repeat' first|refine vw ?_ ?_<;>intro hq|refine vz ?_|simp -implicitDefEqProofs only [go_sem,g1,g2,hya,hyr,kL,cL,iL,kU,cU,iU,kK,cK,iK])
 refine (raddC b1 b2 q1 q2 q3 q4).use ?_
 obtain ⟨sm,se,hsm⟩:∃ sm se,addR b1 b2=(sm,se):=⟨_,_,rfl⟩
 rw [hsm]
 have hsE:rE (sm,se)=.tuple [rA sm,(.sc (.int .i64 (se)))]:=rfl
 obtain ⟨τ1,ht1⟩:∃ t,t=(τ.alloc (.cells 2 [.agg [(.sc (.int .i64 (0))),(.sc (.int .i64 (0)))]])).set τ.next (.cells 2 [.agg [(.sc (.int .i64 (sm.1))),(.sc (.int .i64 (sm.2)))]]):=⟨_,rfl⟩
 have ht1r:τ1=(τ.alloc (.cells 2 [.agg [(.sc (.int .i64 (0))),(.sc (.int .i64 (0)))]])).set τ.next (.cells 2 [rA sm]):=ht1
 have kp1:KeepS τ τ1:=by rw [ht1]; exact kS2 _ _ _
 have gs:τ1.get τ.next=some (.cells 2 [.agg [(.sc (.int .i64 (sm.1))),(.sc (.int .i64 (sm.2)))]]):=by rw [ht1]; exact gss (by rw [alloc_next]; omega)
 have p0:=kp1.2 _ _ g0
 have p1:=kp1.2 _ _ g1
 have p2:=kp1.2 _ _ g2
 have hal:(∀ w:World,Gives (EE ⟨w,[]⟩) 8 [] fun v=>v=(.sc (.bool (true)))):=awake
 by_cases hse:se=0
 rotate_left
 ·(repeat' first|refine vw ?_ ?_<;>intro hq|refine vz ?_|simp -implicitDefEqProofs only [go_sem,hsE,hya,<-ht1,dcf hse])
  refine (awake _).use ?_
  rintro _ rfl
  (repeat' first|refine vw ?_ ?_<;>intro hq|refine vz ?_|simp -implicitDefEqProofs only [go_sem])
 by_cases hn1:b1.1 < 0
 ·(repeat' first|refine vw ?_ ?_<;>intro hq|refine vz ?_|simp -implicitDefEqProofs only [go_sem,hsE,hya,<-ht1,dct hse,p1,dct hn1])
  refine (awake _).use ?_
  rintro _ rfl
  (repeat' first|refine vw ?_ ?_<;>intro hq|refine vz ?_|simp -implicitDefEqProofs only [go_sem])
 by_cases hn2:b2.1 < 0
 ·(repeat' first|refine vw ?_ ?_<;>intro hq|refine vz ?_|simp -implicitDefEqProofs only [go_sem,hsE,hya,<-ht1,dct hse,p1,p2,dcf hn1,dct hn2])
  refine (awake _).use ?_
  rintro _ rfl
  (repeat' first|refine vw ?_ ?_<;>intro hq|refine vz ?_|simp -implicitDefEqProofs only [go_sem])
 have ha0:(addR b1 b2).2=0:=by rw [hsm]; exact hse
 have hae:(addR b1 b2).1=sm:=by rw [hsm]
 obtain ⟨v1,v2,v3,v4⟩:=addR_val ha0
 rw [hae] at v3 v4
 obtain ⟨j1,j2⟩:=in_of_valid v3
 (repeat' first|refine vw ?_ ?_<;>intro hq|refine vz ?_|simp -implicitDefEqProofs only [go_sem,hsE,hya,hyr,<-ht1,<-ht1r,dct hse,p0,p1,p2,dcf hn1,dcf hn2,kV,cV,iV,kC,cC,iC,kF,cF,iF,kP,cP,iP,kL,cL,iL,kU,cU,iU,kK,cK,iK])
 refine putR_less [(3,.ptr 0 0 0),(4,.ptr 1 0 0),(5,.ptr 2 0 0),(7,.ptr τ.next 0 0)] vsu ?_
 rintro e ⟨t3,t4,t5,t7,-⟩
 refine (hWt _ hs _ _ b1 hu q1 q2).use ?_
 rintro _ ⟨XA,rfl,hXA⟩
 have hma:=adds_main hck ha0 (by omega) (by omega)
 have hmo:=most_main hck v3
 rw [hae] at hma
 generalize hA:waitP n s b1=A at*
 obtain ⟨LA,UA,CA,rfl,⟨kLA,cLA,iLA⟩,⟨kUA,cUA,iUA⟩,⟨kCA,cCA,iCA⟩⟩:=cells3 hXA
 obtain ⟨τ2,ht2⟩:∃ t,t=(τ1.alloc (.cells 3 [.agg [(.sc (.slice none 0 0)),(.sc (.slice none 0 0)),(.sc (.slice none 0 0))]])).set τ1.next (.cells 3 [.agg [LA,UA,CA]]):=⟨_,rfl⟩
 have kp2:KeepS τ1 τ2:=by rw [ht2]; exact kS2 _ _ _
 have gA:τ2.get τ1.next=some (.cells 3 [.agg [LA,UA,CA]]):=by rw [ht2]; exact gss (by rw [alloc_next]; omega)
 have p0:=kp2.2 _ _ p0
 have p1:=kp2.2 _ _ p1
 have p2:=kp2.2 _ _ p2
 have gs:=kp2.2 _ _ gs
 (repeat' first|refine vw ?_ ?_<;>intro hq|refine vz ?_|simp -implicitDefEqProofs only [go_sem,t3,t5,hya,hyr,<-ht2,p0,p1,p2,gA,kV,cV,iV,kC,cC,iC,kF,cF,iF,kP,cP,iP,kLA,cLA,iLA,kUA,cUA,iUA,kCA,cCA,iCA])
 refine putR_less [(3,.ptr 0 0 0),(4,.ptr 1 0 0),(7,.ptr τ.next 0 0),(8,(.sc (.int .i64 (A.2))))] ⟨t3,t4,t7,rfl,trivial⟩ ?_
 clear t3 t4 t5 t7
 rintro e ⟨t3,t4,t7,t8,-⟩
 refine (hWt _ hs _ _ b2 hXA q3 q4).use ?_
 rintro _ ⟨XB,rfl,hXB⟩
 generalize hB:waitP n A.1 b2=B at*
 obtain ⟨LB,UB,CB,rfl,⟨kLB,cLB,iLB⟩,⟨kUB,cUB,iUB⟩,⟨kCB,cCB,iCB⟩⟩:=cells3 hXB
 obtain ⟨τ3,ht3⟩:∃ t,t=(τ2.alloc (.cells 3 [.agg [(.sc (.slice none 0 0)),(.sc (.slice none 0 0)),(.sc (.slice none 0 0))]])).set τ2.next (.cells 3 [.agg [LB,UB,CB]]):=⟨_,rfl⟩
 have kp3:KeepS τ2 τ3:=by rw [ht3]; exact kS2 _ _ _
 have gB:τ3.get τ2.next=some (.cells 3 [.agg [LB,UB,CB]]):=by rw [ht3]; exact gss (by rw [alloc_next]; omega)
 have p0:=kp3.2 _ _ p0
 have p1:=kp3.2 _ _ p1
 have gs:=kp3.2 _ _ gs
 (repeat' first|refine vw ?_ ?_<;>intro hq|refine vz ?_|simp -implicitDefEqProofs only [go_sem,t3,t4,t7,hya,hyr,<-ht3,p0,p1,gs,kV,cV,iV,kC,cC,iC,kF,cF,iF,kP,cP,iP,kL,cL,iL,kU,cU,iU,kK,cK,iK,kLB,cLB,iLB,kUB,cUB,iUB,kCB,cCB,iCB])
 refine putR_less [(3,.ptr 0 0 0),(4,.ptr 1 0 0),(7,.ptr τ.next 0 0),(8,(.sc (.int .i64 (A.2)))),(10,.ptr τ2.next 0 0),(11,(.sc (.int .i64 (B.2))))] ⟨t3,t4,t7,t8,rfl,rfl,trivial⟩ ?_
 clear t3 t4 t7 t8
 rintro e ⟨t3,t4,t7,t8,t10,t11,-⟩
 refine (hWt _ hs _ _ sm hu j1 j2).use ?_
 rintro _ ⟨XC,rfl,hXC⟩
 generalize hC2:waitP n s sm=C2 at*
 obtain ⟨LC,UC,CC,rfl,⟨kLC,cLC,iLC⟩,⟨kUC,cUC,iUC⟩,⟨kCC,cCC,iCC⟩⟩:=cells3 hXC
 obtain ⟨τ4,ht4⟩:∃ t,t=(τ3.alloc (.cells 3 [.agg [(.sc (.slice none 0 0)),(.sc (.slice none 0 0)),(.sc (.slice none 0 0))]])).set τ3.next (.cells 3 [.agg [LC,UC,CC]]):=⟨_,rfl⟩
 have kp4:KeepS τ3 τ4:=by rw [ht4]; exact kS2 _ _ _
 have gC:τ4.get τ3.next=some (.cells 3 [.agg [LC,UC,CC]]):=by rw [ht4]; exact gss (by rw [alloc_next]; omega)
 have p0:=kp4.2 _ _ p0
 have p1:=kp4.2 _ _ p1
 have gs:=kp4.2 _ _ gs
 have gB:=kp4.2 _ _ gB
 clear ht2 ht3 kp2 kp3 gA
 by_cases he7:A.2=7
 ·(repeat' first|refine vw ?_ ?_<;>intro hq|refine vz ?_|simp -implicitDefEqProofs only [go_sem,t3,t4,t8,t10,t11,hya,hyr,<-ht4,kLC,cLC,iLC,kUC,cUC,iUC,kCC,cCC,iCC,dct he7])
  refine (awake _).use ?_
  rintro _ rfl
  (repeat' first|refine vw ?_ ?_<;>intro hq|refine vz ?_|simp -implicitDefEqProofs only [go_sem])
 by_cases hf7:B.2=7
 ·(repeat' first|refine vw ?_ ?_<;>intro hq|refine vz ?_|simp -implicitDefEqProofs only [go_sem,t3,t4,t8,t10,t11,hya,hyr,<-ht4,kLC,cLC,iLC,kUC,cUC,iUC,kCC,cCC,iCC,dcf he7,dct hf7])
  refine (awake _).use ?_
  rintro _ rfl
  (repeat' first|refine vw ?_ ?_<;>intro hq|refine vz ?_|simp -implicitDefEqProofs only [go_sem])
 by_cases hg7:C2.2=7
 ·(repeat' first|refine vw ?_ ?_<;>intro hq|refine vz ?_|simp -implicitDefEqProofs only [go_sem,t3,t4,t8,t10,t11,hya,hyr,<-ht4,kLC,cLC,iLC,kUC,cUC,iUC,kCC,cCC,iCC,dcf he7,dcf hf7,dct hg7])
  refine (awake _).use ?_
  rintro _ rfl
  (repeat' first|refine vw ?_ ?_<;>intro hq|refine vz ?_|simp -implicitDefEqProofs only [go_sem])
 obtain ⟨m1,m2⟩:=hma he7 hf7 hg7
 have h3:(C2.2=0/\A.2=0/\B.2=0)\/(C2.2≠0/\A.2=0/\B.2≠0)\/(C2.2≠0/\A.2≠0):=by
  by_cases x:C2.2=0
  ·exact .inl ⟨x,m1.2 x⟩
  ·by_cases y:A.2=0
   ·exact .inr (.inl ⟨x,y,fun z=>x (m1.1 ⟨y,z⟩)⟩)
   ·exact .inr (.inr ⟨x,y⟩)
 have hs0:0<=sm.1:=by
  rw [(qv_pos (valid_pos v3)).1,v4]
  have:=(qv_pos (valid_pos v1)).1.1 (by omega)
  have:=(qv_pos (valid_pos v2)).1.1 (by omega)
  grind
 obtain ⟨o1,o2,o3⟩:=hmo hs0 hg7
 have n1:(!(true==true))=false:=rfl
 have n2:(!(true==false))=true:=rfl
 have n3:(!(false==true))=true:=rfl
 have n4:(!(false==false))=false:=rfl
 generalize mostP n s=M at*
 rcases h3 with ⟨hg0,hA0,hB0⟩|⟨hg0,hA0,hB0⟩|⟨hg0,hA0⟩
 case' inl=>
  obtain ⟨hBC,hckC⟩:=m2 hg0
  rw [<-hBC] at hXC hckC
  (repeat' first|refine vw ?_ ?_<;>intro hq|refine vz ?_|simp -implicitDefEqProofs only [go_sem,t3,t4,t8,t10,t11,n1,n2,n3,n4,hya,hyr,<-ht4,kLC,cLC,iLC,kUC,cUC,iUC,kCC,cCC,iCC,dcf he7,dcf hf7,dcf hg7,dct hg0,dct hA0,dct hB0,gB,gC,kLB,cLB,iLB,kUB,cUB,iUB,kCB,cCB,iCB])
  refine (sameDnC hXB hXC).use ?_
  (repeat' first|refine vw ?_ ?_<;>intro hq|refine vz ?_|simp -implicitDefEqProofs only [go_sem,t3,t4,t8,t10,t11,p0,gC,kV,cV,iV,kC,cC,iC,kF,cF,iF,kP,cP,iP,kLC,cLC,iLC,kUC,cUC,iUC,kCC,cCC,iCC,dct hg0])
  refine (hCk _ hs _ _ hXC).use ?_
  rw [hckC]
  simp only [if_true]
  (repeat' first|refine vw ?_ ?_<;>intro hq|refine vz ?_|simp -implicitDefEqProofs only [go_sem,t3,t4,t8,t10,t11,p0,p1,kV,cV,iV,kC,cC,iC,kF,cF,iF,kP,cP,iP,kL,cL,iL,kU,cU,iU,kK,cK,iK])
 case' inr.inl=>
  (repeat' first|refine vw ?_ ?_<;>intro hq|refine vz ?_|simp -implicitDefEqProofs only [go_sem,t3,t4,t8,t10,t11,n1,n2,n3,n4,hya,hyr,<-ht4,kLC,cLC,iLC,kUC,cUC,iUC,kCC,cCC,iCC,dcf he7,dcf hf7,dcf hg7,dcf hg0,dct hA0,dcf hB0,p0,p1,kV,cV,iV,kC,cC,iC,kF,cF,iF,kP,cP,iP,kL,cL,iL,kU,cU,iU,kK,cK,iK])
 case' inr.inr=>
  (repeat' first|refine vw ?_ ?_<;>intro hq|refine vz ?_|simp -implicitDefEqProofs only [go_sem,t3,t4,t8,t10,t11,n1,n2,n3,n4,hya,hyr,<-ht4,kLC,cLC,iLC,kUC,cUC,iUC,kCC,cCC,iCC,dcf he7,dcf hf7,dcf hg7,dcf hg0,dcf hA0,p0,p1,kV,cV,iV,kC,cC,iC,kF,cF,iF,kP,cP,iP,kL,cL,iL,kU,cU,iU,kK,cK,iK])
 all_goals
  refine putR_less [(3,.ptr 0 0 0),(4,.ptr 1 0 0),(7,.ptr τ.next 0 0),(13,(.sc (.int .i64 (C2.2))))] ⟨t3,t4,t7,rfl,trivial⟩ ?_
  clear t3 t4 t7 t8 t10 t11
  rintro e ⟨t3,t4,t7,t13,-⟩
  refine (hMo _ hs).use ?_
  obtain ⟨τ5,ht5⟩:∃ t,t=(τ4.alloc (.cells 2 [.agg [(.sc (.int .i64 (0))),(.sc (.int .i64 (0)))]])).set τ4.next (.cells 2 [.agg [(.sc (.int .i64 (M.1.1.1))),(.sc (.int .i64 (M.1.1.2)))]]):=⟨_,rfl⟩
  have ht5r:τ5=(τ4.alloc (.cells 2 [.agg [(.sc (.int .i64 (0))),(.sc (.int .i64 (0)))]])).set τ4.next (.cells 2 [rA M.1.1]):=ht5
  have kp5:KeepS τ4 τ5:=by rw [ht5]; exact kS2 _ _ _
  have gM:τ5.get τ4.next=some (.cells 2 [.agg [(.sc (.int .i64 (M.1.1.1))),(.sc (.int .i64 (M.1.1.2)))]]):=by rw [ht5]; exact gss (by rw [alloc_next]; omega)
  have gs:=kp5.2 _ _ gs
  by_cases hM:M.2=0
  rotate_left
  ·(repeat' first|refine vw ?_ ?_<;>intro hq|refine vz ?_|simp -implicitDefEqProofs only [go_sem,t3,t4,t7,t13,hya,<-ht5,dcf hM,dct (o1 hM)])
   refine (awake _).use ?_
   rintro _ rfl
   (repeat' first|refine vw ?_ ?_<;>intro hq|refine vz ?_|simp -implicitDefEqProofs only [go_sem])
  cases hev:M.1.2.2 with
  | true=>
   (repeat' first|refine vw ?_ ?_<;>intro hq|refine vz ?_|simp -implicitDefEqProofs only [go_sem,t3,t4,t7,t13,hya,<-ht5,dct hM,dct (o2 hM hev)])
   refine (awake _).use ?_
   rintro _ rfl
   (repeat' first|refine vw ?_ ?_<;>intro hq|refine vz ?_|simp -implicitDefEqProofs only [go_sem])
  | false=>
   obtain ⟨v5,o4⟩:=o3 hM hev
   obtain ⟨j5,j6⟩:=in_of_valid v5
   have hcm:=rcmpC (w:=⟨w.w,[]⟩) sm M.1.1 j1 j2 j5 j6
   have hcx:cmpR sm M.1.1=(sgn sm M.1.1,0):=by unfold cmpR; rw [v3,v5]; rfl
   rw [hcx] at hcm
   (repeat' first|refine vw ?_ ?_<;>intro hq|refine vz ?_|simp -implicitDefEqProofs only [go_sem,t3,t4,t7,t13,hya,hyr,<-ht5,<-ht5r,dct hM,gs,gM])
   refine hcm.use ?_
   dsimp only
   by_cases z1:sm.1=0
   ·(repeat' first|refine vw ?_ ?_<;>intro hq|refine vz ?_|simp -implicitDefEqProofs only [go_sem,t3,t4,t7,t13,gs,n1,n2,n3,n4,dct z1,dct (o4.2 (.inl z1)),beq_self_eq_true])
    refine (awake _).use ?_
    rintro _ rfl
    (repeat' first|refine vw ?_ ?_<;>intro hq|refine vz ?_|simp -implicitDefEqProofs only [go_sem])
   by_cases z2:sgn sm M.1.1 < 0
   ·(repeat' first|refine vw ?_ ?_<;>intro hq|refine vz ?_|simp -implicitDefEqProofs only [go_sem,t3,t4,t7,t13,gs,n1,n2,n3,n4,dcf z1,dct z2,dct (o4.2 (.inr (.inl z2))),beq_self_eq_true])
    refine (awake _).use ?_
    rintro _ rfl
    (repeat' first|refine vw ?_ ?_<;>intro hq|refine vz ?_|simp -implicitDefEqProofs only [go_sem])
   by_cases z3:sgn sm M.1.1=0
   ·cases hat:M.1.2.1 with
    | true=>
     (repeat' first|refine vw ?_ ?_<;>intro hq|refine vz ?_|simp -implicitDefEqProofs only [go_sem,t3,t4,t7,t13,gs,n1,n2,n3,n4,dcf z1,dcf z2,dct z3,dct (o4.2 (.inr (.inr ⟨z3,hat⟩))),beq_self_eq_true])
     refine (awake _).use ?_
     rintro _ rfl
     (repeat' first|refine vw ?_ ?_<;>intro hq|refine vz ?_|simp -implicitDefEqProofs only [go_sem])
    | false=>
     have hno:¬ C2.2=0:=fun h=>by
      rcases o4.1 h with h|h|⟨_,h⟩
      ·exact z1 h
      ·exact z2 h
      ·rw [hat] at h; cases h
     (repeat' first|refine vw ?_ ?_<;>intro hq|refine vz ?_|simp -implicitDefEqProofs only [go_sem,t3,t4,t7,t13,gs,n1,n2,n3,n4,dcf z1,dcf z2,dct z3,dcf hno,beq_self_eq_true])
     refine (awake _).use ?_
     rintro _ rfl
     (repeat' first|refine vw ?_ ?_<;>intro hq|refine vz ?_|simp -implicitDefEqProofs only [go_sem])
   ·have hno:¬ C2.2=0:=fun h=>by
     rcases o4.1 h with h|h|⟨h,_⟩
     ·exact z1 h
     ·exact z2 h
     ·exact z3 h
    (repeat' first|refine vw ?_ ?_<;>intro hq|refine vz ?_|simp -implicitDefEqProofs only [go_sem,t3,t4,t7,t13,gs,n1,n2,n3,n4,dcf z1,dcf z2,dcf z3,dcf hno,beq_self_eq_true])
    refine (awake _).use ?_
    rintro _ rfl
    (repeat' first|refine vw ?_ ?_<;>intro hq|refine vz ?_|simp -implicitDefEqProofs only [go_sem])
theorem shAt:shape Tryz.prog 47=.struct [34,45,3]:=by kernel_rfl
theorem is_at {n:Nat} {xs:List AVal} (h:HasTyW Tryz.prog n 47 xs):∃ (s:Dn) (L U C:AVal) (b:Int×Int) (mv:Int),xs=[L,U,C,(.sc (.int .i64 (b.1))),(.sc (.int .i64 (b.2))),(.sc (.int .i64 (mv)))]/\IsDn s (.agg [L,U,C])/\in64 b.1/\in64 b.2:=by
 cases n with
 | zero=>exact h.elim
 | succ n=>
  obtain ⟨a1,r1,rfl,_,h1,a2,r2,rfl,_,h2,a3,r3,rfl,_,h3,h6⟩:=tw_struct shAt h
  have h6:r3=[]:=h6
  subst h6
  obtain ⟨s,hs⟩:=is_dn h1
  obtain ⟨b,hb,i1,i2⟩:=is_ra _ _ h2
  obtain ⟨k,hk,rfl⟩:=tw_int shI h3
  have hs':=hs
  obtain ⟨L,U,C,he,_⟩:=hs'
  simp only [AVal.agg.injEq] at he
  subst he
  simp only [rA,AVal.agg.injEq] at hb
  subst hb
  exact ⟨s,L,U,C,b,k,rfl,hs,i1,i2⟩
end Abs
end
