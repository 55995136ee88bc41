/-
  Functions of the program walked: each is shown to compute a plain function (HF).
-/
import Derived.Test.YtdbkkindfakbfaaGreatHA
import Derived.Test.YtdbkkindfakbfaaGreatEvG
import Derived.Test.YtdbkkindfakbfaaGreatT31
import Derived.Test.YtdbkkindfakbfaaGreatEvL
import Derived.Test.YtdbkkindfakbfaaGreatAbsTyW
import Derived.Test.YtdbkkindfakbfaaGreatAbsRow
set_option linter.unusedSimpArgs false
set_option linter.unusedVariables false
set_option maxRecDepth 100000
set_option maxHeartbeats 16000000
set_option linter.unusedSectionVars false
noncomputable section
namespace Abs
open Go Go.Proofs
theorem allCells_nA:∀ l:Fr,allCells (l.map nA)=true
 | []=>rfl
 | x::l=>by rw [List.map_cons,allCells_cons,allCells_nA l]; rfl
theorem NmR.copy {m:Nat} {σ:AStore} {S:AVal} {o:Fr} (h:NmR m σ S o) {bytes:Nat} (hb:o.length*bytes<=140737488355328) (h2:bytes≠0):
  ∃ S' σ',aSrc 2 S (σ.alloc (.cells 2 []))=some (o.map nA)/\aAppend 2 bytes (.slice σ.next 0 0) (o.map nA) (σ.alloc (.cells 2 []))=some (S',σ')/\NmR σ.next σ' S' o/\KeepS σ σ':=by
 have hs:aSrc 2 S (σ.alloc (.cells 2 []))=some (o.map nA):=(h.keep (τ:=σ.alloc (.cells 2 [])) fun b y _ hg=>get_alloc_old hg).src
 have hg:(σ.alloc (.cells 2 [])).get σ.next=some (.cells 2 []):=by rw [AStore.get_alloc,if_pos rfl]
 by_cases ho:o=[]
 ·subst ho
  refine ⟨.slice σ.next 0 0,(σ.alloc (.cells 2 [])).set σ.next (.cells 2 []),hs,?_,.inr ⟨σ.next,[],Nat.le_refl _,rfl,gss (by rw [alloc_next]; omega),rfl⟩,(KeepS.alloc σ _).set (Nat.le_refl _) _⟩
  rw [aAppend_slice,hg,appAt_cells,if_pos ⟨rfl,by decide,h2,by decide,rfl⟩,if_pos (by simp)]; rfl
 ·have:=app_full (bytes:=bytes) hg (xs:=o.map nA) (by simpa using ho) (by simpa using hb) (by decide) h2 (allCells_nA o)
  refine ⟨_,_,hs,this,.inr ⟨σ.next+1,o.map nA,by omega,by simp; rfl,?_,by rw [List.take_of_length_le (by simp)]⟩,?_⟩
  ·rw [AStore.get_alloc,if_pos (show σ.next+1=((σ.alloc (.cells 2 [])).del σ.next).next from rfl)]; simp
  ·refine ⟨by show σ.next<=σ.next+1+1; omega,fun b y hy=>?_⟩
   have:=AStore.lt_of_get hy
   refine get_alloc_old ?_
   rw [AStore.get_del,if_neg (by omega)]
   exact get_alloc_old hy
theorem NmR.put {m b i:Nat} {σ:AStore} {o:Fr} {els:List AVal} {p:ByteArray×Int} (hb:m<=b) (hg:σ.get b=some (.cells 2 els)) (he:els.take o.length=o.map nA):
  NmR m (σ.set b (.cells 2 (els.set i (nA p)))) (.slice b 0 o.length) (o.set i p):=by
 refine .inr ⟨b,_,hb,by simp,gss (AStore.lt_of_get hg),?_⟩
 rw [List.length_set,List.take_set,he,List.map_set]
def setTo (o:Fr) (k:ByteArray) (v:Int) (q:Nat):Fr:=(o.take q).map (fun p=>if p.1=k then (p.1,v) else p)++o.drop q
theorem setTo_len {o:Fr} {k:ByteArray} {v:Int} {q:Nat}:(setTo o k v q).length=o.length:=by
 simp [setTo]; omega
theorem setTo_at {o:Fr} {k:ByteArray} {v:Int} {q:Nat} {p:ByteArray×Int} (h:o[q]?=some p):(setTo o k v q)[q]?=some p:=by
 have hq:=(List.getElem?_eq_some_iff.1 h).1
 unfold setTo
 rw [List.getElem?_append_right (by simp; omega)]
 simp only [List.length_map,List.length_take,Nat.min_eq_left (Nat.le_of_lt hq),Nat.sub_self,List.getElem?_drop,Nat.add_zero]
 exact h
theorem setTo_eq {o:Fr} {k:ByteArray} {v:Int} {q:Nat} {p:ByteArray×Int} (h:o[q]?=some p) (hk:p.1=k):setTo o k v (q+1)=(setTo o k v q).set q (p.1,v):=by
 have hq:=(List.getElem?_eq_some_iff.1 h)
 unfold setTo
 have hd:o.drop q=p::o.drop (q+1):=by rw [List.drop_eq_getElem_cons hq.1,hq.2]
 rw [hd,List.take_add_one,h,List.set_append,if_neg (by simp; omega)]
 simp only [List.length_map,List.length_take,Nat.min_eq_left (Nat.le_of_lt hq.1),Nat.sub_self,List.map_append,Option.toList_some,List.map_cons,List.map_nil,if_pos hk,List.set_cons_zero,List.append_assoc,List.cons_append,List.nil_append]
theorem setTo_ne {o:Fr} {k:ByteArray} {v:Int} {q:Nat} {p:ByteArray×Int} (h:o[q]?=some p) (hk:p.1≠k):setTo o k v (q+1)=setTo o k v q:=by
 have hq:=(List.getElem?_eq_some_iff.1 h)
 unfold setTo
 rw [List.take_add_one,h,List.drop_eq_getElem_cons hq.1,hq.2]
 simp [hk]
theorem setTo_all {o:Fr} {k:ByteArray} {v:Int} (hn:(nmsF o).Nodup) (h:k∈nmsF o):setTo o k v o.length=fset o k v:=by
 rw [fset_map hn h]; simp [setTo]
theorem okF_take {o:Fr} (h:okF o) (n:Nat):okF (o.take n):=fun p hp=>h p (List.mem_of_mem_take hp)
/-- Behind some statements. -/
structure RI (σ:AStore) (pm:Nat) (G L:AVal) (n:Nat) (o:Fr) (S:AVal) (oj:Fr) (made:List ByteArray) (m:Nat) (τ:AStore):Prop where
 k:KeepM pm σ τ
 s:NmR σ.next τ S oj
 nm:nmsF oj=nmsF o++made
 nd:(nmsF oj).Nodup
 ol:oj.length<=m+4
 ok:okF oj
 hn:n<=m
 hm:m<=1000
 mp:τ.get pm=some (mcR G L m 0)
section
variable {σ τ τ':AStore} {pm n m m':Nat} {G L S:AVal} {o oj:Fr} {made:List ByteArray}
theorem NmR.keepK {a:Nat} (h:NmR a τ S oj) (ha:pm < a) (hk:KeepM pm τ τ'):NmR a τ' S oj:=h.keep fun b y hb hg=>hk.2 _ _ (by omega) hg
theorem RI.keep (h:RI σ pm G L n o S oj made m τ) (hpm:pm < σ.next) (hk:KeepM pm τ τ') (hm':m<=m') (hu:m'<=1000) (hg:τ'.get pm=some (mcR G L m' 0)):RI σ pm G L n o S oj made m' τ':=by
 obtain ⟨h1,h2,h3,h4,h5,h6,h7,h8,h9⟩:=h
 exact ⟨h1.trans hk,h2.keepK hpm hk,h3,h4,vom,h6,vom,hu,hg⟩
/-- What was there before is left. -/
theorem RI.cut (h:RI σ pm G L n o S oj made m τ) (hk:KeepM pm τ τ') (hpm:pm < σ.next):∃ S',aSlice 2 S none (some (.sc (.int .i64 (o.length)))) τ'=some S'/\NmR σ.next τ' S' (oj.take o.length)/\fdels oj made=oj.take o.length/\nmsF (oj.take o.length)=nmsF o/\okF (oj.take o.length):=by
 have hl:(nmsF o).length=o.length:=by simp [nmsF]
 have hle:o.length<=oj.length:=by
  have:=congrArg List.length h.nm
  simp [nmsF] at this; omega
 obtain ⟨S',a,b⟩:=(h.s.keepK hpm hk).cut hle
 have e:=fdels_take h.nm h.nd
 rw [hl] at e
 refine ⟨S',a,b,e,?_,okF_take h.ok _⟩
 rw [nmsF,List.map_take,show oj.map (·.1)=nmsF o++made from h.nm,List.take_append_of_le_length (by omega),List.take_of_length_le (by omega)]
end
theorem SRr.err {pm n:Nat} {G L S:AVal} {σ σ':AStore} {o o2:Fr} {p:RS} (he:p.e≠0) (hk:KeepM pm σ σ') (h1:n<=p.n) (h2:p.n<=1000) (h3:σ'.get pm=some (mcR G L p.n p.e)) (h4:NmR σ.next σ' S o2):
  SRr pm G L n σ o p (.ret (.tuple [S,(.sc (.int .i64 (0))),(.sc (.bool (true)))])) σ':=⟨S,o2,by rw [if_neg he,dct he,Bool.or_true],fun h=>absurd h he,hk,h1,h2,h3,h4,fun h=>absurd h he⟩
theorem SRr.ret {pm n:Nat} {G L S:AVal} {σ σ':AStore} {o o2:Fr} {p:RS} {v:Int} (he:p.e=0) (hr:p.r=true) (hv:p.v=v) (hi:inM v) (hk:KeepM pm σ σ') (h1:n<=p.n) (h2:p.n<=1000) (h3:σ'.get pm=some (mcR G L p.n 0)) (h4:NmR σ.next σ' S o2):
  SRr pm G L n σ o p (.ret (.tuple [S,(.sc (.int .i64 (v))),(.sc (.bool (true)))])) σ':=⟨S,o2,by rw [if_pos he,hr,hv,Bool.true_or],fun _=>by rw [hv]; exact hi,hk,h1,h2,by rw [he]; exact h3,h4,fun _ h=>by rw [hr] at h; cases h⟩
theorem SRr.fin {pm n:Nat} {G L S:AVal} {σ σ':AStore} {o:Fr} {p:RS} (he:p.e=0) (hr:p.r=false) (hv:p.v=0) (hk:KeepM pm σ σ') (h1:n<=p.n) (h2:p.n<=1000) (h3:σ'.get pm=some (mcR G L p.n 0)) (h4:NmR σ.next σ' S p.o) (h5:nmsF p.o=nmsF o) (h6:okF p.o):
  SRr pm G L n σ o p (.ret (.tuple [S,(.sc (.int .i64 (0))),(.sc (.bool (false)))])) σ':=⟨S,p.o,by rw [if_pos he,hr,hv,he]; rfl,fun _=>by rw [hv]; exact inM_0,hk,h1,h2,by rw [he]; exact h3,h4,fun _ _=>⟨rfl,h5,h6⟩⟩
theorem allHStep {ss:List St} {gl:Fr} {fs:List Fc} {els:List AVal} {N:Nat} {E:Ex->Fr->Nat->RX} {A:List St->Fr->Nat->RS}
  (rec:∀ M,N=M+1->(∀ y,ExpRC gl fs els M E y)/\∀ ss,AllRC gl fs els M A ss):AllRC gl fs els N (fun s o n=>stsG E A s o [] n) ss:=by
 intro w Y es σ pm n S0 G L o hY hx hel hok hte hM hS0 hnd hol hoF hn hN
 have lpm:=AStore.lt_of_get hM.m
 have hYn:=fun σ:AStore=>hY.lenN (hx.len) (σ:=σ)
 have hsl:=hx.len
 have kY:=hY.fit
 have cY:=hY.cells
 have iY:=hY.isCell
 have hSn:=fun τ:AStore=>hS0.len (τ:=τ)
 dsimp only
 generalize hP:stsG E A ss o [] n=P
 obtain ⟨S1,σ1,hsrc,a1,n1,k1⟩:=hS0.copy (bytes:=24) (by omega) (by decide)
 have f1:=n1.fit
 have f2:=n1.cells
 have f3:=n1.isCell
 refine of_86 rfl rfl rfl (by kernel_rfl) ?_
 simp -implicitDefEqProofs only [go_sem,hSn,hsrc,a1,f1,f2,f3]
 refine vlp (ι:=AVal×Nat) (fun s=>[(0,.ptr pm 0 0),(1,Y),(2,s.1),(9,(.sc (.int .i64 (o.length)))),(10,(.sc (.int .i64 (s.2))))]) (fun s τ=>s.2<=ss.length/\∃ oj made m,RI σ pm G L n o s.1 oj made m τ/\stEs (nmsF gl) (nmsF oj) fs (ss.drop s.2)=0/\stsG E A (ss.drop s.2) oj made m=P) (fun s=>ss.length - s.2) (fun _=>rfl) (S1,0) ?_ ?_ ?_
 ·exact vsu
 ·exact ⟨Nat.zero_le _,o,[],n,⟨k1.m,n1,by simp,hnd,hol,hoF,Nat.le_refl _,hn,k1.2 _ _ hM.m⟩,hte,hP⟩
 rintro ⟨S,j⟩ τ ⟨hj,oj,made,m,hI,hte,hP'⟩
 clear hP
 dsimp only at hj hI hte hP' ⊢
 have f1:=hI.s.fit
 have f2:=hI.s.cells
 have f3:=hI.s.isCell
 have hnn:=hI.hn
 have hmm:=hI.hm
 simp -implicitDefEqProofs only [go_sem,hYn]
 (refine vif ?_ ?_<;>intro hlt)
 ·obtain ⟨x,hx1⟩:∃ x,ss[j]?=some x:=⟨ss[j]'(by omega),by simp⟩
  have hdr:ss.drop j=x::ss.drop (j+1):=by
   rw [List.drop_eq_getElem_cons (by omega)]
   rw [List.getElem?_eq_getElem (by omega)] at hx1
   rw [Option.some.inj hx1]
  rw [hdr] at hP' hte
  have hokx:=okSs_mem hok x (List.mem_of_getElem? hx1)
  obtain ⟨e,he,hxe⟩:=hx.at hx1
  obtain ⟨k,nm,v,body,els'⟩:=x
  simp only [okS,Bool.and_eq_true] at hokx
  obtain ⟨⟨okv,okb⟩,oke⟩:=hokx
  obtain ⟨te,t1,t2,tb,tl,tr⟩:=stEs_cut hte
  have cc:=hxe.cellsOk
  simp only [IsSt] at hxe
  obtain ⟨SA,SB,SE,ea,eb,ee,rfl,hA',ha,hB,hb',hE,hee,h1,h2,h3,h4,h5,h6,h7,h8⟩:=hxe
  have hvx:=ex_of hA' ha h2 h3 h5 h6
  have kA:=hA'.fit
  have cA:=hA'.cells
  have iA:=hA'.isCell
  have kB:=hB.fit
  have cB:=hB.cells
  have iB:=hB.isCell
  have kE:=hE.fit
  have cE:=hE.cells
  have iE:=hE.isCell
  have hw:=wrapS (i:=j) (by omega)
  (repeat' first|refine vw ?_ ?_<;>intro hq|refine vz ?_|simp -implicitDefEqProofs only [go_sem])
  refine (rstepC hI.mp hmm).mono ?_
  rintro _ τ1 ⟨⟨_,rfl⟩,kp1,mp1⟩
  by_cases hn0:m=1000
  ·subst hn0
   rw [if_pos rfl] at mp1
   have mp1':τ1.get pm=some (.cells 4 [.agg [G,L,(.sc (.int .i64 (((1000:Nat):Int)))),(.sc (.int .i64 (101)))]]):=mp1
   obtain ⟨S',c1,c2,-,-,-⟩:=hI.cut kp1 lpm
   rw [stsG,if_pos rfl] at hP'
   rw [<-hP']
   (repeat' first|refine vw ?_ ?_<;>intro hq|refine vz ?_|simp -implicitDefEqProofs only [go_sem,mp1',show decide ((101:Int)=0)=false from rfl,c1])
   exact SRr.err (show (101:Int)≠0 by decide) (hI.k.trans kp1) hnn (Nat.le_refl _) mp1 c2
  rw [if_neg hn0] at mp1
  have mp1':τ1.get pm=some (.cells 4 [.agg [G,L,(.sc (.int .i64 (((m+1:Nat):Int)))),(.sc (.int .i64 (0)))]]):=mp1
  obtain ⟨M,rfl⟩:∃ M,N=M+1:=⟨N - 1,vom⟩
  obtain ⟨recE,recA⟩:=rec M rfl
  clear rec
  have hI2:=hI.keep (m':=m+1) lpm kp1 (by omega) (by omega) mp1
  rw [stsG,if_neg hn0] at hP'
  dsimp only at hP'
  (repeat' first|refine vw ?_ ?_<;>intro hq|refine vz ?_|simp -implicitDefEqProofs only [go_sem,mp1',hY.idx he,cc,kA,cA,iA,kB,cB,iB,kE,cE,iE])
  refine (recE v (w:=⟨w.w,_⟩) hvx okv te (hM.keep hI2.k mp1) (hI2.s.low (by omega)) hI.nd hI2.ol hI.ok hI2.hm (by omega)).mono ?_
  rintro _ τ2 ⟨rfl,in2,kp2,l2,u2,mp2⟩
  have mp2':τ2.get pm=some (.cells 4 [.agg [G,L,(.sc (.int .i64 ((E v oj (m+1)).n))),(.sc (.int .i64 ((E v oj (m+1)).e)))]]):=mp2
  generalize E v oj (m+1)=p at in2 l2 u2 mp2 mp2' hP' ⊢
  by_cases hpe:p.e=0
  rotate_left
  ·rw [if_pos hpe] at hP'
   obtain ⟨S',c1,c2,-,-,-⟩:=hI2.cut kp2 lpm
   rw [<-hP']
   (repeat' first|refine vw ?_ ?_<;>intro hq|refine vz ?_|simp -implicitDefEqProofs only [go_sem,mp2',dcf hpe,c1])
   exact SRr.err hpe (hI2.k.trans kp2) (vom) u2 mp2 c2
  rw [if_neg (not_not_intro hpe)] at hP'
  rw [if_pos hpe]
  rw [hpe] at mp2 mp2'
  obtain ⟨inv,ltv⟩:=in2 hpe
  have hI3:=hI2.keep lpm kp2 l2 u2 mp2
  clear hI2 kp2
  simp -implicitDefEqProofs only [go_sem,mp2']
  refine vzf ?_
  simp -implicitDefEqProofs only [go_sem,hY.idx he,cc,kA,cA,iA,kB,cB,iB,kE,cE,iE]
  by_cases k5:k=5
  ·rw [if_pos k5] at hP'
   obtain ⟨S',c1,c2,-,-,-⟩:=hI3.cut (KeepM.refl _ _) lpm
   rw [<-hP']
   (repeat' first|refine vw ?_ ?_<;>intro hq|refine vz ?_|simp -implicitDefEqProofs only [go_sem,dct k5,c1])
   exact SRr.ret rfl rfl rfl inv hI3.k hI3.hn u2 mp2 c2
  rw [if_neg k5] at hP'
  have hol3:=hI3.ol
  have hnm:nm.size<=281474976710656:=h4
  by_cases k1:k=1
  ·rw [if_pos k1] at hP'
   rw [if_pos k1] at tr
   have hno:=t1 k1
   have hfa:=fset_app (v:=p.v) hno
   have g1:=hI3.s.fit
   have g2:=hI3.s.cells
   have g3:=hI3.s.isCell
   have hS4:NmR σ.next (τ2.alloc (.cells 2 [.agg [.sc (.string nm),(.sc (.int .i64 (p.v)))]])) S oj:=hI3.s.keep fun b y _ hg=>get_alloc_old hg
   have hsn:=hI3.k.1
   obtain ⟨b',τ4,q1,q2,q3,q4⟩:=hS4.push (nm,p.v) (bytes:=24) (by rw [alloc_next]; omega) (by omega) (by decide)
   have q1':aAppend 2 24 S [.agg [.sc (.string nm),(.sc (.int .i64 (p.v)))]] (τ2.alloc (.cells 2 [.agg [.sc (.string nm),(.sc (.int .i64 (p.v)))]]))=some (.slice b' 0 (oj.length+1),τ4):=q1
   (repeat' first|refine vw ?_ ?_<;>intro hq|refine vz ?_|simp -implicitDefEqProofs only [go_sem,hY.idx he,cc,kA,cA,iA,kB,cB,iB,kE,cE,iE,dcf k5,dct k1,q1',g1,g2,g3,hw])
   refine ⟨(.slice b' 0 (oj.length+1),j+1),vom,⟨vom,oj++[(nm,p.v)],made++[nm],p.n,⟨⟨by rw [alloc_next] at q3; omega,fun b y hb hg=>q4 _ _ (by have:=AStore.lt_of_get hg; omega) (get_alloc_old (hI3.k.2 _ _ hb hg))⟩,q2,?_,?_,?_,?_,hI3.hn,u2,q4 _ _ lpm (get_alloc_old mp2)⟩,?_,by rw [<-hfa]; exact hP'⟩,vsu⟩
   ·rw [nmsF_app,hI3.nm,List.append_assoc]; rfl
   ·rw [nmsF_app,List.nodup_append]
    refine ⟨hI3.nd,by simp [nmsF],fun a ha b hb hab=>?_⟩
    simp only [nmsF,List.map_cons,List.map_nil,List.mem_singleton] at hb
    subst hb; subst hab; exact hno ha
   ·simp only [List.length_append,List.length_cons,List.length_nil]; have:=hI.ol; omega
   ·rw [<-hfa]; exact okF_set hI3.ok nm inv
   ·dsimp only; rw [nmsF_app]; exact tr
  rw [if_neg k1] at hP'
  rw [if_neg k1] at tr tb tl
  by_cases k2:k=2
  ·rw [if_pos k2] at hP'
   have hin:=t2 k2
   (repeat' first|refine vw ?_ ?_<;>intro hq|refine vz ?_|simp -implicitDefEqProofs only [go_sem,dcf k5,dcf k1,dct k2])
   have hlen:=fun (μ:AStore)=>hI3.s.len (τ:=μ)
   refine vlp (ι:=Nat) (fun q=>[(0,.ptr pm 0 0),(1,Y),(2,S),(9,(.sc (.int .i64 (o.length)))),(10,(.sc (.int .i64 (j)))),(11,(.sc (.int .i64 (p.v)))),(12,(.sc (.int .i64 (q))))]) (fun q μ=>q<=oj.length/\KeepM pm σ μ/\μ.get pm=some (mcR G L p.n 0)/\NmR σ.next μ S (setTo oj nm p.v q)) (fun q=>oj.length - q) (fun _=>rfl) 0 ?_ ?_ ?_
   ·exact vsu
   ·exact ⟨Nat.zero_le _,hI3.k,mp2,by simpa [setTo] using hI3.s⟩
   rintro q μ ⟨hq,kμ,mμ,nμ⟩
   simp -implicitDefEqProofs only [go_sem,hlen]
   (refine vif ?_ ?_<;>intro hlt2)
   ·obtain ⟨pq,hpq⟩:∃ pq,oj[q]?=some pq:=⟨oj[q]'(by omega),by simp⟩
    obtain ⟨b,ls,hb,hSb,hg,hxq,htk⟩:=nμ.at (setTo_at hpq)
    rw [setTo_len] at hSb htk
    have hix:ixSl b 0 2 (.sc (.int .i64 (q))) oj.length (some (.cells 2 ls))=some (.ptr b q 0):=ix_at (by omega)
    have hxq':ls[q]?=some (.agg [.sc (.string pq.1),(.sc (.int .i64 (pq.2)))]):=hxq
    have hwq:=wrapS (i:=q) (by omega)
    (repeat' first|refine vw ?_ ?_<;>intro hq|refine vz ?_|simp -implicitDefEqProofs only [go_sem])
    ((try (refine Z_seq ?_; (try simp -implicitDefEqProofs only [go_sem]))); refine Z_draw (by kernel_rfl) [0,1,2,3,4,5,6,7,8,9,10] [(10,1023),(9,480),(8,224),(7,96),(6,0),(5,0),(4,15),(3,7),(2,3),(1,0),(0,0)] (by kernel_rfl) (by kernel_rfl) ?_)
    by_cases hk:pq.1=nm
    ·have hput:=NmR.put (p:=(pq.1,p.v)) (i:=q) hb hg (by rw [setTo_len]; exact htk)
     rw [setTo_len,<-setTo_eq hpq hk,<-hSb] at hput
     rw [hSb] at hput ⊢
     simp -implicitDefEqProofs only [go_sem,hY.idx he,cc,kA,cA,iA,kB,cB,iB,kE,cE,iE,hg,hix,hxq',ba_list,dct hk]
     refine vzt ?_
     (repeat' first|refine vw ?_ ?_<;>intro hq|refine vz ?_|simp -implicitDefEqProofs only [go_sem,hg,hix,hxq',hwq])
     refine ⟨q+1,vom,⟨by omega,⟨by rw [set_next]; exact kμ.1,fun b2 y hb2 hg2=>?_⟩,?_,hput⟩,vsu⟩
     ·have:=AStore.lt_of_get hg2
      rw [AStore.get_set,if_neg (by omega)]; exact kμ.2 _ _ hb2 hg2
     ·rw [AStore.get_set,if_neg (by omega)]; exact mμ
    ·rw [<-setTo_ne hpq hk] at nμ
     rw [hSb] at nμ ⊢
     simp -implicitDefEqProofs only [go_sem,hY.idx he,cc,kA,cA,iA,kB,cB,iB,kE,cE,iE,hg,hix,hxq',ba_list,dcf hk]
     refine vzf ?_
     (repeat' first|refine vw ?_ ?_<;>intro hq|refine vz ?_|simp -implicitDefEqProofs only [go_sem,hwq])
     exact ⟨q+1,vom,⟨vom,kμ,mμ,nμ⟩,vsu⟩
   ·obtain rfl:q=oj.length:=by omega
    rw [setTo_all hI3.nd hin] at nμ
    have hnf:=fset_nms (v:=p.v) hin
    have hlf:(fset oj nm p.v).length=oj.length:=by have:=congrArg List.length hnf; simpa [nmsF] using this
    (repeat' first|refine vw ?_ ?_<;>intro hq|refine vz ?_|simp -implicitDefEqProofs only [go_sem,hw])
    exact ⟨(S,j+1),vom,⟨vom,_,made,p.n,⟨kμ,nμ,by rw [hnf]; exact hI3.nm,by rw [hnf]; exact hI3.nd,by rw [hlf]; exact hol3,okF_set hI3.ok nm inv,hI3.hn,u2,mμ⟩,by rw [hnf]; exact tr,hP'⟩,vsu⟩
  rw [if_neg k2] at hP'
  by_cases k3:k=3
  ·rw [if_pos (.inl k3),if_pos k3] at hP'
   by_cases hz:p.v=0
   ·rw [if_pos hz] at hP'
    (repeat' first|refine vw ?_ ?_<;>intro hq|refine vz ?_|simp -implicitDefEqProofs only [go_sem,hY.idx he,cc,kA,cA,iA,kB,cB,iB,kE,cE,iE,dcf k5,dcf k1,dcf k2,dct k3,dct hz])
    refine (recA els' (w:=⟨w.w,_⟩) hE hee h8 oke tl (hM.keep hI3.k mp2) (hI3.s.low (by omega)) hI3.nd hol3 hI3.ok u2 (by omega)).mono ?_
    rintro _ τ3 ⟨S4,o4,rfl,iq,kq,lq,uq,mq,nq,hq⟩
    obtain ⟨S',c1,c2,-,-,-⟩:=hI3.cut kq lpm
    generalize A els' oj p.n=q at iq lq uq mq hq hP' ⊢
    by_cases hqe:q.e=0
    ·rw [hqe] at mq
     cases hqr:q.r with
     | true=>
      rw [if_pos (.inr hqr)] at hP'
      rw [<-hP',if_pos hqe]
      (repeat' first|refine vw ?_ ?_<;>intro hq|refine vz ?_|simp -implicitDefEqProofs only [go_sem,hqr,c1])
      exact SRr.ret hqe rfl rfl (iq hqe) (hI3.k.trans kq) (by have:=hI3.hn; dsimp only; omega) uq mq c2
     | false=>
      obtain ⟨rfl,q1,q2⟩:=hq hqe hqr
      rw [if_neg (by rw [hqe,hqr]; decide)] at hP'
      have hlq:q.o.length=oj.length:=by have:=congrArg List.length q1; simpa [nmsF] using this
      rw [hqe]
      (repeat' first|refine vw ?_ ?_<;>intro hq|refine vz ?_|simp -implicitDefEqProofs only [go_sem,hqr,hw,show decide ((0:Int)≠0)=false from rfl])
      exact ⟨(S4,j+1),vom,⟨vom,_,made,q.n,⟨hI3.k.trans kq,nq.low hI3.k.1,by rw [q1]; exact hI3.nm,by rw [q1]; exact hI3.nd,by omega,q2,by have:=hI3.hn; omega,uq,mq⟩,by rw [q1]; exact tr,hP'⟩,vsu⟩
    ·rw [if_pos (.inl hqe)] at hP'
     rw [<-hP',if_neg hqe]
     (repeat' first|refine vw ?_ ?_<;>intro hq|refine vz ?_|simp -implicitDefEqProofs only [go_sem,dct hqe,Bool.or_true,c1])
     exact SRr.err hqe (hI3.k.trans kq) (by have:=hI3.hn; dsimp only; omega) uq mq c2
   ·rw [if_neg hz] at hP'
    (repeat' first|refine vw ?_ ?_<;>intro hq|refine vz ?_|simp -implicitDefEqProofs only [go_sem,hY.idx he,cc,kA,cA,iA,kB,cB,iB,kE,cE,iE,dcf k5,dcf k1,dcf k2,dct k3,dcf hz])
    refine (recA body (w:=⟨w.w,_⟩) hB hb' h7 okb tb (hM.keep hI3.k mp2) (hI3.s.low (by omega)) hI3.nd hol3 hI3.ok u2 (by omega)).mono ?_
    rintro _ τ3 ⟨S4,o4,rfl,iq,kq,lq,uq,mq,nq,hq⟩
    obtain ⟨S',c1,c2,-,-,-⟩:=hI3.cut kq lpm
    generalize A body oj p.n=q at iq lq uq mq hq hP' ⊢
    by_cases hqe:q.e=0
    ·rw [hqe] at mq
     cases hqr:q.r with
     | true=>
      rw [if_pos (.inr hqr)] at hP'
      rw [<-hP',if_pos hqe]
      (repeat' first|refine vw ?_ ?_<;>intro hq|refine vz ?_|simp -implicitDefEqProofs only [go_sem,hqr,c1])
      exact SRr.ret hqe rfl rfl (iq hqe) (hI3.k.trans kq) (by have:=hI3.hn; dsimp only; omega) uq mq c2
     | false=>
      obtain ⟨rfl,q1,q2⟩:=hq hqe hqr
      rw [if_neg (by rw [hqe,hqr]; decide)] at hP'
      have hlq:q.o.length=oj.length:=by have:=congrArg List.length q1; simpa [nmsF] using this
      rw [hqe]
      (repeat' first|refine vw ?_ ?_<;>intro hq|refine vz ?_|simp -implicitDefEqProofs only [go_sem,hqr,hw,show decide ((0:Int)≠0)=false from rfl])
      exact ⟨(S4,j+1),vom,⟨vom,_,made,q.n,⟨hI3.k.trans kq,nq.low hI3.k.1,by rw [q1]; exact hI3.nm,by rw [q1]; exact hI3.nd,by omega,q2,by have:=hI3.hn; omega,uq,mq⟩,by rw [q1]; exact tr,hP'⟩,vsu⟩
    ·rw [if_pos (.inl hqe)] at hP'
     rw [<-hP',if_neg hqe]
     (repeat' first|refine vw ?_ ?_<;>intro hq|refine vz ?_|simp -implicitDefEqProofs only [go_sem,dct hqe,Bool.or_true,c1])
     exact SRr.err hqe (hI3.k.trans kq) (by have:=hI3.hn; dsimp only; omega) uq mq c2
  by_cases k4:k=4
  ·rw [if_pos (.inr k4),if_neg k3] at hP'
   generalize hQ:whG E A v body 1001 p.v oj p.n=Q at hP'
   (repeat' first|refine vw ?_ ?_<;>intro hq|refine vz ?_|simp -implicitDefEqProofs only [go_sem,dcf k5,dcf k1,dcf k2,dcf k3,dct k4])
   refine vlp (ι:=AVal×Int×Nat) (fun q=>[(0,.ptr pm 0 0),(1,Y),(2,q.1),(9,(.sc (.int .i64 (o.length)))),(10,(.sc (.int .i64 (j)))),(11,(.sc (.int .i64 (q.2.1))))]) (fun q μ=>∃ o2 K,RI σ pm G L n o q.1 o2 made q.2.2 μ/\nmsF o2=nmsF oj/\1001<=K+q.2.2/\n+1<=q.2.2/\whG E A v body K q.2.1 o2 q.2.2=Q) (fun q=>1000 - q.2.2) (fun _=>rfl) (S,p.v,p.n) ?_ ?_ ?_
   ·exact vsu
   ·exact ⟨oj,1001,hI3,rfl,vom,vom,hQ⟩
   clear hQ
   rintro ⟨S,val,mm⟩ μ ⟨o2,K,hJ,hon,hK,hn1,hwh⟩
   dsimp only at hJ hK hn1 hwh ⊢
   have hmm2:=hJ.hm
   obtain ⟨K,rfl⟩:∃ K',K=K'+1:=⟨K - 1,vom⟩
   by_cases hz:val=0
   ·rw [whG,if_pos hz] at hwh
    rw [<-hwh] at hP'
    rw [if_neg (by rintro (h|h); exact h rfl; cases h)] at hP'
    (repeat' first|refine vw ?_ ?_<;>intro hq|refine vz ?_|simp -implicitDefEqProofs only [go_sem,dct hz,hw])
    exact ⟨(S,j+1),vom,⟨vom,o2,made,mm,hJ,by rw [hon]; exact tr,hP'⟩,vsu⟩
   ·rw [whG,if_neg hz] at hwh
    dsimp only at hwh
    (repeat' first|refine vw ?_ ?_<;>intro hq|refine vz ?_|simp -implicitDefEqProofs only [go_sem,dcf hz,hY.idx he,cc,kA,cA,iA,kB,cB,iB,kE,cE,iE])
    refine (recA body (w:=⟨w.w,_⟩) hB hb' h7 okb (by rw [hon]; exact tb) (hM.keep hJ.k hJ.mp) (hJ.s.low (by omega)) hJ.nd hJ.ol hJ.ok hmm2 (by omega)).mono ?_
    rintro _ τ3 ⟨S4,o4,rfl,iq,kq,lq,uq,mq,nq,hq⟩
    obtain ⟨S',c1,c2,-,-,-⟩:=hJ.cut kq lpm
    generalize A body o2 mm=q at iq lq uq mq hq hwh ⊢
    by_cases hqe:q.e=0
    ·rw [hqe] at mq
     cases hqr:q.r with
     | true=>
      rw [if_pos (.inr hqr)] at hwh
      rw [<-hwh,if_pos (.inr hqr)] at hP'
      rw [<-hP',if_pos hqe]
      (repeat' first|refine vw ?_ ?_<;>intro hq|refine vz ?_|simp -implicitDefEqProofs only [go_sem,hqr,c1])
      exact SRr.ret hqe rfl rfl (iq hqe) (hJ.k.trans kq) (vom) uq mq c2
     | false=>
      obtain ⟨rfl,q1,q2⟩:=hq hqe hqr
      rw [if_neg (by rw [hqe,hqr]; decide)] at hwh
      have hlq:q.o.length=o2.length:=by have:=congrArg List.length q1; simpa [nmsF] using this
      have hol2:=hJ.ol
      have hJ4:RI σ pm G L n o S4 q.o made q.n τ3:=⟨hJ.k.trans kq,nq.low hJ.k.1,by rw [q1]; exact hJ.nm,by rw [q1]; exact hJ.nd,by omega,q2,by omega,uq,mq⟩
      rw [hqe]
      (repeat' first|refine vw ?_ ?_<;>intro hq|refine vz ?_|simp -implicitDefEqProofs only [go_sem,hqr,show decide ((0:Int)≠0)=false from rfl,hY.idx he,cc,kA,cA,iA,kB,cB,iB,kE,cE,iE])
      refine (recE v (w:=⟨w.w,_⟩) hvx okv (by rw [q1,hon]; exact te) (hM.keep hJ4.k mq) (hJ4.s.low (by omega)) hJ4.nd hJ4.ol hJ4.ok uq (by omega)).mono ?_
      rintro _ τ4 ⟨rfl,in5,kp5,l5,u5,mp5⟩
      have mp5':τ4.get pm=some (.cells 4 [.agg [G,L,(.sc (.int .i64 ((E v q.o q.n).n))),(.sc (.int .i64 ((E v q.o q.n).e)))]]):=mp5
      obtain ⟨S',c1,c2,-,-,-⟩:=hJ4.cut kp5 lpm
      generalize E v q.o q.n=p2 at in5 l5 u5 mp5 mp5' hwh ⊢
      by_cases he5:p2.e=0
      ·rw [if_neg (not_not_intro he5)] at hwh
       rw [he5] at mp5 mp5'
       have:=(in5 he5).2
       rw [if_pos he5]
       (repeat' first|refine vw ?_ ?_<;>intro hq|refine vz ?_|simp -implicitDefEqProofs only [go_sem,mp5'])
       exact ⟨(S4,p2.v,p2.n),vom,⟨q.o,K,hJ4.keep lpm kp5 l5 u5 mp5,by rw [q1,hon],vom,vom,hwh⟩,vsu⟩
      ·rw [if_pos he5] at hwh
       rw [<-hwh,if_pos (.inl he5)] at hP'
       rw [<-hP']
       (repeat' first|refine vw ?_ ?_<;>intro hq|refine vz ?_|simp -implicitDefEqProofs only [go_sem,mp5',dcf he5,c1])
       exact SRr.err he5 (hJ4.k.trans kp5) (vom) u5 mp5 c2
    ·rw [if_pos (.inl hqe)] at hwh
     rw [<-hwh,if_pos (.inl hqe)] at hP'
     rw [<-hP',if_neg hqe]
     (repeat' first|refine vw ?_ ?_<;>intro hq|refine vz ?_|simp -implicitDefEqProofs only [go_sem,dct hqe,Bool.or_true,c1])
     exact SRr.err hqe (hJ.k.trans kq) (vom) uq mq c2
  rw [if_neg (by rintro (h|h); exact k3 h; exact k4 h)] at hP'
  (repeat' first|refine vw ?_ ?_<;>intro hq|refine vz ?_|simp -implicitDefEqProofs only [go_sem,dcf k5,dcf k1,dcf k2,dcf k3,dcf k4,hw])
  exact ⟨(S,j+1),vom,⟨vom,oj,made,p.n,hI3,tr,hP'⟩,vsu⟩
 ·obtain rfl:j=ss.length:=by omega
  rw [List.drop_length] at hP'
  obtain ⟨S',c1,c2,c3,c4,c5⟩:=hI.cut (KeepM.refl _ _) lpm
  rw [stsG,c3] at hP'
  rw [<-hP']
  (repeat' first|refine vw ?_ ?_<;>intro hq|refine vz ?_|simp -implicitDefEqProofs only [go_sem,c1])
  exact SRr.fin rfl rfl rfl hI.k hnn hmm hI.mp c2 c4 c5
theorem evHC {gl : Fr} {fs : List Fc} {els : List AVal} (hgv : ∀ s, inM (gval gl s)) (hgn : (nmsF gl).Nodup) (hgl : gl.length ≤ 1000000) (hfs : FnOk fs els) (hty : FnTy (nmsF gl) fs) (hfl : fs.length ≤ 1000000) :
    ∀ N,(∀ y,ExpRC gl fs els N (evG fs (gval gl) N).1 y)/\∀ ss,AllRC gl fs els N (evG fs (gval gl) N).2 ss
  | 0=>⟨fun y=>by obtain ⟨k,nm,i,xs⟩:=y; exact expHStep hgv hgn hgl hfs hty hfl (N:=0) (fun M h=>by cases h),fun ss=>allHStep (N:=0) (fun M h=>by cases h)⟩
  | N + 1 => by
      have ih:=evHC hgv hgn hgl hfs hty hfl N
      have hrec:∀ M,N+1=M+1->(∀ y,ExpRC gl fs els M (evG fs (gval gl) N).1 y)/\∀ ss,AllRC gl fs els M (evG fs (gval gl) N).2 ss:=fun M h=>by cases h; exact ih
      exact ⟨fun y=>by obtain ⟨k,nm,i,xs⟩:=y; exact expHStep hgv hgn hgl hfs hty hfl hrec,fun ss=>allHStep hrec⟩
theorem runHC {w:WD} {x:Ex} {X N V L:AVal} {gl:Fr} {fs:List Fc} {els:List AVal} (hX:IsEx x X) (hN:IsD 1 N (gl.map fun p=>sA p.1)) (hV:IsD 1 V (gl.map fun p=>(.sc (.int .i64 (p.2))))) (hl:gl.length<=1000000) (hL:IsD 3 L els) (hg:goodB gl=true)
  (hok:okG x=true) (hte:expE (nmsF gl) [] fs x=0) (hfs:FnOk fs els) (hty:FnTy (nmsF gl) fs) (hfl:fs.length<=1000000):
  GivesV (EE w) 21 [X,N,V,L] (.tuple [(.sc (.int .i64 ((qOf ((evG fs (gval gl) 1000).1 x [] 0)).1))),(.sc (.int .i64 ((qOf ((evG fs (gval gl) 1000).1 x [] 0)).2.1))),(.sc (.int .i64 ((qOf ((evG fs (gval gl) 1000).1 x [] 0)).2.2.1)))]):=by
 have hNn:=fun σ:AStore=>hN.lenN (by simp) (n:=gl.length) (σ:=σ)
 have hVn:=fun σ:AStore=>hV.lenN (by simp) (n:=gl.length) (σ:=σ)
 have hg2:=goodB_iff.1 hg
 have hev:ExpRC gl fs els 1000 (evG fs (gval gl) 1000).1 x:=(evHC (gval_inG hg2.2) hg2.1 hl hfs hty hfl 1000).1 x
 obtain ⟨c1,c2,c3⟩:=hX.isA.facts
 have cc:=hX.cellsOk
 have hfit:X.fit=true:=by obtain ⟨cs,rfl,_⟩:=hX.isA; rfl
 have kL:=hL.fit
 have cL:=hL.cells
 have iL:=hL.isCell
 refine GivesV.of (fun _=>.sc _) (.cons _ _ hX.wf (.cons _ _ (hN.wf (WFs.map fun _=>.sc _)) (.cons _ _ (hV.wf (WFs.map fun _=>.sc _)) (.cons _ _ (hL.wf hfs.d.wf) .nil)))) 2 ?_
 refine of_21 rfl rfl rfl (by kernel_rfl) ?_
 simp -implicitDefEqProofs only [go_sem,c1,c2,c3,cc,hfit,kL,cL,iL]
 have g0:((empty.alloc (.cells 4 [X])).alloc (.cells 4 [.agg [(.sc (.slice none 0 0)),L,(.sc (.int .i64 (0))),(.sc (.int .i64 (0)))]])).get 0=some (.cells 4 [X]):=by kernel_rfl
 have g1:((empty.alloc (.cells 4 [X])).alloc (.cells 4 [.agg [(.sc (.slice none 0 0)),L,(.sc (.int .i64 (0))),(.sc (.int .i64 (0)))]])).get 1=some (.cells 4 [.agg [(.sc (.slice none 0 0)),L,(.sc (.int .i64 (0))),(.sc (.int .i64 (0)))]]):=by rw [AStore.get_alloc]; rfl
 have hn2:((empty.alloc (.cells 4 [X])).alloc (.cells 4 [.agg [(.sc (.slice none 0 0)),L,(.sc (.int .i64 (0))),(.sc (.int .i64 (0)))]])).next=2:=rfl
 generalize (empty.alloc (.cells 4 [X])).alloc (.cells 4 [.agg [(.sc (.slice none 0 0)),L,(.sc (.int .i64 (0))),(.sc (.int .i64 (0)))]])=τ at g0 g1 hn2 ⊢
 refine vlp (ι:=Nat) (fun j=>[(1,N),(2,V),(4,.ptr 0 0 0),(11,.ptr 1 0 0),(12,(.sc (.int .i64 (j))))]) (fun j τ=>j<=gl.length/\τ.get 0=some (.cells 4 [X])/\∃ G,τ.get 1=some (.cells 4 [.agg [G,L,(.sc (.int .i64 (0))),(.sc (.int .i64 (0)))]])/\NmR 2 τ G (gl.take j)) (fun j=>gl.length - j) (fun _=>rfl) 0 ?_ ?_ ?_
 ·exact vsu
 ·exact ⟨Nat.zero_le _,g0,_,g1,NmR.nil⟩
 clear g0 g1 hn2
 rintro j τ ⟨hj,g0,G,g1,hG⟩
 have l1:=AStore.lt_of_get g1
 have kG:=hG.fit
 have cG:=hG.cells
 have iG:=hG.isCell
 simp -implicitDefEqProofs only [go_sem,hNn]
 (refine vif ?_ ?_<;>intro hlt)
 ·obtain ⟨p,hp⟩:∃ p,gl[j]?=some p:=⟨gl[j]'(by omega),by simp⟩
  have e1:(gl.map fun p=>sA p.1)[j]?=some (sA p.1):=by rw [List.getElem?_map,hp]; rfl
  have e2:(gl.map fun p=>((.sc (.int .i64 (p.2))):AVal))[j]?=some (.sc (.int .i64 (p.2))):=by rw [List.getElem?_map,hp]; rfl
  have hcs:(sA p.1).cells=[.sc (.string p.1)]:=rfl
  have hw:=wrapS (i:=j) (by omega)
  obtain ⟨b',τ',a1,a2,a3,a4⟩:=hG.push p (bytes:=24) (by omega) (by rw [List.length_take]; omega) (by decide)
  have a1':aAppend 2 24 G [.agg [.sc (.string p.1),(.sc (.int .i64 (p.2)))]] τ=some (.slice b' 0 ((gl.take j).length+1),τ'):=a1
  have h0:=a4 _ _ (by decide) g0
  have h1:=a4 _ _ (by decide) g1
  have l1':=AStore.lt_of_get h1
  (repeat' first|refine vw ?_ ?_<;>intro hq|refine vz ?_|simp -implicitDefEqProofs only [go_sem])
  ((try (refine Z_seq ?_; (try simp -implicitDefEqProofs only [go_sem]))); refine Z_draw (by kernel_rfl) [0,1,2,3,4,5,6,7,8,9,10,11,12,13,14,15,16,17,18] [(18,262143),(17,131071),(16,65535),(15,32766),(14,16352),(13,8160),(12,3584),(11,1536),(10,0),(9,0),(8,224),(7,96),(6,0),(5,0),(4,14),(3,6),(2,2),(1,0),(0,0)] (by kernel_rfl) (by kernel_rfl) ?_)
  simp -implicitDefEqProofs only [go_sem,g1,kG,cG,iG,hN.idx e1,hV.idx e2,hcs,a1',h1,kL,cL,iL]
  (repeat' first|refine vw ?_ ?_<;>intro hq|refine vz ?_|simp -implicitDefEqProofs only [go_sem,hw])
  have ht:gl.take (j+1)=gl.take j++[p]:=by rw [List.take_add_one,hp]; rfl
  refine ⟨j+1,vom,⟨vom,?_,.slice b' 0 ((gl.take j).length+1),?_,?_⟩,vsu⟩
  ·rw [AStore.get_set,if_neg (by omega)]; exact h0
  ·rw [gss l1']
  ·rw [ht]
   exact a2.keep fun b y hb hg=>by rw [AStore.get_set,if_neg (by omega)]; exact hg
 ·obtain rfl:j=gl.length:=by omega
  rw [List.take_length] at hG
  have hM:Mr τ 1 0 gl els G L:=⟨g1,hG,hL⟩
  (repeat' first|refine vw ?_ ?_<;>intro hq|refine vz ?_|simp -implicitDefEqProofs only [go_sem,g0,g1,c1,c2,c3,cc,hfit])
  refine (hev (w:=⟨w.w,[]⟩) (o:=[]) hX hok hte hM (.inl ⟨rfl,.inl rfl⟩) List.nodup_nil (by simp) (fun p hp=>by cases hp) (by decide) (by decide)).mono ?_
  rintro _ σ' ⟨rfl,-,-,-,-,m1⟩
  have m1':σ'.get 1=some (.cells 4 [.agg [G,L,(.sc (.int .i64 (((evG fs (gval gl) 1000).1 x [] 0).n))),(.sc (.int .i64 (((evG fs (gval gl) 1000).1 x [] 0).e)))]]):=m1
  generalize (evG fs (gval gl) 1000).1 x [] 0=p at m1' ⊢
  by_cases hp:p.e=0
  ·rw [if_pos hp]
   rw [hp] at m1'
   (repeat' first|refine vw ?_ ?_<;>intro hq|refine vz ?_|simp -implicitDefEqProofs only [go_sem,m1'])
   ((try (refine Z_seq ?_; (try simp -implicitDefEqProofs only [go_sem]))); refine Z_draw (by kernel_rfl) [0,1,2,3,4,5,6,7] [(7,127),(6,63),(5,1),(4,14),(3,6),(2,2),(1,0),(0,0)] (by kernel_rfl) (by kernel_rfl) ?_)
   simp -implicitDefEqProofs only [go_sem,m1',kG,cG,iG]
   exact ⟨_,rfl,by simp only [qOf,if_pos hp,hp]; rfl⟩
  ·rw [if_neg hp]
   (repeat' first|refine vw ?_ ?_<;>intro hq|refine vz ?_|simp -implicitDefEqProofs only [go_sem,m1',dcf hp])
   ((try (refine Z_seq ?_; (try simp -implicitDefEqProofs only [go_sem]))); refine Z_draw (by kernel_rfl) [0,1,2,3,4,5,6,7,8,9,10] [(10,1023),(9,271),(8,0),(7,112),(6,48),(5,16),(4,0),(3,7),(2,3),(1,1),(0,0)] (by kernel_rfl) (by kernel_rfl) ?_)
   simp -implicitDefEqProofs only [go_sem,m1',kG,cG,iG]
   exact ⟨_,rfl,by simp only [qOf,if_neg hp]; rfl⟩
def befP (x:Ex) (ns:List ByteArray) (vs:List Int) (fs:List Fc):Int:=if ns.length≠vs.length then 2 else if goodB (ns.zip vs)=false then 2 else expP nameB x ns fs
theorem good_take {gl:Fr} {j:Nat} {p:ByteArray×Int} (hp:gl[j]?=some p) (h:goodB (gl.take j)=true) (h1:p.1 ∉ (gl.take j).map (·.1)) (h2:-2147483648<=p.2) (h3:p.2<=2147483648):goodB (gl.take (j+1))=true:=by
 have:gl.take (j+1)=gl.take j++[p]:=by rw [List.take_add_one,hp]; rfl
 rw [this]
 exact goodB_snoc.2 ⟨h,h1,h2,h3⟩
section
variable {w:WD} {x:Ex} {X N V L:AVal} {ns:List ByteArray} {vs:List Int} {fs:List Fc} {els:List AVal} (hX:IsEx x X) (hxb:nodesE x<=1099511627776) (hN:IsD 1 N (ns.map sA)) (hV:IsD 1 V (vs.map fun v=>(.sc (.int .i64 (v)))))
 (hl:ns.length<=1000000) (hlv:vs.length<=1000000) (hL:IsD 3 L els) (hF:IsFcs fs els) (hfl:els.length<=1000000) (hfb:nodesF fs<=1099511627776)
include hX hxb hN hV hl hlv hL hF hfl hfb
theorem beforeC:GivesV (EE w) 20 [X,N,V,L] (.sc (.int .i64 (befP x ns vs fs))):=by
 have hNn:=fun σ:AStore=>hN.lenN (by simp) (n:=ns.length) (σ:=σ)
 have hVn:=fun σ:AStore=>hV.lenN (by simp) (n:=vs.length) (σ:=σ)
 obtain ⟨c1,c2,c3⟩:=hX.isA.facts
 have cc:=hX.cellsOk
 have hfit:X.fit=true:=by obtain ⟨cs,rfl,_⟩:=hX.isA; rfl
 have kN:=hN.fit
 have cN:=hN.cells
 have iN:=hN.isCell
 have kV:=hV.fit
 have cV:=hV.cells
 have iV:=hV.isCell
 refine GivesV.of (fun _=>.sc _) (.cons _ _ hX.wf (.cons _ _ (hN.wf (wf_sA _)) (.cons _ _ (hV.wf (WFs.map fun _=>.sc _)) (.cons _ _ (hL.wf hF.wf) .nil)))) 2 ?_
 refine of_20 rfl rfl rfl (by kernel_rfl) ?_
 simp -implicitDefEqProofs only [go_sem,c1,c2,c3,cc,hfit]
 have g0:(empty.alloc (.cells 4 [X])).get 0=some (.cells 4 [X]):=by rw [AStore.get_alloc]; rfl
 generalize empty.alloc (.cells 4 [X])=τ at g0 ⊢
 unfold befP
 by_cases hlen:ns.length=vs.length
 rotate_left
 ·have hne:¬ ((ns.length:Int)=vs.length):=by omega
  rw [if_pos hlen]
  (repeat' first|refine vw ?_ ?_<;>intro hq|refine vz ?_|simp -implicitDefEqProofs only [go_sem,hNn,hVn,dcf hne])
  exact ⟨_,rfl,rfl⟩
 rw [if_neg (not_not_intro hlen)]
 have heq:((ns.length:Int)=vs.length):=by omega
 (repeat' first|refine vw ?_ ?_<;>intro hq|refine vz ?_|simp -implicitDefEqProofs only [go_sem,hNn,hVn,dct heq])
 have hzl:(ns.zip vs).length=ns.length:=by rw [List.length_zip]; omega
 have hz1:(ns.zip vs).map (·.1)=ns:=List.map_fst_zip (by omega)
 refine vlp (ι:=Nat) (fun j=>[(1,N),(2,V),(3,L),(4,.ptr 0 0 0),(9,(.sc (.int .i64 (j))))]) (fun j τ=>j<=ns.length/\τ.get 0=some (.cells 4 [X])/\goodB ((ns.zip vs).take j)=true) (fun j=>ns.length - j) (fun _=>rfl) 0 ?_ ?_ ?_
 ·exact vsu
 ·exact ⟨Nat.zero_le _,g0,rfl⟩
 clear g0
 rintro j τ ⟨hj,g0,hgd⟩
 simp -implicitDefEqProofs only [go_sem,hNn]
 (refine vif ?_ ?_<;>intro hlt)
 ·obtain ⟨p,hp⟩:∃ p,(ns.zip vs)[j]?=some p:=⟨(ns.zip vs)[j]'(by omega),List.getElem?_eq_getElem _⟩
  obtain ⟨hp1,hp2⟩:=List.getElem?_zip_eq_some.1 hp
  have e1:(ns.map sA)[j]?=some (sA p.1):=by rw [List.getElem?_map,hp1]; rfl
  have e2:(vs.map fun v=>((.sc (.int .i64 (v))):AVal))[j]?=some (.sc (.int .i64 (p.2))):=by rw [List.getElem?_map,hp2]; rfl
  have hcs:(sA p.1).cells=[.sc (.string p.1)]:=rfl
  have hw:=wrapS (i:=j) (by omega)
  have ht1:((ns.zip vs).take j).map (·.1)=ns.take j:=by rw [List.map_take,hz1]
  obtain ⟨F,hF1,hF2⟩:=hN.take (k:=j) (by simp; omega)
  rw [<-List.map_take] at hF2
  (repeat' first|refine vw ?_ ?_<;>intro hq|refine vz ?_|simp -implicitDefEqProofs only [go_sem])
  ((try (refine Z_seq ?_; (try simp -implicitDefEqProofs only [go_sem]))); refine Z_draw (by kernel_rfl) [0,1,2,3,4,5,6,7,8,9,10,11,12,13,14,15,16,17,18,19,20,21] [(21,2097151),(20,1048575),(19,524287),(18,262143),(17,65535),(16,65535),(15,32767),(14,16383),(13,8191),(12,4095),(11,2047),(10,511),(9,511),(8,255),(7,127),(6,56),(5,24),(4,0),(3,0),(2,3),(1,0),(0,0)] (by kernel_rfl) (by kernel_rfl) ?_)
  simp -implicitDefEqProofs only [go_sem,hF1,hN.idx e1,hcs]
  refine (inC hF2 (by rw [List.length_take]; omega) p.1).useD ?_
  by_cases hm:p.1∈ns.take j
  ·rw [if_pos (bad_at hp (.inl (by rw [ht1]; exact hm)))]
   simp -implicitDefEqProofs only [go_sem,dct hm]
   (repeat' first|refine vw ?_ ?_<;>intro hq|refine vz ?_|simp -implicitDefEqProofs only [go_sem])
   exact ⟨_,rfl,rfl⟩
  by_cases hlo:p.2 < -2147483648
  ·rw [if_pos (bad_at hp (.inr (.inr hlo)))]
   simp -implicitDefEqProofs only [go_sem,dcf hm,hV.idx e2,dct hlo]
   (repeat' first|refine vw ?_ ?_<;>intro hq|refine vz ?_|simp -implicitDefEqProofs only [go_sem])
   exact ⟨_,rfl,rfl⟩
  by_cases hhi:p.2 > 2147483648
  ·rw [if_pos (bad_at hp (.inr (.inl hhi)))]
   simp -implicitDefEqProofs only [go_sem,dcf hm,hV.idx e2,dcf hlo,dct hhi]
   (repeat' first|refine vw ?_ ?_<;>intro hq|refine vz ?_|simp -implicitDefEqProofs only [go_sem])
   exact ⟨_,rfl,rfl⟩
  ·simp -implicitDefEqProofs only [go_sem,dcf hm,hV.idx e2,dcf hlo,dcf hhi]
   (repeat' first|refine vw ?_ ?_<;>intro hq|refine vz ?_|simp -implicitDefEqProofs only [go_sem,hw])
   exact ⟨j+1,vom,⟨by omega,g0,good_take hp hgd (by rw [ht1]; exact hm) (by omega) (by omega)⟩,vsu⟩
 ·obtain rfl:j=ns.length:=by omega
  rw [<-hzl,List.take_length] at hgd
  rw [if_neg (by rw [hgd]; decide)]
  (repeat' first|refine vw ?_ ?_<;>intro hq|refine vz ?_|simp -implicitDefEqProofs only [go_sem,g0,c1,c2,c3,cc,hfit])
  refine (refExpC hX hxb hL hF (by omega) hfb hN (by omega)).use ?_
  (repeat' first|refine vw ?_ ?_<;>intro hq|refine vz ?_|simp -implicitDefEqProofs only [go_sem])
  exact ⟨_,rfl,rfl⟩
end
theorem mapO_app {f:AVal->Option AVal}:∀ {a b:List AVal} {c d:List AVal},mapO f a=some c->mapO f b=some d->mapO f (a++b)=some (c++d)
  | [],b,c,d,h,h2=>by cases h; exact h2
  | x :: a, b, c, d, h, h2 => by
      obtain ⟨y,ys,h1,h3,rfl⟩:=mapO_cons h
      rw [List.cons_append,mapO_cons',h1,mapO_app h3 h2]; rfl
/-- A list in local memory that is lent. -/
theorem lentL {E:Env} (hG:∀ g,WF 0 (E.G g)) {f:FuncId} {σ:AStore} {b sz:Nat} {els:List AVal} {pre post:List AVal} {v:AVal} (hv:∃ N,frz empty N v=some v/\(∀ τ,frz τ N v=some v/\ownV τ N v=true)) (hb:σ.get b=some (.cells sz els)) (h0:sz≠0) (de:Dats els) (dp:Dats pre) (dq:Dats post)
  (h:GivesV E f (pre++.data sz false els::post) v):ACalls E f (pre++.slice b 0 els.length::post) σ fun e σ'=>σ'=σ/\e=.ret v:=by
 obtain ⟨N,_,hN⟩:=hv
 obtain ⟨N1,h1⟩:=Dats.frz (σ:=σ.only [b]) dp
 obtain ⟨N2,h2⟩:=Dats.frz (σ:=σ.only [b]) dq
 obtain ⟨N4,h4⟩:=Dats.frz (σ:=σ.only [b]) de
 have hs:Abs.frz (σ.only [b]) (N1+N2+N4+1) (.slice b 0 els.length)=some (.data sz false els):=by
  rw [frz_slice,only_self hb,frzS_cells (by simp [h0]),List.drop_zero,List.take_of_length_le (by simp),h4 _ (by omega)]; rfl
 refine (ACalls.pureT hG (N:=N) (h empty) ?_ σ (bs:=[b]) (M:=N1+N2+N4+1) (mapO_app (h1 _ (by omega)) (by rw [mapO_cons',hs,h2 _ (by omega)]; rfl))).mono ?_
 ·rintro e σ0 ⟨rfl,rfl⟩
  exact ⟨.ret v,by simp [frzE,(hN _).1],(hN _).2⟩
 ·rintro e σ' ⟨h1,e0,σ0,⟨rfl,rfl⟩,h3⟩
  simp only [frzE,(hN _).1,Option.some.injEq] at h3
  exact ⟨h1,h3.symm⟩
theorem GivesV.at1 {E:Env} {f:FuncId} {args:List AVal} {v:AVal} {σ:AStore} (h:ACalls E f args σ fun e σ'=>σ'=σ/\e=.ret v) {K:SPred} {k:Ev->AStore->Prop} {e:Ev} {dst:Option Nat} (hk:k (putE e dst v) σ):ACalls E f args σ (putR E K k e dst):=by
 refine h.mono ?_
 rintro en σ' ⟨rfl,rfl⟩
 exact hk
theorem dats_iA (vs:List Int):Dats (vs.map fun v=>((.sc (.int .i64 (v))):AVal)):=by
 induction vs with
 | nil=>exact .nil
 | cons p l ih=>exact .cons _ _ (.sc _) ih
theorem dats_sB (g:List ByteArray):Dats (g.map sA):=by
 induction g with
 | nil=>exact .nil
 | cons p l ih=>exact .cons _ _ (.sc _) ih
theorem frz_pair {a b:Int}:∃ N,frz empty N (.tuple [(.sc (.int .i64 (a))),(.sc (.int .i64 (b)))])=some (.tuple [(.sc (.int .i64 (a))),(.sc (.int .i64 (b)))])/\(∀ τ,frz τ N (.tuple [(.sc (.int .i64 (a))),(.sc (.int .i64 (b)))])=some (.tuple [(.sc (.int .i64 (a))),(.sc (.int .i64 (b)))])/\ownV τ N (.tuple [(.sc (.int .i64 (a))),(.sc (.int .i64 (b)))])=true):=⟨2,rfl,fun _=>⟨rfl,rfl⟩⟩
theorem frz_bool {b:Bool}:∃ N,frz empty N (.sc (.bool (b)))=some (.sc (.bool (b)))/\(∀ τ,frz τ N (.sc (.bool (b)))=some (.sc (.bool (b)))/\ownV τ N (.sc (.bool (b)))=true):=⟨1,rfl,fun _=>⟨rfl,rfl⟩⟩
theorem sameLongsC {w:WD} {A B:AVal} {vs:List Int} (hA:IsD 1 A (vs.map fun v=>(.sc (.int .i64 (v))))) (hB:IsD 1 B (vs.map fun v=>(.sc (.int .i64 (v))))) (hl:vs.length<=281474976710656):GivesV (EE w) 11 [A,B] (.sc (.bool (true))):=by
 have hAn:=fun σ:AStore=>hA.lenN (by simp) (n:=vs.length) (σ:=σ)
 have hBn:=fun σ:AStore=>hB.lenN (by simp) (n:=vs.length) (σ:=σ)
 refine GivesV.of (fun _=>.sc _) (.cons _ _ (hA.wf (WFs.map fun _=>.sc _)) (.cons _ _ (hB.wf (WFs.map fun _=>.sc _)) .nil)) 1 ?_
 refine of_11 rfl rfl rfl (by kernel_rfl) ?_
 (repeat' first|refine vw ?_ ?_<;>intro hq|refine vz ?_|simp -implicitDefEqProofs only [go_sem,hAn,hBn])
 refine vlp (ι:=Nat) (fun j=>[(0,A),(1,B),(5,(.sc (.int .i64 (j))))]) (fun j _=>j<=vs.length) (fun j=>vs.length - j) (fun _=>rfl) 0 ?_ ?_ ?_
 ·exact vsu
 ·exact Nat.zero_le _
 rintro j τ hj
 simp -implicitDefEqProofs only [go_sem,hAn]
 (refine vif ?_ ?_<;>intro hlt)
 ·obtain ⟨x,hx⟩:∃ x,vs[j]?=some x:=⟨vs[j]'(by omega),List.getElem?_eq_getElem _⟩
  have e1:(vs.map fun v=>((.sc (.int .i64 (v))):AVal))[j]?=some (.sc (.int .i64 (x))):=by rw [List.getElem?_map,hx]; rfl
  have hw:=wrapS (i:=j) (by omega)
  (repeat' first|refine vw ?_ ?_<;>intro hq|refine vz ?_|simp -implicitDefEqProofs only [go_sem])
  ((try (refine Z_seq ?_; (try simp -implicitDefEqProofs only [go_sem]))); refine Z_draw (by kernel_rfl) [0,1,2,3,4,5,6,7,8] [(8,255),(7,112),(6,48),(5,0),(4,0),(3,7),(2,3),(1,0),(0,0)] (by kernel_rfl) (by kernel_rfl) ?_)
  simp -implicitDefEqProofs only [go_sem,hA.idx e1,hB.idx e1]
  (repeat' first|refine vw ?_ ?_<;>intro hq|refine vz ?_|simp -implicitDefEqProofs only [go_sem,hw])
  exact ⟨j+1,vom,vom,vsu⟩
 ·(repeat' first|refine vw ?_ ?_<;>intro hq|refine vz ?_|simp -implicitDefEqProofs only [go_sem])
  exact ⟨_,rfl,rfl⟩
section
variable {w:WD} {x:Ex} {X N V L:AVal} {ns:List ByteArray} {vs:List Int} {fs:List Fc} {els:List AVal} (hX:IsEx x X) (hxb:nodesE x<=1099511627776) (hN:IsD 1 N (ns.map sA)) (hV:IsD 1 V (vs.map fun v=>(.sc (.int .i64 (v)))))
 (hl:ns.length<=1000000) (hlv:vs.length<=1000000) (hL:IsD 3 L els) (hF:IsFcs fs els) (hfl:els.length<=1000000) (hfb:nodesF fs<=1099511627776)
include hX hxb hN hV hl hlv hL hF hfl hfb
theorem runHP (h:befP x ns vs fs=0):GivesV (EE w) 21 [X,N,V,L] (.tuple [(.sc (.int .i64 ((run4 x ns vs fs).1))),(.sc (.int .i64 ((run4 x ns vs fs).2.1))),(.sc (.int .i64 ((run4 x ns vs fs).2.2.1)))])/\(run4 x ns vs fs).2.2.2=false:=by
 unfold befP at h
 split at h
 ·cases h
 rename_i hlen
 have hlen:ns.length=vs.length:=Decidable.of_not_not hlen
 split at h
 ·cases h
 rename_i hg
 have hg:goodB (ns.zip vs)=true:=by simpa using hg
 have hz:(ns.zip vs).map (·.1)=ns:=List.map_fst_zip (by omega)
 obtain ⟨_,a,b,c⟩:=expP_ok h
 obtain ⟨t1,t2⟩:=expP_ty h
 have hr:=runHC (w:=w) (gl:=ns.zip vs) hX (by rw [zip_fst hlen]; exact hN) (by rw [zip_snd hlen]; exact hV) (by rw [List.length_zip]; omega) hL hg a (by rw [nmsF,hz]; exact t1) ⟨hF,fun f hf=>(b f hf).2.1,fun f hf=>(b f hf).2.2,c⟩ (by rw [nmsF,hz]; exact t2) (by rw [<-hF.len]; exact hfl)
 have e:run4 x ns vs fs=qOf ((evG fs (gval (ns.zip vs)) 1000).1 x [] 0):=by
  unfold run4
  rw [if_neg (not_not_intro hlen),if_neg (by rw [hg]; decide),if_neg (not_not_intro h)]
 rw [e]
 exact ⟨hr,rfl⟩
omit hX hxb hN hV hl hlv hL hF hfl hfb in
theorem runEarly (h:befP x ns vs fs≠0):run4 x ns vs fs=(0,0,befP x ns vs fs,true):=by
 unfold befP at h ⊢
 unfold run4
 by_cases h1:ns.length≠vs.length
 ·rw [if_pos h1,if_pos h1]
 ·rw [if_neg h1] at h
  rw [if_neg h1,if_neg h1]
  by_cases h2:goodB (ns.zip vs)=false
  ·rw [if_pos h2,if_pos h2]
  ·rw [if_neg h2] at h
   rw [if_neg h2,if_neg h2,if_pos h]
theorem valueHC:GivesV (EE w) 8 [X,N,V,L] (.tuple [(.sc (.int .i64 ((run4 x ns vs fs).1))),(.sc (.int .i64 ((run4 x ns vs fs).2.2.1)))]):=by
 have hbef:=beforeC (w:=⟨w.w,[]⟩) hX hxb hN hV hl hlv hL hF hfl hfb
 have hrun:=runHP (w:=⟨w.w,[]⟩) hX hxb hN hV hl hlv hL hF hfl hfb
 have hear:=runEarly (x:=x) (ns:=ns) (vs:=vs) (fs:=fs)
 obtain ⟨c1,c2,c3⟩:=hX.isA.facts
 have cc:=hX.cellsOk
 have hfit:X.fit=true:=by obtain ⟨cs,rfl,_⟩:=hX.isA; rfl
 refine GivesV.of (fun _=>.sc _) (.cons _ _ hX.wf (.cons _ _ (hN.wf (wf_sA _)) (.cons _ _ (hV.wf (WFs.map fun _=>.sc _)) (.cons _ _ (hL.wf hF.wf) .nil)))) 2 ?_
 generalize run4 x ns vs fs=q at hrun hear ⊢
 refine of_8 rfl rfl rfl (by kernel_rfl) ?_
 simp -implicitDefEqProofs only [go_sem,c1,c2,c3,cc,hfit]
 have g0:(empty.alloc (.cells 4 [X])).get 0=some (.cells 4 [X]):=by rw [AStore.get_alloc]; rfl
 generalize empty.alloc (.cells 4 [X])=τ at g0 ⊢
 (repeat' first|refine vw ?_ ?_<;>intro hq|refine vz ?_|simp -implicitDefEqProofs only [go_sem,g0,c1,c2,c3,cc,hfit])
 refine hbef.use ?_
 by_cases hb:befP x ns vs fs=0
 ·obtain ⟨hr,_⟩:=hrun hb
  (repeat' first|refine vw ?_ ?_<;>intro hq|refine vz ?_|simp -implicitDefEqProofs only [go_sem,dct hb,g0,c1,c2,c3,cc,hfit])
  refine hr.use ?_
  (repeat' first|refine vw ?_ ?_<;>intro hq|refine vz ?_|simp -implicitDefEqProofs only [go_sem])
  exact ⟨_,rfl,rfl⟩
 ·rw [hear hb]
  (repeat' first|refine vw ?_ ?_<;>intro hq|refine vz ?_|simp -implicitDefEqProofs only [go_sem,dcf hb])
  exact ⟨_,rfl,rfl⟩
theorem stepsHC:GivesV (EE w) 10 [X,N,V,L] (.tuple [(.sc (.int .i64 (if (run4 x ns vs fs).2.2.2=true then 0 else (run4 x ns vs fs).2.1))),(.sc (.int .i64 (if (run4 x ns vs fs).2.2.2=true then (run4 x ns vs fs).2.2.1 else 0)))]):=by
 have hbef:=beforeC (w:=⟨w.w,[]⟩) hX hxb hN hV hl hlv hL hF hfl hfb
 have hrun:=runHP (w:=⟨w.w,[]⟩) hX hxb hN hV hl hlv hL hF hfl hfb
 have hear:=runEarly (x:=x) (ns:=ns) (vs:=vs) (fs:=fs)
 obtain ⟨c1,c2,c3⟩:=hX.isA.facts
 have cc:=hX.cellsOk
 have hfit:X.fit=true:=by obtain ⟨cs,rfl,_⟩:=hX.isA; rfl
 refine GivesV.of (fun _=>.sc _) (.cons _ _ hX.wf (.cons _ _ (hN.wf (wf_sA _)) (.cons _ _ (hV.wf (WFs.map fun _=>.sc _)) (.cons _ _ (hL.wf hF.wf) .nil)))) 2 ?_
 generalize run4 x ns vs fs=q at hrun hear ⊢
 refine of_10 rfl rfl rfl (by kernel_rfl) ?_
 simp -implicitDefEqProofs only [go_sem,c1,c2,c3,cc,hfit]
 have g0:(empty.alloc (.cells 4 [X])).get 0=some (.cells 4 [X]):=by rw [AStore.get_alloc]; rfl
 generalize empty.alloc (.cells 4 [X])=τ at g0 ⊢
 (repeat' first|refine vw ?_ ?_<;>intro hq|refine vz ?_|simp -implicitDefEqProofs only [go_sem,g0,c1,c2,c3,cc,hfit])
 refine hbef.use ?_
 by_cases hb:befP x ns vs fs=0
 ·obtain ⟨hr,h4⟩:=hrun hb
  rw [h4]
  (repeat' first|refine vw ?_ ?_<;>intro hq|refine vz ?_|simp -implicitDefEqProofs only [go_sem,dct hb,g0,c1,c2,c3,cc,hfit])
  refine hr.use ?_
  (repeat' first|refine vw ?_ ?_<;>intro hq|refine vz ?_|simp -implicitDefEqProofs only [go_sem])
  exact ⟨_,rfl,rfl⟩
 ·rw [hear hb]
  (repeat' first|refine vw ?_ ?_<;>intro hq|refine vz ?_|simp -implicitDefEqProofs only [go_sem,dcf hb])
  exact ⟨_,rfl,rfl⟩
end
section
variable {w:WD} {x:Ex} {X N V L:AVal} {ns:List ByteArray} {vs:List Int} {fs:List Fc} {els:List AVal} (hX:IsEx x X) (hN:IsD 1 N (ns.map sA)) (hV:IsD 1 V (vs.map fun v=>(.sc (.int .i64 (v)))))
 (hl:ns.length<=281474976710656) (hs:∀ s∈ns,s.size<=281474976710656) (hL:IsD 3 L els) (hF:IsFcs fs els) (hD:Dats els) (hfl:els.length<=281474976710656)
 (aw:Gives (EE ⟨w.w,[]⟩) 5 [] fun v=>v=(.sc (.bool (true))))
include hX hN hV hl hs hL hF hfl aw hD
theorem valuesLaw:Gives (EE w) 3 [X,.agg [N,V],L] fun v=>v=(.sc (.bool (true))):=by
 obtain ⟨c1,c2,c3⟩:=hX.isA.facts
 have cc:=hX.cellsOk
 have hfit:X.fit=true:=by obtain ⟨cs,rfl,_⟩:=hX.isA; rfl
 have kN:=hN.fit
 have cN:=hN.cells
 have iN:=hN.isCell
 have kV:=hV.fit
 have cV:=hV.cells
 have iV:=hV.isCell
 refine Gives.of (fun _=>.sc _) (.cons _ _ hX.wf (.cons _ _ (.agg _ (.cons _ _ (hN.wf (wf_sA _)) (.cons _ _ (hV.wf (WFs.map fun _=>.sc _)) .nil))) (.cons _ _ (hL.wf hF.wf) .nil))) 2 ?_
 refine of_3 rfl rfl rfl (by kernel_rfl) ?_
 simp -implicitDefEqProofs only [go_sem,c1,c2,c3,cc,hfit,kN,cN,iN,kV,cV,iV]
 have g0:((empty.alloc (.cells 4 [X])).alloc (.cells 2 [.agg [N,V]])).get 0=some (.cells 4 [X]):=by kernel_rfl
 have g1:((empty.alloc (.cells 4 [X])).alloc (.cells 2 [.agg [N,V]])).get 1=some (.cells 2 [.agg [N,V]]):=by kernel_rfl
 generalize (empty.alloc (.cells 4 [X])).alloc (.cells 2 [.agg [N,V]])=τ at g0 g1 ⊢
 refine aw.use ?_
 rintro _ rfl
 (repeat' first|refine vw ?_ ?_<;>intro hq|refine vz ?_|simp -implicitDefEqProofs only [go_sem,c1,c2,c3,cc,hfit,kN,cN,iN,kV,cV,iV,g0,g1])
 refine (beyond10C hX hN hV hl hs hL hF hfl).use ?_
 cases hb:beyond10 x ns vs fs with
 | true=>
  (repeat' first|refine vw ?_ ?_<;>intro hq|refine vz ?_|simp -implicitDefEqProofs only [go_sem])
  exact ⟨_,_,rfl,rfl,rfl⟩
 | false=>
  obtain ⟨b1,b2,b3,b4,b5⟩:=beyond10_not hb
  have hfl2:els.length<=1000000:=by have:=hF.len; omega
  have q0:=get_alloc_old (y:=.cells 1 []) g0
  have q1:=get_alloc_old (y:=.cells 1 []) g1
  have q2:(τ.alloc (.cells 1 [])).get τ.next=some (.cells 1 []):=by rw [AStore.get_alloc,if_pos rfl]
  have l0:=AStore.lt_of_get g0
  have l1:=AStore.lt_of_get g1
  obtain ⟨b,τ',a1,p0,p1,p2⟩:∃ b τ',aAppend 1 8 (.slice τ.next 0 0) (vs.map fun v=>(.sc (.int .i64 (v)))) (τ.alloc (.cells 1 []))=some (.slice b 0 (vs.map fun v=>((.sc (.int .i64 (v))):AVal)).length,τ')/\τ'.get 0=some (.cells 4 [X])/\τ'.get 1=some (.cells 2 [.agg [N,V]])/\τ'.get b=some (.cells 1 (vs.map fun v=>(.sc (.int .i64 (v))))):=by
   by_cases hv:vs=[]
   ·subst hv
    refine ⟨τ.next,(τ.alloc (.cells 1 [])).set τ.next (.cells 1 []),?_,?_,?_,gss (by rw [alloc_next]; omega)⟩
    ·rw [aAppend_slice,q2,appAt_cells,if_pos ⟨rfl,by decide,by decide,by decide,rfl⟩,if_pos (by simp)]; rfl
    ·rw [AStore.get_set,if_neg (by omega)]; exact q0
    ·rw [AStore.get_set,if_neg (by omega)]; exact q1
   ·have:=app_full (bytes:=8) q2 (xs:=vs.map fun v=>(.sc (.int .i64 (v)))) (by simpa using hv) (by simp; omega) (by decide) (by decide) (by
     clear hV hN b3 hb
     induction vs with
     | nil=>rfl
     | cons x l ih=>
      rw [List.map_cons,allCells_cons]
      by_cases hl:l=[]
      ·subst hl; rfl
      ·rw [ih hl]; rfl)
    refine ⟨_,_,by simpa using this,?_,?_,?_⟩
    ·refine get_alloc_old ?_
     rw [AStore.get_del,if_neg (by omega)]; exact q0
    ·refine get_alloc_old ?_
     rw [AStore.get_del,if_neg (by omega)]; exact q1
    ·rw [AStore.get_alloc,if_pos (show (τ.alloc (.cells 1 [])).next=((τ.alloc (.cells 1 [])).del τ.next).next from rfl)]
  have hsrc:∀ σ,aSrc 1 V σ=some (vs.map fun v=>(.sc (.int .i64 (v)))):=fun σ=>hV.src
  have hV':IsD 1 (.data 1 false (vs.map fun v=>((.sc (.int .i64 (v))):AVal))) (vs.map fun v=>(.sc (.int .i64 (v)))):=.inr ⟨false,rfl⟩
  have dX:Dats [X,N]:=.cons _ _ hX.dat (.cons _ _ (hN.dat (dats_sB _)) .nil)
  have dL:Dats [L]:=.cons _ _ (hL.dat hD) .nil
  have hVal:=fun w:WD=>lentL (E:=EE w) (fun _=>.sc _) (pre:=[X,N]) (post:=[L]) frz_pair p2 (by decide) (dats_iA vs) dX dL (valueGC (w:=w) hX (by omega) hN hV' (by omega) (by omega) hL hF hfl2 (by omega))
  have hSt:=fun w:WD=>lentL (E:=EE w) (fun _=>.sc _) (pre:=[X,N]) (post:=[L]) frz_pair p2 (by decide) (dats_iA vs) dX dL (stepsGC (w:=w) hX (by omega) hN hV' (by omega) (by omega) hL hF hfl2 (by omega))
  have hVal2:=fun w:WD=>valueHC (w:=w) hX (by omega) hN hV (by omega) (by omega) hL hF hfl2 (by omega)
  have hSt2:=fun w:WD=>stepsHC (w:=w) hX (by omega) hN hV (by omega) (by omega) hL hF hfl2 (by omega)
  have hSame:=fun w:WD=>lentL (E:=EE w) (fun _=>.sc _) (pre:=[]) (post:=[V]) frz_bool p2 (by decide) (dats_iA vs) .nil (.cons _ _ (hV.dat (dats_iA vs)) .nil) (sameLongsC (w:=w) hV' hV (by omega))
  simp only [List.cons_append,List.nil_append,List.length_map] at hVal hSt hSame
  rw [List.length_map] at a1
  (repeat' first|refine vw ?_ ?_<;>intro hq|refine vz ?_|simp -implicitDefEqProofs only [go_sem,c1,c2,c3,cc,hfit,kN,cN,iN,kV,cV,iV,g0,g1,q0,q1,hsrc,a1,p0,p1])
  refine GivesV.at1 (hVal _) ?_
  (repeat' first|refine vw ?_ ?_<;>intro hq|refine vz ?_|simp -implicitDefEqProofs only [go_sem,c1,c2,c3,cc,hfit,kN,cN,iN,kV,cV,iV,p0,p1])
  refine (hVal2 _).use ?_
  (repeat' first|refine vw ?_ ?_<;>intro hq|refine vz ?_|simp -implicitDefEqProofs only [go_sem,c1,c2,c3,cc,hfit,kN,cN,iN,kV,cV,iV,p0,p1])
  refine GivesV.at1 (hSt _) ?_
  (repeat' first|refine vw ?_ ?_<;>intro hq|refine vz ?_|simp -implicitDefEqProofs only [go_sem,c1,c2,c3,cc,hfit,kN,cN,iN,kV,cV,iV,p0,p1])
  refine (hSt2 _).use ?_
  (repeat' first|refine vw ?_ ?_<;>intro hq|refine vz ?_|simp -implicitDefEqProofs only [go_sem,c1,c2,c3,cc,hfit,kN,cN,iN,kV,cV,iV,p0,p1])
  refine GivesV.at1 (hSame _) ?_
  (repeat' first|refine vw ?_ ?_<;>intro hq|refine vz ?_|simp -implicitDefEqProofs only [go_sem])
  exact ⟨_,_,rfl,rfl,rfl⟩
end
theorem sh24:shape Tryz.prog 24=.struct [3,9,2,22]:=by kernel_rfl
theorem sh22:shape Tryz.prog 22=.slice 24 4 true:=by kernel_rfl
theorem sh25:shape Tryz.prog 25=.slice 9 1 false:=by kernel_rfl
theorem sh29:shape Tryz.prog 29=.slice 57 3 true:=by kernel_rfl
theorem sh57:shape Tryz.prog 57=.struct [9,25,55]:=by kernel_rfl
theorem sh55:shape Tryz.prog 55=.slice 91 8 true:=by kernel_rfl
theorem sh91:shape Tryz.prog 91=.struct [3,9,24,55,55]:=by kernel_rfl
theorem sh3:shape Tryz.prog 3=.int .i64:=by kernel_rfl
theorem sh2:shape Tryz.prog 2=.int .i64:=by kernel_rfl
theorem sh9:shape Tryz.prog 9=.str:=by kernel_rfl
theorem by24:Tryz.prog.bytesOf 24=56:=by kernel_rfl
theorem by9:Tryz.prog.bytesOf 9=16:=by kernel_rfl
theorem by91:Tryz.prog.bytesOf 91=128:=by kernel_rfl
theorem by57:Tryz.prog.bytesOf 57=64:=by kernel_rfl
theorem tw_int {P:Program} {n t:Nat} {vs:List AVal} (hs:shape P t=.int .i64) (h:HasTyW P n t vs):∃ m,in64 m/\vs=[(.sc (.int .i64 (m)))]:=by
 cases n with
 | zero=>exact h.elim
 | succ n=>
  unfold HasTyW at h
  rw [hs] at h
  obtain ⟨m,hw,h⟩:=h
  refine ⟨m,?_,h⟩
  have:(Lit.int .i64 m).wf=true:=hw
  simp [Lit.wf,IntKind.min,IntKind.max,IntKind.signed,IntKind.bits] at this
  exact ⟨vom,vom⟩
theorem tw_str {P:Program} {n t:Nat} {vs:List AVal} (hs:shape P t=.str) (h:HasTyW P n t vs):∃ s:ByteArray,s.size<=281474976710656/\vs=[.sc (.string s)]:=by
 cases n with
 | zero=>exact h.elim
 | succ n=>
  unfold HasTyW at h
  rw [hs] at h
  obtain ⟨s,hw,h⟩:=h
  exact ⟨s,vom,h⟩
theorem tw_struct {P:Program} {n t:Nat} {ts:List TypeId} {vs:List AVal} (hs:shape P t=.struct ts) (h:HasTyW P (n+1) t vs):HasL (HasTyW P n) P ts vs:=by
 unfold HasTyW at h
 rw [hs] at h
 exact h
/-- A slice that came in. -/
theorem tw_slice {P:Program} {n t e c by':Nat} {agg:Bool} {vs:List AVal} (hs:shape P t=.slice e c agg) (hb:P.bytesOf e=by') (h0:0 < by') (h:HasTyW P (n+1) t vs):
  ∃ (S:AVal) (els:List AVal),vs=[S]/\IsD c S els/\els.length<=281474976710656/\∀ x∈els,HasTyW P n e x.cells/\x.cells.length=c/\x.isAgg=agg:=by
 unfold HasTyW at h
 rw [hs] at h
 rcases h with h|⟨a,c,h⟩|⟨els,_,_,hlen,h,hels⟩
 ·exact ⟨_,[],h,.inl ⟨rfl,_,_,rfl⟩,by simp,by simp⟩
 ·exact ⟨_,[],h,.inl ⟨rfl,_,_,rfl⟩,by simp,by simp⟩
 ·rw [hb] at hlen
  exact ⟨_,els,h,.inr ⟨_,rfl⟩,by have:=Nat.le_mul_of_pos_right els.length h0; omega,hels⟩
theorem names_of {n:Nat} {els:List AVal} (h:∀ x∈els,HasTyW Tryz.prog n 9 x.cells/\x.cells.length=1/\x.isAgg=false):∃ g:List ByteArray,els=g.map sA/\∀ s∈g,s.size<=281474976710656:=by
 induction els with
 | nil=>exact ⟨[],rfl,by simp⟩
 | cons x els ih=>
  obtain ⟨g,rfl,hg⟩:=ih fun y hy=>h y (by simp [hy])
  obtain ⟨h1,_,h2⟩:=h x (by simp)
  obtain ⟨s,hs,he⟩:=tw_str sh9 h1
  have:=one_of h2 he
  subst this
  exact ⟨s::g,rfl,by intro t ht; rcases List.mem_cons.1 ht with rfl|ht; exact hs; exact hg t ht⟩
theorem is_names {n:Nat} {vs:List AVal} (h:HasTyW Tryz.prog n 25 vs):∃ (S:AVal) (g:List ByteArray),vs=[S]/\IsD 1 S (g.map sA)/\g.length<=281474976710656/\∀ s∈g,s.size<=281474976710656:=by
 cases n with
 | zero=>exact h.elim
 | succ n=>
  obtain ⟨S,els,h1,h2,h3,h4⟩:=tw_slice sh25 by9 (by decide) h
  obtain ⟨g,rfl,hg⟩:=names_of h4
  exact ⟨S,g,h1,h2,by rw [List.length_map] at h3; exact h3,hg⟩
theorem is_ex (n:Nat):(∀ vs,HasTyW Tryz.prog n 24 vs->∃ x,IsEx x (.agg vs))/\(∀ vs,HasTyW Tryz.prog n 22 vs->∃ S els xs,vs=[S]/\IsD 4 S els/\IsExs xs els/\els.length<=281474976710656):=by
 induction n with
 | zero=>exact ⟨fun vs h=>h.elim,fun vs h=>h.elim⟩
 | succ n ih=>
  constructor
  ·intro vs h
   obtain ⟨a1,r1,rfl,_,h1,a2,r2,rfl,_,h2,a3,r3,rfl,_,h3,a4,r4,rfl,_,h4,h5⟩:=tw_struct sh24 h
   have h5:r4=[]:=h5
   subst h5
   obtain ⟨k,hk,rfl⟩:=tw_int sh3 h1
   obtain ⟨s,hs,rfl⟩:=tw_str sh9 h2
   obtain ⟨i,hi,rfl⟩:=tw_int sh2 h3
   obtain ⟨S,els,xs,rfl,hS,hx,hl⟩:=ih.2 _ h4
   refine ⟨.mk k s i xs,?_⟩
   simp only [IsEx]
   exact ⟨S,els,rfl,hS,hx,hk,hi,hs,hl⟩
  ·intro vs h
   obtain ⟨S,els,h1,h2,h3,h4⟩:=tw_slice sh22 by24 (by decide) h
   have key:∃ xs,IsExs xs els:=by
    clear h2 h3
    induction els with
    | nil=>exact ⟨[],rfl⟩
    | cons x els ih2=>
     obtain ⟨xs,hxs⟩:=ih2 fun y hy=>h4 y (by simp [hy])
     obtain ⟨g1,_,g2⟩:=h4 x (by simp)
     obtain ⟨y,hy⟩:=ih.1 _ g1
     rw [<-agg_of g2 rfl] at hy
     exact ⟨y::xs,x,els,rfl,hy,hxs⟩
   obtain ⟨xs,hxs⟩:=key
   exact ⟨S,els,xs,h1,h2,hxs,h3⟩
theorem is_st (n:Nat):(∀ vs,HasTyW Tryz.prog n 91 vs->∃ x,IsSt x (.agg vs))/\(∀ vs,HasTyW Tryz.prog n 55 vs->∃ S els xs,vs=[S]/\IsD 8 S els/\IsSts xs els/\els.length<=281474976710656):=by
 induction n with
 | zero=>exact ⟨fun vs h=>h.elim,fun vs h=>h.elim⟩
 | succ n ih=>
  constructor
  ·intro vs h
   obtain ⟨a1,r1,rfl,_,h1,a2,r2,rfl,_,h2,a3,r3,rfl,_,h3,a4,r4,rfl,_,h4,a5,r5,rfl,_,h5,h6⟩:=tw_struct sh91 h
   have h6:r5=[]:=h6
   subst h6
   obtain ⟨k,hk,rfl⟩:=tw_int sh3 h1
   obtain ⟨s,hs,rfl⟩:=tw_str sh9 h2
   obtain ⟨x,hx⟩:=(is_ex n).1 _ h3
   obtain ⟨SB,eb,xb,rfl,hB,hb,hlb⟩:=ih.2 _ h4
   obtain ⟨SE,ee,xe,rfl,hE,he,hle⟩:=ih.2 _ h5
   obtain ⟨ek,en,ei,ez⟩:=x
   simp only [IsEx] at hx
   obtain ⟨SA,ea,hv,hA,ha,hk2,hi2,hn2,hl2⟩:=hx
   injection hv with hv
   subst hv
   refine ⟨.mk k s (.mk ek en ei ez) xb xe,?_⟩
   simp only [IsSt]
   exact ⟨SA,SB,SE,ea,eb,ee,rfl,hA,ha,hB,hb,hE,he,hk,hk2,hi2,hs,hn2,hl2,hlb,hle⟩
  ·intro vs h
   obtain ⟨S,els,h1,h2,h3,h4⟩:=tw_slice sh55 by91 (by decide) h
   have key:∃ xs,IsSts xs els:=by
    clear h2 h3
    induction els with
    | nil=>exact ⟨[],rfl⟩
    | cons x els ih2=>
     obtain ⟨xs,hxs⟩:=ih2 fun y hy=>h4 y (by simp [hy])
     obtain ⟨g1,_,g2⟩:=h4 x (by simp)
     obtain ⟨y,hy⟩:=ih.1 _ g1
     rw [<-agg_of g2 rfl] at hy
     exact ⟨y::xs,x,els,rfl,hy,hxs⟩
   obtain ⟨xs,hxs⟩:=key
   exact ⟨S,els,xs,h1,h2,hxs,h3⟩
theorem is_fc {n:Nat} {vs:List AVal} (h:HasTyW Tryz.prog (n+1) 57 vs):∃ f,IsFc f (.agg vs):=by
 obtain ⟨a1,r1,rfl,_,h1,a2,r2,rfl,_,h2,a3,r3,rfl,_,h3,h4⟩:=tw_struct sh57 h
 have h4:r3=[]:=h4
 subst h4
 obtain ⟨s,hs,rfl⟩:=tw_str sh9 h1
 obtain ⟨SP,ps,rfl,hP,hlp,hsp⟩:=is_names h2
 obtain ⟨SB,eb,xb,rfl,hB,hb,hlb⟩:=(is_st n).2 _ h3
 exact ⟨⟨s,ps,xb⟩,SP,SB,eb,rfl,hP,hB,hb,hs,hsp,hlp,hlb⟩
theorem is_fcs {n:Nat} {vs:List AVal} (h:HasTyW Tryz.prog n 29 vs):∃ (S:AVal) (els:List AVal) (fs:List Fc),vs=[S]/\IsD 3 S els/\IsFcs fs els/\els.length<=281474976710656:=by
 cases n with
 | zero=>exact h.elim
 | succ n=>
  obtain ⟨S,els,h1,h2,h3,h4⟩:=tw_slice sh29 by57 (by decide) h
  have key:∃ fs,IsFcs fs els:=by
   clear h2 h3
   induction els with
   | nil=>exact ⟨[],rfl,fun j f h=>by simp at h⟩
   | cons x els ih2=>
    obtain ⟨xs,hxs⟩:=ih2 fun y hy=>h4 y (by simp [hy])
    obtain ⟨g1,_,g2⟩:=h4 x (by simp)
    cases n with
    | zero=>exact g1.elim
    | succ n=>
     obtain ⟨y,hy⟩:=is_fc g1
     rw [<-agg_of g2 rfl] at hy
     refine ⟨y::xs,by simp [hxs.len],fun j f hj=>?_⟩
     cases j with
     | zero=>simp at hj; subst hj; exact ⟨x,rfl,hy⟩
     | succ j=>simpa using hxs.at' j f (by simpa using hj)
  obtain ⟨fs,hfs⟩:=key
  exact ⟨S,els,fs,h1,h2,hfs,h3⟩
theorem shL26:shape Tryz.prog 26=.slice 2 1 false:=by kernel_rfl
theorem sh28:shape Tryz.prog 28=.struct [25,26]:=by kernel_rfl
theorem by2:Tryz.prog.bytesOf 2=8:=by kernel_rfl
theorem is_longs {n:Nat} {vs:List AVal} (h:HasTyW Tryz.prog n 26 vs):∃ (S:AVal) (l:List Int),vs=[S]/\IsD 1 S (l.map fun v=>(.sc (.int .i64 (v)))):=by
 cases n with
 | zero=>exact h.elim
 | succ n=>
  obtain ⟨S,els,h1,h2,h3,h4⟩:=tw_slice shL26 by2 (by decide) h
  have key:∃ l:List Int,els=l.map fun v=>(.sc (.int .i64 (v))):=by
   clear h2 h3
   induction els with
   | nil=>exact ⟨[],rfl⟩
   | cons x els ih=>
    obtain ⟨g,rfl⟩:=ih fun y hy=>h4 y (by simp [hy])
    obtain ⟨h1,_,h2⟩:=h4 x (by simp)
    obtain ⟨m,_,he⟩:=tw_int sh2 h1
    have:=one_of h2 he
    subst this
    exact ⟨m::g,rfl⟩
  obtain ⟨l,rfl⟩:=key
  exact ⟨S,l,h1,h2⟩
theorem is_given {n:Nat} {vs:List AVal} (h:HasTyW Tryz.prog (n+1) 28 vs):∃ (N V:AVal) (ns:List ByteArray) (ws:List Int),vs=[N,V]/\IsD 1 N (ns.map sA)/\IsD 1 V (ws.map fun v=>(.sc (.int .i64 (v))))/\ns.length<=281474976710656/\∀ s∈ns,s.size<=281474976710656:=by
 obtain ⟨a1,r1,rfl,_,h1,a2,r2,rfl,_,h2,h4⟩:=tw_struct sh28 h
 have h4:r2=[]:=h4
 subst h4
 obtain ⟨N,ns,rfl,hN,hl,hs⟩:=is_names h1
 obtain ⟨V,ws,rfl,hV⟩:=is_longs h2
 exact ⟨N,V,ns,ws,rfl,hN,hV,hl,hs⟩
end Abs
end
