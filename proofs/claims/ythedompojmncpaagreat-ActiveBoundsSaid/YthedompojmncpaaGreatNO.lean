/-
  Functions of the program walked: each is shown to compute a plain function (NO).
-/
import Derived.Test.YthedompojmncpaaGreatNB
import Derived.Test.YthedompojmncpaaGreatAbsTyW
import Derived.Test.YthedompojmncpaaGreatAbsEn
noncomputable section
namespace Abs
set_option linter.unusedSimpArgs false
set_option linter.unusedVariables false
set_option maxRecDepth 100000
set_option maxHeartbeats 16000000
open Go Go.Proofs
def cnK (C:Nat) (x:Cn):Prop:=(1<=x.k/\x.k<=C)/\x.c<=1048576
structure PrOk (C:Nat) (p:Pr):Prop where
 ll:p.locs.length<=1000000
 le:p.egs.length<=1000000
 iv:∀ y∈p.locs,y.inv.length<=1000000/\∀ x∈y.inv,cnK C x
 eg:∀ e∈p.egs,(0<=e.fr/\e.fr < p.locs.length)/\(0<=e.to/\e.to < p.locs.length)/\e.gd.length<=1000000/\e.rs.length<=1000000/\∀ x∈e.gd,cnK C x
/-- Both tables of a run, in local memory. -/
structure Two (σ0 σ:AStore) (p:Pr) (C b0 b4 b5:Nat) (SL SE:AVal) (f4 f5:Nat->Nat->Int):Prop where
 bx:σ.get b0=some (.cells 3 [.agg [(.sc (.int .i64 (p.ini))),SL,SE]])
 t4:Tb σ b4 p.locs.length C f4
 t5:Tb σ b5 p.locs.length C f5
 l4:Low p C false f4
 l5:Low p C true f5
 h0:σ0.next<=b0
 h1:b0 < b4
 h2:b4+1+p.locs.length<=b5
 h3:b5+1+p.locs.length<=σ.next
 ks:KeepS σ0 σ
theorem Z_scopeR {E:Env} {n:Nat} {c rest:Code} {Q:SPred} {e:Ev} {σ:AStore} {ι:Type} (l:Nat) (S:ι->Ev) (I:ι->AStore->Prop) (m:ι->Nat) (M:Nat) (okS:∀ i,okT (S i)=true) (hf:findLabel c l=some rest) (hr:okC n rest=true)
  (main:(∀ (P:ι->Prop) i σ,(∀ j,m j < m i->P j)->I i σ->V E n rest (scpS S I P l Q) (S i) σ)->V E n c (scpS S I (fun j=>m j < M) l Q) e σ)
  (R:∀ (P:ι->Prop) i σ,(∀ j,m j < m i->P j)->I i σ->V E n rest (scpS S I P l Q) (S i) σ):Z E n (.scope c) Q e σ:=
 Z_scope l S I m M okS hf hr (main R) fun i σ hi=>R _ i σ (fun _ h=>h) hi
/-- A cut behind the third piece. -/
theorem Z_cutA {E:Env} {n:Nat} {ι:Type} {x1 x2 x3 y:Code} {Q:SPred} (S:ι->Ev) (I:ι->AStore->Prop) (okS:∀ i,okT (S i)=true) {e:Ev} {σ:AStore}
  (h1:V E n x1 (thenS (V E n x2 (thenS (V E n x3 (after S I Q)) (after S I Q))) (after S I Q)) e σ) (h2:∀ i σ,I i σ->V E n y Q (S i) σ):Z E n (.seq x1 (.seq x2 (.seq x3 y))) Q e σ:=by
 intro hc he
 simp only [okC,Bool.and_eq_true] at hc
 refine AWp.seq ((V_sound x1 h1 hc.1 he).mono ?_)
 rintro ex a σ ⟨e,h3,h4,h5⟩
 cases ex with
 | normal=>
  refine SWp.of h3 h4 (c:=.seq x2 (.seq x3 y)) fun _=>(AWp.seq ((V_sound x2 h5 hc.2.1 h3).mono ?_))
  rintro ex a σ ⟨e,h3,h4,h5⟩
  cases ex with
  | normal=>
   refine SWp.of h3 h4 (c:=.seq x3 y) fun _=>(AWp.seq ((V_sound x3 h5 hc.2.2.1 h3).mono ?_))
   rintro ex a σ ⟨e,h3,h4,h5⟩
   cases ex with
   | normal=>
    obtain ⟨j,hj,hl⟩:=h5
    have:=Z_less (V_sound y (h2 j σ hj)) (okS j) hl
    exact SWp.of h3 h4 (this hc.2.2.2)
   | _=>exact ⟨e,h3,h4,h5⟩
  | _=>exact ⟨e,h3,h4,h5⟩
 | _=>exact ⟨e,h3,h4,h5⟩
theorem Tb.keep {σ σ':AStore} {b L C:Nat} {f:Nat->Nat->Int} (h:Tb σ b L C f) (hk:∀ d y,b<=d->d < b+1+L->σ.get d=some y->σ'.get d=some y):Tb σ' b L C f:=
 ⟨hk _ _ (Nat.le_refl _) (by omega) h.1,fun i hi=>hk _ _ (by omega) (by omega) (h.2 i hi)⟩
theorem Two.al {σ0 σ:AStore} {p:Pr} {C b0 b4 b5:Nat} {SL SE:AVal} {f4 f5:Nat->Nat->Int} (h:Two σ0 σ p C b0 b4 b5 SL SE f4 f5) (y z:ABlk):Two σ0 ((σ.alloc y).set σ.next z) p C b0 b4 b5 SL SE f4 f5:=
 ⟨get_al h.bx,h.t4.keep fun _ _ _ _ hg=>get_al hg,h.t5.keep fun _ _ _ _ hg=>get_al hg,h.l4,h.l5,h.h0,h.h1,h.h2,by rw [set_next,alloc_next]; have:=h.h3; omega,h.ks.trans ((KeepS.alloc σ y).set (Nat.le_refl _) z)⟩
theorem Two.r5 {σ0 σ σ':AStore} {p:Pr} {C b0 b4 b5 i:Nat} {SL SE:AVal} {f4 f5 f':Nat->Nat->Int} (h:Two σ0 σ p C b0 b4 b5 SL SE f4 f5) (hi:i < p.locs.length) (ht:Tb σ' b5 p.locs.length C f') (hn:σ'.next=σ.next)
  (hk:∀ d y,d≠b5+1+i->σ.get d=some y->σ'.get d=some y) (hl:Low p C true f'):Two σ0 σ' p C b0 b4 b5 SL SE f4 f':=by
 have h0:=h.h0
 have h1:=h.h1
 have h2:=h.h2
 have h3:=h.h3
 refine ⟨hk _ _ (by omega) h.bx,h.t4.keep fun d y hd1 hd2 hg=>hk _ _ (by omega) hg,ht,h.l4,hl,h0,h1,h2,by omega,⟨by have:=h.ks.1; omega,fun d y hg=>?_⟩⟩
 have:=AStore.lt_of_get hg
 exact hk _ _ (by omega) (h.ks.2 _ _ hg)
theorem Two.r4 {σ0 σ σ':AStore} {p:Pr} {C b0 b4 b5 i:Nat} {SL SE:AVal} {f4 f5 f':Nat->Nat->Int} (h:Two σ0 σ p C b0 b4 b5 SL SE f4 f5) (hi:i < p.locs.length) (ht:Tb σ' b4 p.locs.length C f') (hn:σ'.next=σ.next)
  (hk:∀ d y,d≠b4+1+i->σ.get d=some y->σ'.get d=some y) (hl:Low p C false f'):Two σ0 σ' p C b0 b4 b5 SL SE f' f5:=by
 have h0:=h.h0
 have h1:=h.h1
 have h2:=h.h2
 have h3:=h.h3
 refine ⟨hk _ _ (by omega) h.bx,ht,h.t5.keep fun d y hd1 hd2 hg=>hk _ _ (by omega) hg,hl,h.l5,h0,h1,h2,by omega,⟨by have:=h.ks.1; omega,fun d y hg=>?_⟩⟩
 have:=AStore.lt_of_get hg
 exact hk _ _ (by omega) (h.ks.2 _ _ hg)
theorem solvedC {w:WD} {σ:AStore} {p:Pr} {v:AVal} {C:Nat} (h:IsPr p v) (hp:PrOk C p) (hC:C<=1000000):
  ACalls (EE w) 16 [v,(.sc (.int .i64 (C)))] σ fun en σ'=>∃ b4 b5 f4 f5,en=.ret (.tuple [.slice b4 0 p.locs.length,.slice b5 0 p.locs.length])/\Tb σ' b4 p.locs.length C f4/\Tb σ' b5 p.locs.length C f5/\Lst p C false f4/\Lst p C true f5/\KeepS σ σ'/\σ.next<=b4/\b4 < b5:=by
 have hp0:=h
 obtain ⟨SL,SE,rfl,hL,hE,iini⟩:=h
 obtain ⟨lels,hL1,hLl,hLat⟩:=hL.at'
 obtain ⟨eels,hE1,hEl,hEat⟩:=hE.at'
 have kL:=hL1.fit
 have cL:=hL1.cells
 have iL:=hL1.isCell
 have kE:=hE1.fit
 have cE:=hE1.cells
 have iE:=hE1.isCell
 have hLn:∀ σ:AStore,aLen (.slice 0) SL σ=some (.sc (.int .i64 (p.locs.length))):=fun σ=>hL1.lenN hLl
 have hEn:∀ σ:AStore,aLen (.slice 0) SE σ=some (.sc (.int .i64 (p.egs.length))):=fun σ=>hE1.lenN hEl
 refine of_16 rfl rfl rfl (by kernel_rfl) ?_
 simp -implicitDefEqProofs only [go_sem,kL,cL,iL,kE,cE,iE]
 obtain ⟨b0,hb0⟩:∃ b,b=σ.next:=⟨_,rfl⟩
 rw [<-hb0]
 have g0:(σ.alloc (.cells 3 [.agg [(.sc (.int .i64 (p.ini))),SL,SE]])).get b0=some (.cells 3 [.agg [(.sc (.int .i64 (p.ini))),SL,SE]]):=by rw [AStore.get_alloc]; exact if_pos hb0
 have k0:KeepS σ (σ.alloc (.cells 3 [.agg [(.sc (.int .i64 (p.ini))),SL,SE]])):=KeepS.alloc _ _
 have n0:b0 < (σ.alloc (.cells 3 [.agg [(.sc (.int .i64 (p.ini))),SL,SE]])).next:=by rw [alloc_next]; omega
 generalize σ.alloc (.cells 3 [.agg [(.sc (.int .i64 (p.ini))),SL,SE]])=τ at g0 k0 n0 ⊢
 refine Z_scopeR (ι:=Nat×Nat×(Nat->Nat->Int)×(Nat->Nat->Int)) 0 (fun x=>[(1,(.sc (.int .i64 (C)))),(2,.ptr b0 0 0),(4,.slice x.1 0 p.locs.length),(5,.slice x.2.1 0 p.locs.length)])
  (fun x σ1=>Two σ σ1 p C b0 x.1 x.2.1 SL SE x.2.2.1 x.2.2.2/\(∀ i,i < p.locs.length->∀ k,k < C->∀ c,BaseOf p false i k c->c<=x.2.2.1 i k)/\(∀ i,i < p.locs.length->∀ k,k < C->∀ c,BaseOf p true i k c->c<=x.2.2.2 i k))
  (fun x=>tgap 1048576 C x.2.2.1 p.locs.length+tgap 1048576 C x.2.2.2 p.locs.length) (tgap 1048576 C (fun _ _=>-1) p.locs.length+tgap 1048576 C (fun _ _=>-1) p.locs.length+1) (fun _=>rfl) rfl (by kernel_rfl) ?_ ?_
 ·intro R
  refine Z_cutA (ι:=Nat×Nat×(Nat->Nat->Int)×(Nat->Nat->Int)) (fun x=>[(1,(.sc (.int .i64 (C)))),(2,.ptr b0 0 0),(4,.slice x.1 0 p.locs.length),(5,.slice x.2.1 0 p.locs.length)])
   (fun x σ1=>Two σ σ1 p C b0 x.1 x.2.1 SL SE x.2.2.1 x.2.2.2/\(∀ i,i < p.locs.length->∀ k,k < C->∀ c,BaseOf p false i k c->c<=x.2.2.1 i k)/\(∀ i,i < p.locs.length->∀ k,k < C->∀ c,BaseOf p true i k c->c<=x.2.2.2 i k)) (fun _=>rfl) ?_ ?_
  ·simp -implicitDefEqProofs only [go_sem]
   ((try (refine Z_seq ?_; (try simp -implicitDefEqProofs only [go_sem]))); refine Z_draw (by kernel_rfl) [0,1,3,4,2,5,6,7] [(7,127),(6,63),(5,31),(2,3),(4,0),(3,0),(1,0),(0,0)] (by kernel_rfl) (by kernel_rfl) ?_)
   simp -implicitDefEqProofs only [go_sem,g0,kL,cL,iL,kE,cE,iE]
   refine (freshC hp0 hp.ll hC).mono ?_
   rintro _ τ1 ⟨b4,rfl,hb4,ht4,hn4,k1⟩
   have g01:=k1.2 _ _ g0
   refine .inr ?_
   simp -implicitDefEqProofs only [go_sem,g01,kL,cL,iL,kE,cE,iE]
   refine (freshC hp0 hp.ll hC).mono ?_
   rintro _ τ2 ⟨b5,rfl,hb5,ht5,hn5,k2⟩
   have g02:=k2.2 _ _ g01
   refine .inr ?_
   simp -implicitDefEqProofs only [go_sem,g02,kL,cL,iL,kE,cE,iE,hLn]
   have ht4':Tb τ2 b4 p.locs.length C (fun _ _=>-1):=⟨k2.2 _ _ ht4.1,fun i hi=>k2.2 _ _ (ht4.2 i hi)⟩
   have htwo:Two σ τ2 p C b0 b4 b5 SL SE (fun _ _=>-1) (fun _ _=>-1):=⟨g02,ht4',ht5,Low.start _ _ _,Low.start _ _ _,by omega,by have:=k0.1; omega,by omega,by omega,k0.trans (k1.trans k2)⟩
   clear ht4' ht4 ht5 hn4 hn5 hb4 hb5 g01 g02 k1 k2 g0 k0 n0
   have iv0:=hp.iv
   refine vlp (ι:=Nat×(Nat->Nat->Int)) (fun x=>[(1,(.sc (.int .i64 (C)))),(2,.ptr b0 0 0),(4,.slice b4 0 p.locs.length),(5,.slice b5 0 p.locs.length),(26,SL),(27,(.sc (.int .i64 (p.locs.length)))),(28,(.sc (.int .i64 (x.1))))]) (fun x σ1=>x.1<=p.locs.length/\Two σ σ1 p C b0 b4 b5 SL SE (fun _ _=>-1) x.2/\∀ i,i < x.1->∀ y,p.locs[i]?=some y->∀ z∈y.inv,∀ k,k < C->z.k=(k:Int)+1->z.c<=x.2 i k) (fun x=>p.locs.length - x.1) (fun _=>rfl) (0,fun _ _=>-1) ?_ ?_ ?_
   ·(repeat' (first|exact trivial|refine ⟨rfl,?_⟩))
   ·exact ⟨Nat.zero_le _,htwo,fun i hi=>absurd hi (Nat.not_lt_zero _)⟩
   clear htwo
   rintro ⟨i,f5⟩ σ1 ⟨hi,h2,hba⟩
   simp only at hi h2 hba
   simp -implicitDefEqProofs only [go_sem]
   ((first|refine vz2 ?_ ?_|refine vz3 ?_ ?_)<;>intro hil)
   ·obtain ⟨y,hy⟩:∃ y,p.locs[i]?=some y:=⟨p.locs[i]'(by omega),by simp⟩
    obtain ⟨ev,hev,hyv⟩:=hLat i y hy
    have hiy:=fun (σ:AStore)=>hL1.idx (σ:=σ) (k:=.i64) hev
    have hwi:=wrapS (i:=i) (by have:=hp.ll; omega)
    obtain ⟨hyl,hyx⟩:=iv0 y (List.mem_of_getElem? hy)
    obtain ⟨S,rfl,hI,iy1,iy2⟩:=hyv
    have kS:=hI.1.fit
    have cS:=hI.1.cells
    have iS:=hI.1.isCell
    have hSn:∀ σ:AStore,aLen (.slice 0) S σ=some (.sc (.int .i64 (y.inv.length))):=fun σ=>by have:=hI.1.len (σ:=σ); rwa [List.length_map] at this
    have gx:∀ y z,((σ1.alloc y).set σ1.next z).get σ1.next=some z:=fun y z=>by rw [AStore.get_set,if_pos ⟨rfl,by simp only [alloc_next]; omega⟩]
    (repeat' first|(refine vy ?_ ?_<;>rintro ⟨hd,hq⟩<;>first|(exfalso; omega)|simp -implicitDefEqProofs only [go_sem,hd]|skip)|refine vz ?_|simp -implicitDefEqProofs only [go_sem,hiy,kS,cS,iS,gx,hSn])
    have hil':i < p.locs.length:=by omega
    have h2':=h2.al (.cells 3 [.agg [(.sc (.int .i64 (0))),(.sc (.slice none 0 0)),(.sc (.int .i64 (0)))]]) (.cells 3 [.agg [(.sc (.int .i64 (y.kind))),S,(.sc (.int .i64 (y.rate)))]])
    generalize (σ1.alloc (.cells 3 [.agg [(.sc (.int .i64 (0))),(.sc (.slice none 0 0)),(.sc (.int .i64 (0)))]])).set σ1.next (.cells 3 [.agg [(.sc (.int .i64 (y.kind))),S,(.sc (.int .i64 (y.rate)))]])=σ2 at h2' ⊢
    refine vlp (ι:=Nat×(Nat->Nat->Int)) (fun x=>[(1,(.sc (.int .i64 (C)))),(2,.ptr b0 0 0),(4,.slice b4 0 p.locs.length),(5,.slice b5 0 p.locs.length),(6,(.sc (.int .i64 (i)))),(26,SL),(27,(.sc (.int .i64 (p.locs.length)))),(28,(.sc (.int .i64 (i)))),(34,S),(35,(.sc (.int .i64 (y.inv.length)))),(36,(.sc (.int .i64 (x.1))))]) (fun x σ1=>x.1<=y.inv.length/\Two σ σ1 p C b0 b4 b5 SL SE (fun _ _=>-1) x.2/\(∀ a b,f5 a b<=x.2 a b)/\∀ q,q < x.1->∀ z,y.inv[q]?=some z->∀ k,k < C->z.k=(k:Int)+1->z.c<=x.2 i k) (fun x=>y.inv.length - x.1) (fun _=>rfl) (0,f5) ?_ ?_ ?_
    ·(repeat' (first|exact trivial|refine ⟨rfl,?_⟩))
    ·exact ⟨Nat.zero_le _,h2',fun _ _=>Int.le_refl _,fun q hq=>absurd hq (Nat.not_lt_zero _)⟩
    clear h2' h2 gx
    rintro ⟨q,g5⟩ σ3 ⟨hq,h2,hge,hbq⟩
    simp only at hq h2 hge hbq
    simp -implicitDefEqProofs only [go_sem]
    ((first|refine vz2 ?_ ?_|refine vz3 ?_ ?_)<;>intro hlq)
    ·obtain ⟨z,hz⟩:∃ z,y.inv[q]?=some z:=⟨y.inv[q]'(by omega),by simp⟩
     have hz':(y.inv.map cnA)[q]?=some (cnA z):=by rw [List.getElem?_map,hz]; rfl
     have hiz:=fun (σ:AStore)=>hI.1.idx (σ:=σ) (k:=.i64) hz'
     have hwq:=wrapS (i:=q) (by omega)
     have hzk:=hyx z (List.mem_of_getElem? hz)
     have hzm:=List.mem_of_getElem? hz
     obtain ⟨zk,zl,zs,zc⟩:=z
     obtain ⟨k,rfl⟩:∃ k:Nat,zk=(k:Int)+1:=⟨(zk - 1).toNat,by have:=hzk.1.1; simp only at this; omega⟩
     have hkC:k < C:=by have:=hzk.1.2; simp only at this; omega
     have hwk:IntKind.i64.wrap (((k:Int)+1) - 1)=(k:Int):=by rw [wrap64 (by omega) (by omega)]; omega
     have h2':=h2.al (.cells 4 [.agg [(.sc (.int .i64 (0))),(.sc (.bool (false))),(.sc (.bool (false))),(.sc (.int .i64 (0)))]]) (.cells 4 [.agg [(.sc (.int .i64 ((k:Int)+1))),(.sc (.bool (zl))),(.sc (.bool (zs))),(.sc (.int .i64 (zc)))]])
     have gx:∀ y z,((σ3.alloc y).set σ3.next z).get σ3.next=some z:=fun y z=>by rw [AStore.get_set,if_pos ⟨rfl,by simp only [alloc_next]; omega⟩]
     (repeat' first|(refine vy ?_ ?_<;>rintro ⟨hd,hq⟩<;>first|(exfalso; omega)|simp -implicitDefEqProofs only [go_sem,hd]|skip)|refine vz ?_|simp -implicitDefEqProofs only [go_sem,hiz,cnA,gx])
     have gz:=gx (.cells 4 [.agg [(.sc (.int .i64 (0))),(.sc (.bool (false))),(.sc (.bool (false))),(.sc (.int .i64 (0)))]]) (.cells 4 [.agg [(.sc (.int .i64 ((k:Int)+1))),(.sc (.bool (zl))),(.sc (.bool (zs))),(.sc (.int .i64 (zc)))]])
     generalize (σ3.alloc (.cells 4 [.agg [(.sc (.int .i64 (0))),(.sc (.bool (false))),(.sc (.bool (false))),(.sc (.int .i64 (0)))]])).set σ3.next (.cells 4 [.agg [(.sc (.int .i64 ((k:Int)+1))),(.sc (.bool (zl))),(.sc (.bool (zs))),(.sc (.int .i64 (zc)))]])=σ4 at h2' gz ⊢
     have t1:=h2'.t5.1
     have t2:=h2'.t5.2 i hil'
     have t3:((List.range p.locs.length).map fun i=>AVal.slice (b5+1+i) 0 C)[i]?=some (.slice (b5+1+i) 0 C):=by rw [List.getElem?_map,List.getElem?_range hil']; rfl
     ((try (refine Z_seq ?_; (try simp -implicitDefEqProofs only [go_sem]))); refine Z_draw (by kernel_rfl) [0,1,2,3,4,5,6,7,8,9,10,11] [(11,2047),(10,768),(9,256),(8,0),(7,127),(6,48),(5,16),(4,0),(3,7),(2,3),(1,0),(0,0)] (by kernel_rfl) (by kernel_rfl) ?_)
     simp -implicitDefEqProofs only [go_sem,gz,t1,t2,t3,ixSl_own hil',ixSl_own hkC,hwk]
     refine (tbRaise (.inr ⟨true,rfl⟩) h2'.t5 hil' hkC).mono ?_
     rintro _ σ5 ⟨rfl,ht,hn,hk⟩
     refine .inr ?_
     have h3:=h2'.r5 hil' ht hn hk (h2'.l5.base hil' hkC hzk.2 (.inl ⟨rfl,y,hy,_,hzm,rfl,rfl⟩))
     simp -implicitDefEqProofs only [go_sem,hwq]
     (try (repeat' first|(refine vy ?_ ?_<;>rintro ⟨hd,hq⟩<;>first|(exfalso; omega)|simp -implicitDefEqProofs only [go_sem,hd]|skip)|refine vz ?_|simp -implicitDefEqProofs only [go_sem,hwq]))
     refine ⟨(q+1,tset g5 i k (max (g5 i k) zc)),by dsimp only; omega,⟨by dsimp only; omega,h3,fun a b=>Int.le_trans (hge a b) (tset_ge _ _ _ _ _ _),fun q' hq' x hx k' hk' hxk=>?_⟩,by (repeat' (first|exact trivial|refine ⟨rfl,?_⟩))⟩
     dsimp only at hq' ⊢
     by_cases hqq:q'=q
     ·subst hqq
      rw [hz] at hx
      cases hx
      obtain rfl:k=k':=by simp only at hxk; omega
      exact tset_self _ _ _ _
     ·exact Int.le_trans (hbq q' (by omega) x hx k' hk' hxk) (tset_ge _ _ _ _ _ _)
    ·obtain rfl:q=y.inv.length:=by omega
     (repeat' first|(refine vy ?_ ?_<;>rintro ⟨hd,hq⟩<;>first|(exfalso; omega)|simp -implicitDefEqProofs only [go_sem,hd]|skip)|refine vz ?_|simp -implicitDefEqProofs only [go_sem,hwi])
     refine ⟨(i+1,g5),by dsimp only; omega,⟨by dsimp only; omega,h2,fun i' hi' y' hy' z hz k hk hzk=>?_⟩,by (repeat' (first|exact trivial|refine ⟨rfl,?_⟩))⟩
     dsimp only at hi' ⊢
     by_cases hii:i'=i
     ·subst hii
      rw [hy] at hy'
      cases hy'
      obtain ⟨q,hq1,rfl⟩:=List.mem_iff_getElem.1 hz
      exact hbq q hq1 _ (List.getElem?_eq_getElem hq1) k hk hzk
     ·exact Int.le_trans (hba i' (by omega) y' hy' z hz k hk hzk) (hge _ _)
   obtain rfl:i=p.locs.length:=by omega
   have eg0:=hp.eg
   (repeat' first|(refine vy ?_ ?_<;>rintro ⟨hd,hq⟩<;>first|(exfalso; omega)|simp -implicitDefEqProofs only [go_sem,hd]|skip)|refine vz ?_|simp -implicitDefEqProofs only [go_sem,h2.bx,kL,cL,iL,kE,cE,iE,hEn])
   refine vlp (ι:=Nat×(Nat->Nat->Int)×(Nat->Nat->Int)) (fun x=>[(1,(.sc (.int .i64 (C)))),(2,.ptr b0 0 0),(4,.slice b4 0 p.locs.length),(5,.slice b5 0 p.locs.length),(55,SE),(56,(.sc (.int .i64 (p.egs.length)))),(57,(.sc (.int .i64 (x.1))))]) (fun x σ1=>x.1<=p.egs.length/\Two σ σ1 p C b0 b4 b5 SL SE x.2.1 x.2.2/\(∀ a b,f5 a b<=x.2.2 a b)/\∀ q,q < x.1->∀ e,p.egs[q]?=some e->∀ i:Nat,e.fr=(i:Int)->∀ z∈e.gd,∀ k,k < C->z.k=(k:Int)+1->z.c<=(if z.lo then x.2.1 else x.2.2) i k) (fun x=>p.egs.length - x.1) (fun _=>rfl) (0,fun _ _=>-1,f5) ?_ ?_ ?_
   ·(repeat' (first|exact trivial|refine ⟨rfl,?_⟩))
   ·exact ⟨Nat.zero_le _,h2,fun _ _=>Int.le_refl _,fun q hq=>absurd hq (Nat.not_lt_zero _)⟩
   clear h2 hil
   rintro ⟨q,f4,g5⟩ σ1 ⟨hq,h2,hge,hbq⟩
   simp only at hq h2 hge hbq
   simp -implicitDefEqProofs only [go_sem]
   ((first|refine vz2 ?_ ?_|refine vz3 ?_ ?_)<;>intro hql)
   ·obtain ⟨y,hy⟩:∃ y,p.egs[q]?=some y:=⟨p.egs[q]'(by omega),by simp⟩
    obtain ⟨ey,hey,hyv⟩:=hEat q y hy
    have hym:=List.mem_of_getElem? hy
    obtain ⟨⟨hf0,hf1⟩,⟨ht0,ht1⟩,hgl,hrl,hgx⟩:=eg0 y hym
    obtain ⟨i,hfi⟩:∃ i:Nat,y.fr=(i:Int):=⟨y.fr.toNat,by omega⟩
    have hil:i < p.locs.length:=by omega
    have hiy:=fun (σ:AStore)=>hE1.idx (σ:=σ) (k:=.i64) hey
    have hwq:=wrapS (i:=q) (by have:=hp.le; omega)
    obtain ⟨G,a,a2,a3,a4,SS,SR,rfl,hG,hEx,hSs,hR,i1,i2,i3,i4,i5⟩:=hyv
    have kG:=hG.1.fit
    have cG:=hG.1.cells
    have iG:=hG.1.isCell
    obtain ⟨sels,hS1,hSl,hSat⟩:=hSs.at'
    have kSS:=hS1.fit
    have cSS:=hS1.cells
    have iSS:=hS1.isCell
    have kR:=hR.1.fit
    have cR:=hR.1.cells
    have iR:=hR.1.isCell
    have hGn:∀ σ:AStore,aLen (.slice 0) G σ=some (.sc (.int .i64 (y.gd.length))):=fun σ=>by have:=hG.1.len (σ:=σ); rwa [List.length_map] at this
    obtain ⟨kk,nn,ii,rfl,rfl,rfl,kX,cX,iX⟩:∃ (kk:Int) (nn:ByteArray) (ii:Int),a=(.sc (.int .i64 (kk)))/\a2=.sc (.string nn)/\a3=(.sc (.int .i64 (ii)))/\a4.fit=true/\a4.cells=[a4]/\a4.isCell=true:=by
     generalize y.cd=cd at hEx
     obtain ⟨k,nm,i,l⟩:=cd
     simp only [IsEx] at hEx
     obtain ⟨S,els,he,hS,_⟩:=hEx
     simp only [AVal.agg.injEq,List.cons.injEq,and_true] at he
     obtain ⟨rfl,rfl,rfl,rfl⟩:=he
     exact ⟨_,_,_,rfl,rfl,rfl,hS.fit,hS.cells,hS.isCell⟩
    have gx:∀ y z,((σ1.alloc y).set σ1.next z).get σ1.next=some z:=fun y z=>by rw [AStore.get_set,if_pos ⟨rfl,by simp only [alloc_next]; omega⟩]
    (repeat' first|(refine vy ?_ ?_<;>rintro ⟨hd,hq⟩<;>first|(exfalso; omega)|simp -implicitDefEqProofs only [go_sem,hd]|skip)|refine vz ?_|simp -implicitDefEqProofs only [go_sem,hiy,kX,cX,iX,kG,cG,iG,kSS,cSS,iSS,kR,cR,iR,gx,hGn])
    have h2':=h2.al (.cells 13 [.agg [(.sc (.int .i64 (0))),(.sc (.int .i64 (0))),(.sc (.slice none 0 0)),(.sc (.int .i64 (0))),.sc (.string ⟨#[]⟩),(.sc (.int .i64 (0))),(.sc (.slice none 0 0)),(.sc (.int .i64 (0))),(.sc (.bool (false))),(.sc (.slice none 0 0)),(.sc (.slice none 0 0)),(.sc (.int .i64 (0))),(.sc (.int .i64 (0)))]]) (.cells 13 [.agg [(.sc (.int .i64 (y.fr))),(.sc (.int .i64 (y.to))),G,(.sc (.int .i64 (kk))),.sc (.string nn),(.sc (.int .i64 (ii))),a4,(.sc (.int .i64 (y.ch))),(.sc (.bool (y.snd))),SS,SR,(.sc (.int .i64 (y.cost))),(.sc (.int .i64 (y.kind)))]])
    have gq:=gx (.cells 13 [.agg [(.sc (.int .i64 (0))),(.sc (.int .i64 (0))),(.sc (.slice none 0 0)),(.sc (.int .i64 (0))),.sc (.string ⟨#[]⟩),(.sc (.int .i64 (0))),(.sc (.slice none 0 0)),(.sc (.int .i64 (0))),(.sc (.bool (false))),(.sc (.slice none 0 0)),(.sc (.slice none 0 0)),(.sc (.int .i64 (0))),(.sc (.int .i64 (0)))]]) (.cells 13 [.agg [(.sc (.int .i64 (y.fr))),(.sc (.int .i64 (y.to))),G,(.sc (.int .i64 (kk))),.sc (.string nn),(.sc (.int .i64 (ii))),a4,(.sc (.int .i64 (y.ch))),(.sc (.bool (y.snd))),SS,SR,(.sc (.int .i64 (y.cost))),(.sc (.int .i64 (y.kind)))]])
    obtain ⟨ce,hce⟩:∃ c,c=σ1.next:=⟨_,rfl⟩
    have hcb:=h2.h3
    rw [<-hce] at h2' gq hcb ⊢
    generalize (σ1.alloc (.cells 13 [.agg [(.sc (.int .i64 (0))),(.sc (.int .i64 (0))),(.sc (.slice none 0 0)),(.sc (.int .i64 (0))),.sc (.string ⟨#[]⟩),(.sc (.int .i64 (0))),(.sc (.slice none 0 0)),(.sc (.int .i64 (0))),(.sc (.bool (false))),(.sc (.slice none 0 0)),(.sc (.slice none 0 0)),(.sc (.int .i64 (0))),(.sc (.int .i64 (0)))]])).set ce (.cells 13 [.agg [(.sc (.int .i64 (y.fr))),(.sc (.int .i64 (y.to))),G,(.sc (.int .i64 (kk))),.sc (.string nn),(.sc (.int .i64 (ii))),a4,(.sc (.int .i64 (y.ch))),(.sc (.bool (y.snd))),SS,SR,(.sc (.int .i64 (y.cost))),(.sc (.int .i64 (y.kind)))]])=σ2 at h2' gq ⊢
    refine vlp (ι:=Nat×(Nat->Nat->Int)×(Nat->Nat->Int)) (fun x=>[(1,(.sc (.int .i64 (C)))),(2,.ptr b0 0 0),(4,.slice b4 0 p.locs.length),(5,.slice b5 0 p.locs.length),(11,.ptr ce 0 0),(55,SE),(56,(.sc (.int .i64 (p.egs.length)))),(57,(.sc (.int .i64 (q)))),(62,G),(63,(.sc (.int .i64 (y.gd.length)))),(64,(.sc (.int .i64 (x.1))))]) (fun x σ1=>x.1<=y.gd.length/\Two σ σ1 p C b0 b4 b5 SL SE x.2.1 x.2.2/\σ1.get ce=some (.cells 13 [.agg [(.sc (.int .i64 (y.fr))),(.sc (.int .i64 (y.to))),G,(.sc (.int .i64 (kk))),.sc (.string nn),(.sc (.int .i64 (ii))),a4,(.sc (.int .i64 (y.ch))),(.sc (.bool (y.snd))),SS,SR,(.sc (.int .i64 (y.cost))),(.sc (.int .i64 (y.kind)))]])/\(∀ a b,f4 a b<=x.2.1 a b)/\(∀ a b,g5 a b<=x.2.2 a b)/\∀ r,r < x.1->∀ z,y.gd[r]?=some z->∀ k,k < C->z.k=(k:Int)+1->z.c<=(if z.lo then x.2.1 else x.2.2) i k) (fun x=>y.gd.length - x.1) (fun _=>rfl) (0,f4,g5) ?_ ?_ ?_
    ·(repeat' (first|exact trivial|refine ⟨rfl,?_⟩))
    ·exact ⟨Nat.zero_le _,h2',gq,fun _ _=>Int.le_refl _,fun _ _=>Int.le_refl _,fun r hr=>absurd hr (Nat.not_lt_zero _)⟩
    clear h2' h2 gx gq
    rintro ⟨r,u4,u5⟩ σ3 ⟨hr,h2,gq,hg4,hg5,hbr⟩
    simp only at hr h2 gq hg4 hg5 hbr
    have hcl:=AStore.lt_of_get gq
    simp -implicitDefEqProofs only [go_sem]
    ((first|refine vz2 ?_ ?_|refine vz3 ?_ ?_)<;>intro hlr)
    ·obtain ⟨z,hz⟩:∃ z,y.gd[r]?=some z:=⟨y.gd[r]'(by omega),by simp⟩
     have hz':(y.gd.map cnA)[r]?=some (cnA z):=by rw [List.getElem?_map,hz]; rfl
     have hiz:=fun (σ:AStore)=>hG.1.idx (σ:=σ) (k:=.i64) hz'
     have hwr:=wrapS (i:=r) (by omega)
     have hzm:=List.mem_of_getElem? hz
     have hzk:=hgx z hzm
     obtain ⟨zk,zl,zs,zc⟩:=z
     obtain ⟨k,rfl⟩:∃ k:Nat,zk=(k:Int)+1:=⟨(zk - 1).toNat,by have:=hzk.1.1; simp only at this; omega⟩
     have hkC:k < C:=by have:=hzk.1.2; simp only at this; omega
     have hwk:IntKind.i64.wrap (((k:Int)+1) - 1)=(k:Int):=by rw [wrap64 (by omega) (by omega)]; omega
     have h2':=h2.al (.cells 4 [.agg [(.sc (.int .i64 (0))),(.sc (.bool (false))),(.sc (.bool (false))),(.sc (.int .i64 (0)))]]) (.cells 4 [.agg [(.sc (.int .i64 ((k:Int)+1))),(.sc (.bool (zl))),(.sc (.bool (zs))),(.sc (.int .i64 (zc)))]])
     have gx:∀ y z,((σ3.alloc y).set σ3.next z).get σ3.next=some z:=fun y z=>by rw [AStore.get_set,if_pos ⟨rfl,by simp only [alloc_next]; omega⟩]
     have gq':=get_al (y:=.cells 4 [.agg [(.sc (.int .i64 (0))),(.sc (.bool (false))),(.sc (.bool (false))),(.sc (.int .i64 (0)))]]) (z:=.cells 4 [.agg [(.sc (.int .i64 ((k:Int)+1))),(.sc (.bool (zl))),(.sc (.bool (zs))),(.sc (.int .i64 (zc)))]]) gq
     have t3:∀ b:Nat,((List.range p.locs.length).map fun i=>AVal.slice (b+1+i) 0 C)[i]?=some (.slice (b+1+i) 0 C):=fun b=>by rw [List.getElem?_map,List.getElem?_range hil]; rfl
     have hle:=h2'.h1
     have hle2:=h2'.h2
     cases zl
     ·(repeat' first|(refine vy ?_ ?_<;>rintro ⟨hd,hq⟩<;>first|(exfalso; omega)|simp -implicitDefEqProofs only [go_sem,hd]|skip)|refine vz ?_|simp -implicitDefEqProofs only [go_sem,hiz,cnA,gx])
      have gz:=gx (.cells 4 [.agg [(.sc (.int .i64 (0))),(.sc (.bool (false))),(.sc (.bool (false))),(.sc (.int .i64 (0)))]]) (.cells 4 [.agg [(.sc (.int .i64 ((k:Int)+1))),(.sc (.bool (false))),(.sc (.bool (zs))),(.sc (.int .i64 (zc)))]])
      generalize (σ3.alloc (.cells 4 [.agg [(.sc (.int .i64 (0))),(.sc (.bool (false))),(.sc (.bool (false))),(.sc (.int .i64 (0)))]])).set σ3.next (.cells 4 [.agg [(.sc (.int .i64 ((k:Int)+1))),(.sc (.bool (false))),(.sc (.bool (zs))),(.sc (.int .i64 (zc)))]])=σ4 at h2' gz gq' ⊢
      have t1:=h2'.t5.1
      have t2:=h2'.t5.2 i hil
      ((try (refine Z_seq ?_; (try simp -implicitDefEqProofs only [go_sem]))); refine Z_draw (by kernel_rfl) [0,1,2,3,4,5,6,7,8,9,10,11,12] [(12,4095),(11,1536),(10,512),(9,0),(8,255),(7,96),(6,32),(5,0),(4,15),(3,7),(2,2),(1,0),(0,0)] (by kernel_rfl) (by kernel_rfl) ?_)
      simp -implicitDefEqProofs only [go_sem,gz,gq',hfi,t1,t2,t3,ixSl_own hil,ixSl_own hkC,hwk]
      refine (tbRaise (.inr ⟨true,rfl⟩) h2'.t5 hil hkC).mono ?_
      rintro _ σ5 ⟨rfl,ht,hn,hk⟩
      refine .inr ?_
      have h3:=h2'.r5 hil ht hn hk (h2'.l5.base hil hkC hzk.2 (.inr ⟨y,hym,hfi,_,hzm,rfl,rfl,rfl⟩))
      have gq2:=hk ce _ (by omega) gq'
      simp -implicitDefEqProofs only [go_sem,hwr]
      (try (repeat' first|(refine vy ?_ ?_<;>rintro ⟨hd,hq⟩<;>first|(exfalso; omega)|simp -implicitDefEqProofs only [go_sem,hd]|skip)|refine vz ?_|simp -implicitDefEqProofs only [go_sem,hwr]))
      refine ⟨(r+1,u4,tset u5 i k (max (u5 i k) zc)),by dsimp only; omega,⟨by dsimp only; omega,h3,(by rw [<-hfi]; exact gq2),hg4,fun a b=>Int.le_trans (hg5 a b) (tset_ge _ _ _ _ _ _),fun r' hr' x hx k' hk' hxk=>?_⟩,by (repeat' (first|exact trivial|refine ⟨rfl,?_⟩))⟩
      dsimp only at hr' ⊢
      by_cases hrr:r'=r
      ·subst hrr
       rw [hz] at hx
       cases hx
       obtain rfl:k=k':=by simp only at hxk; omega
       exact tset_self _ _ _ _
      ·refine Int.le_trans (hbr r' (by omega) x hx k' hk' hxk) ?_
       split
       ·exact Int.le_refl _
       ·exact tset_ge _ _ _ _ _ _
     ·(repeat' first|(refine vy ?_ ?_<;>rintro ⟨hd,hq⟩<;>first|(exfalso; omega)|simp -implicitDefEqProofs only [go_sem,hd]|skip)|refine vz ?_|simp -implicitDefEqProofs only [go_sem,hiz,cnA,gx])
      have gz:=gx (.cells 4 [.agg [(.sc (.int .i64 (0))),(.sc (.bool (false))),(.sc (.bool (false))),(.sc (.int .i64 (0)))]]) (.cells 4 [.agg [(.sc (.int .i64 ((k:Int)+1))),(.sc (.bool (true))),(.sc (.bool (zs))),(.sc (.int .i64 (zc)))]])
      generalize (σ3.alloc (.cells 4 [.agg [(.sc (.int .i64 (0))),(.sc (.bool (false))),(.sc (.bool (false))),(.sc (.int .i64 (0)))]])).set σ3.next (.cells 4 [.agg [(.sc (.int .i64 ((k:Int)+1))),(.sc (.bool (true))),(.sc (.bool (zs))),(.sc (.int .i64 (zc)))]])=σ4 at h2' gz gq' ⊢
      have t1:=h2'.t4.1
      have t2:=h2'.t4.2 i hil
      ((try (refine Z_seq ?_; (try simp -implicitDefEqProofs only [go_sem]))); refine Z_draw (by kernel_rfl) [0,1,2,3,4,5,6,7,8,9,10,11,12] [(12,4095),(11,1536),(10,512),(9,0),(8,255),(7,96),(6,32),(5,0),(4,15),(3,7),(2,2),(1,0),(0,0)] (by kernel_rfl) (by kernel_rfl) ?_)
      simp -implicitDefEqProofs only [go_sem,gz,gq',hfi,t1,t2,t3,ixSl_own hil,ixSl_own hkC,hwk]
      refine (tbRaise (.inr ⟨true,rfl⟩) h2'.t4 hil hkC).mono ?_
      rintro _ σ5 ⟨rfl,ht,hn,hk⟩
      refine .inr ?_
      have h3:=h2'.r4 hil ht hn hk (h2'.l4.base hil hkC hzk.2 (.inr ⟨y,hym,hfi,_,hzm,rfl,rfl,rfl⟩))
      have gq2:=hk ce _ (by omega) gq'
      simp -implicitDefEqProofs only [go_sem,hwr]
      (try (repeat' first|(refine vy ?_ ?_<;>rintro ⟨hd,hq⟩<;>first|(exfalso; omega)|simp -implicitDefEqProofs only [go_sem,hd]|skip)|refine vz ?_|simp -implicitDefEqProofs only [go_sem,hwr]))
      refine ⟨(r+1,tset u4 i k (max (u4 i k) zc),u5),by dsimp only; omega,⟨by dsimp only; omega,h3,(by rw [<-hfi]; exact gq2),fun a b=>Int.le_trans (hg4 a b) (tset_ge _ _ _ _ _ _),hg5,fun r' hr' x hx k' hk' hxk=>?_⟩,by (repeat' (first|exact trivial|refine ⟨rfl,?_⟩))⟩
      dsimp only at hr' ⊢
      by_cases hrr:r'=r
      ·subst hrr
       rw [hz] at hx
       cases hx
       obtain rfl:k=k':=by simp only at hxk; omega
       exact tset_self _ _ _ _
      ·refine Int.le_trans (hbr r' (by omega) x hx k' hk' hxk) ?_
       split
       ·exact tset_ge _ _ _ _ _ _
       ·exact Int.le_refl _
    ·obtain rfl:r=y.gd.length:=by omega
     (repeat' first|(refine vy ?_ ?_<;>rintro ⟨hd,hq⟩<;>first|(exfalso; omega)|simp -implicitDefEqProofs only [go_sem,hd]|skip)|refine vz ?_|simp -implicitDefEqProofs only [go_sem,hwq])
     refine ⟨(q+1,u4,u5),by dsimp only; omega,⟨by dsimp only; omega,h2,fun a b=>Int.le_trans (hge a b) (hg5 a b),fun q' hq' e he i' hi' z hz k hk hzk=>?_⟩,by (repeat' (first|exact trivial|refine ⟨rfl,?_⟩))⟩
     dsimp only at hq' ⊢
     by_cases hqq:q'=q
     ·subst hqq
      rw [hy] at he
      cases he
      obtain rfl:i=i':=by omega
      obtain ⟨r,hr1,rfl⟩:=List.mem_iff_getElem.1 hz
      exact hbr r hr1 _ (List.getElem?_eq_getElem hr1) k hk hzk
     ·refine Int.le_trans (hbq q' (by omega) e he i' hi' z hz k hk hzk) ?_
      split
      ·exact hg4 _ _
      ·exact hg5 _ _
   ·obtain rfl:q=p.egs.length:=by omega
    (repeat' first|(refine vy ?_ ?_<;>rintro ⟨hd,hq⟩<;>first|(exfalso; omega)|simp -implicitDefEqProofs only [go_sem,hd]|skip)|refine vz ?_|simp -implicitDefEqProofs only [go_sem])
    refine ⟨(b4,b5,f4,g5),⟨h2,fun i hi k hk c hb=>?_,fun i hi k hk c hb=>?_⟩,by (repeat' (first|exact trivial|refine ⟨rfl,?_⟩))⟩
    ·rcases hb with ⟨hf,_⟩|⟨e,he,hfr,x,hx,hlo,hxk,rfl⟩
     ·cases hf
     ·obtain ⟨q,hq1,rfl⟩:=List.mem_iff_getElem.1 he
      have:=hbq q hq1 _ (List.getElem?_eq_getElem hq1) i hfr x hx k hk hxk
      rw [hlo] at this
      exact this
    ·rcases hb with ⟨_,y,hy,x,hx,hxk,rfl⟩|⟨e,he,hfr,x,hx,hlo,hxk,rfl⟩
     ·exact Int.le_trans (hba i hi y hy x hx k hk hxk) (hge _ _)
     ·obtain ⟨q,hq1,rfl⟩:=List.mem_iff_getElem.1 he
      have:=hbq q hq1 _ (List.getElem?_eq_getElem hq1) i hfr x hx k hk hxk
      rw [hlo] at this
      exact this
  ·intro i σ hi
   refine R _ i σ (fun j hj=>?_) hi
   obtain ⟨b4,b5,f4,f5⟩:=i
   obtain ⟨h2,_⟩:=hi
   have e4:=tgap_le (top:=1048576) (L:=p.locs.length) (C:=C) (f:=fun _ _=>-1) (f':=f4) fun i hi k hk=>h2.l4.lo i hi k hk
   have e5:=tgap_le (top:=1048576) (L:=p.locs.length) (C:=C) (f:=fun _ _=>-1) (f':=f5) fun i hi k hk=>h2.l5.lo i hi k hk
   simp only at hj ⊢
   omega
 ·rintro P ⟨b4,b5,f4,f5⟩ σ1 hP ⟨h2,hb4,hb5⟩
  simp only at hP h2 hb4 hb5
  simp -implicitDefEqProofs only [go_sem]
  (try (repeat' first|(refine vy ?_ ?_<;>rintro ⟨hd,hq⟩<;>first|(exfalso; omega)|simp -implicitDefEqProofs only [go_sem,hd]|skip)|refine vz ?_|simp -implicitDefEqProofs only [go_sem,h2.bx,kL,cL,iL,kE,cE,iE,hEn]))
  have eg0:=hp.eg
  refine vlp (ι:=Nat) (fun q=>[(1,(.sc (.int .i64 (C)))),(2,.ptr b0 0 0),(4,.slice b4 0 p.locs.length),(5,.slice b5 0 p.locs.length),(99,SE),(100,(.sc (.int .i64 (p.egs.length)))),(101,(.sc (.int .i64 (q))))]) (fun q σ1=>q<=p.egs.length/\Two σ σ1 p C b0 b4 b5 SL SE f4 f5/\∀ q',q' < q->∀ e,p.egs[q']?=some e->∀ i j:Nat,e.fr=(i:Int)->e.to=(j:Int)->∀ k,k < C->rstB e.rs ((k:Int)+1)=false->f4 j k<=f4 i k/\f5 j k<=f5 i k) (fun q=>p.egs.length - q) (fun _=>rfl) 0 ?_ ?_ ?_
  ·(repeat' (first|exact trivial|refine ⟨rfl,?_⟩))
  ·exact ⟨Nat.zero_le _,h2,fun q hq=>absurd hq (Nat.not_lt_zero _)⟩
  clear h2
  rintro q σ1 ⟨hq,h2,hcl⟩
  simp -implicitDefEqProofs only [go_sem]
  ((first|refine vz2 ?_ ?_|refine vz3 ?_ ?_)<;>intro hql)
  ·obtain ⟨y,hy⟩:∃ y,p.egs[q]?=some y:=⟨p.egs[q]'(by omega),by simp⟩
   obtain ⟨ey,hey,hyv⟩:=hEat q y hy
   have hym:=List.mem_of_getElem? hy
   obtain ⟨⟨hf0,hf1⟩,⟨ht0,ht1⟩,hgl,hrl,hgx⟩:=eg0 y hym
   obtain ⟨i,hfi⟩:∃ i:Nat,y.fr=(i:Int):=⟨y.fr.toNat,by omega⟩
   obtain ⟨j,hfj⟩:∃ j:Nat,y.to=(j:Int):=⟨y.to.toNat,by omega⟩
   have hil:i < p.locs.length:=by omega
   have hjl:j < p.locs.length:=by omega
   have hiy:=fun (σ:AStore)=>hE1.idx (σ:=σ) (k:=.i64) hey
   have hwq:=wrapS (i:=q) (by have:=hp.le; omega)
   have hyv0:=hyv
   obtain ⟨G,a,a2,a3,a4,SS,SR,rfl,hG,hEx,hSs,hR,i1,i2,i3,i4,i5⟩:=hyv
   have kG:=hG.1.fit
   have cG:=hG.1.cells
   have iG:=hG.1.isCell
   obtain ⟨sels,hS1,hSl,hSat⟩:=hSs.at'
   have kSS:=hS1.fit
   have cSS:=hS1.cells
   have iSS:=hS1.isCell
   have kR:=hR.1.fit
   have cR:=hR.1.cells
   have iR:=hR.1.isCell
   obtain ⟨kk,nn,ii,rfl,rfl,rfl,kX,cX,iX⟩:∃ (kk:Int) (nn:ByteArray) (ii:Int),a=(.sc (.int .i64 (kk)))/\a2=.sc (.string nn)/\a3=(.sc (.int .i64 (ii)))/\a4.fit=true/\a4.cells=[a4]/\a4.isCell=true:=by
    generalize y.cd=cd at hEx
    obtain ⟨k,nm,i,l⟩:=cd
    simp only [IsEx] at hEx
    obtain ⟨S,els,he,hS,_⟩:=hEx
    simp only [AVal.agg.injEq,List.cons.injEq,and_true] at he
    obtain ⟨rfl,rfl,rfl,rfl⟩:=he
    exact ⟨_,_,_,rfl,rfl,rfl,hS.fit,hS.cells,hS.isCell⟩
   have gx:∀ y z,((σ1.alloc y).set σ1.next z).get σ1.next=some z:=fun y z=>by rw [AStore.get_set,if_pos ⟨rfl,by simp only [alloc_next]; omega⟩]
   (repeat' first|(refine vy ?_ ?_<;>rintro ⟨hd,hq⟩<;>first|(exfalso; omega)|simp -implicitDefEqProofs only [go_sem,hd]|skip)|refine vz ?_|simp -implicitDefEqProofs only [go_sem,hiy,kX,cX,iX,kG,cG,iG,kSS,cSS,iSS,kR,cR,iR,gx])
   have h2':=h2.al (.cells 13 [.agg [(.sc (.int .i64 (0))),(.sc (.int .i64 (0))),(.sc (.slice none 0 0)),(.sc (.int .i64 (0))),.sc (.string ⟨#[]⟩),(.sc (.int .i64 (0))),(.sc (.slice none 0 0)),(.sc (.int .i64 (0))),(.sc (.bool (false))),(.sc (.slice none 0 0)),(.sc (.slice none 0 0)),(.sc (.int .i64 (0))),(.sc (.int .i64 (0)))]]) (.cells 13 [.agg [(.sc (.int .i64 (y.fr))),(.sc (.int .i64 (y.to))),G,(.sc (.int .i64 (kk))),.sc (.string nn),(.sc (.int .i64 (ii))),a4,(.sc (.int .i64 (y.ch))),(.sc (.bool (y.snd))),SS,SR,(.sc (.int .i64 (y.cost))),(.sc (.int .i64 (y.kind)))]])
   have gq:=gx (.cells 13 [.agg [(.sc (.int .i64 (0))),(.sc (.int .i64 (0))),(.sc (.slice none 0 0)),(.sc (.int .i64 (0))),.sc (.string ⟨#[]⟩),(.sc (.int .i64 (0))),(.sc (.slice none 0 0)),(.sc (.int .i64 (0))),(.sc (.bool (false))),(.sc (.slice none 0 0)),(.sc (.slice none 0 0)),(.sc (.int .i64 (0))),(.sc (.int .i64 (0)))]]) (.cells 13 [.agg [(.sc (.int .i64 (y.fr))),(.sc (.int .i64 (y.to))),G,(.sc (.int .i64 (kk))),.sc (.string nn),(.sc (.int .i64 (ii))),a4,(.sc (.int .i64 (y.ch))),(.sc (.bool (y.snd))),SS,SR,(.sc (.int .i64 (y.cost))),(.sc (.int .i64 (y.kind)))]])
   obtain ⟨ce,hce⟩:∃ c,c=σ1.next:=⟨_,rfl⟩
   have hcb:=h2.h3
   rw [<-hce] at h2' gq hcb ⊢
   generalize (σ1.alloc (.cells 13 [.agg [(.sc (.int .i64 (0))),(.sc (.int .i64 (0))),(.sc (.slice none 0 0)),(.sc (.int .i64 (0))),.sc (.string ⟨#[]⟩),(.sc (.int .i64 (0))),(.sc (.slice none 0 0)),(.sc (.int .i64 (0))),(.sc (.bool (false))),(.sc (.slice none 0 0)),(.sc (.slice none 0 0)),(.sc (.int .i64 (0))),(.sc (.int .i64 (0)))]])).set ce (.cells 13 [.agg [(.sc (.int .i64 (y.fr))),(.sc (.int .i64 (y.to))),G,(.sc (.int .i64 (kk))),.sc (.string nn),(.sc (.int .i64 (ii))),a4,(.sc (.int .i64 (y.ch))),(.sc (.bool (y.snd))),SS,SR,(.sc (.int .i64 (y.cost))),(.sc (.int .i64 (y.kind)))]])=σ2 at h2' gq ⊢
   refine vlp (ι:=Nat) (fun k=>[(1,(.sc (.int .i64 (C)))),(2,.ptr b0 0 0),(4,.slice b4 0 p.locs.length),(5,.slice b5 0 p.locs.length),(15,.ptr ce 0 0),(99,SE),(100,(.sc (.int .i64 (p.egs.length)))),(101,(.sc (.int .i64 (q)))),(105,(.sc (.int .i64 (C)))),(106,(.sc (.int .i64 (k))))]) (fun k σ1=>k<=C/\Two σ σ1 p C b0 b4 b5 SL SE f4 f5/\σ1.get ce=some (.cells 13 [.agg [(.sc (.int .i64 (y.fr))),(.sc (.int .i64 (y.to))),G,(.sc (.int .i64 (kk))),.sc (.string nn),(.sc (.int .i64 (ii))),a4,(.sc (.int .i64 (y.ch))),(.sc (.bool (y.snd))),SS,SR,(.sc (.int .i64 (y.cost))),(.sc (.int .i64 (y.kind)))]])/\∀ k',k' < k->rstB y.rs ((k':Int)+1)=false->f4 j k'<=f4 i k'/\f5 j k'<=f5 i k') (fun k=>C - k) (fun _=>rfl) 0 ?_ ?_ ?_
   ·(repeat' (first|exact trivial|refine ⟨rfl,?_⟩))
   ·exact ⟨Nat.zero_le _,h2',gq,fun k hk=>absurd hk (Nat.not_lt_zero _)⟩
   clear h2' h2 gx gq
   rintro k σ3 ⟨hk,h2,gq,hck⟩
   have hclt:=AStore.lt_of_get gq
   simp -implicitDefEqProofs only [go_sem]
   ((first|refine vz2 ?_ ?_|refine vz3 ?_ ?_)<;>intro hkl)
   ·have hkC:k < C:=by omega
    have hwk:=wrapS (i:=k) (by omega)
    have hwk2:IntKind.i64.wrap ((k:Int)+1)=(k:Int)+1:=wrap64 (by omega) (by omega)
    have rs:=resetsC (w:=⟨w.w,[]⟩) hyv0 hrl ((k:Int)+1)
    cases hrb:rstB y.rs ((k:Int)+1) with
    | true=>
     rw [hrb] at rs
     (repeat' first|(refine vy ?_ ?_<;>rintro ⟨hd,hq⟩<;>first|(exfalso; omega)|simp -implicitDefEqProofs only [go_sem,hd]|skip)|refine vz ?_|simp -implicitDefEqProofs only [go_sem,gq,hwk2])
     refine rs.use ?_
     (repeat' first|(refine vy ?_ ?_<;>rintro ⟨hd,hq⟩<;>first|(exfalso; omega)|simp -implicitDefEqProofs only [go_sem,hd]|skip)|refine vz ?_|simp -implicitDefEqProofs only [go_sem,hwk])
     refine ⟨k+1,by dsimp only; omega,⟨by omega,h2,gq,fun k' hk' hr=>?_⟩,by (repeat' (first|exact trivial|refine ⟨rfl,?_⟩))⟩
     by_cases hkk:k'=k
     ·subst hkk
      rw [hrb] at hr
      cases hr
     ·exact hck k' (by omega) hr
    | false=>
     rw [hrb] at rs
     (repeat' first|(refine vy ?_ ?_<;>rintro ⟨hd,hq⟩<;>first|(exfalso; omega)|simp -implicitDefEqProofs only [go_sem,hd]|skip)|refine vz ?_|simp -implicitDefEqProofs only [go_sem,gq,hwk2])
     refine rs.use ?_
     have s4:=h2.t4.1
     have s4i:=h2.t4.2 i hil
     have s4j:=h2.t4.2 j hjl
     have s5:=h2.t5.1
     have s5i:=h2.t5.2 i hil
     have s5j:=h2.t5.2 j hjl
     have t3:∀ (b i:Nat),i < p.locs.length->((List.range p.locs.length).map fun i=>AVal.slice (b+1+i) 0 C)[i]?=some (.slice (b+1+i) 0 C):=fun b i hi=>by rw [List.getElem?_map,List.getElem?_range hi]; rfl
     have t3i:=fun b=>t3 b i hil
     have t3j:=fun b=>t3 b j hjl
     have rC:(List.range C)[k]?=some k:=List.getElem?_range hkC
     have hle:=h2.h1
     have hle2:=h2.h2
     simp -implicitDefEqProofs only [go_sem]
     (try (repeat' first|(refine vy ?_ ?_<;>rintro ⟨hd,hq⟩<;>first|(exfalso; omega)|simp -implicitDefEqProofs only [go_sem,hd]|skip)|refine vz ?_|simp -implicitDefEqProofs only [go_sem]))
     ((try (refine Z_seq ?_; (try simp -implicitDefEqProofs only [go_sem]))); refine Z_draw (by kernel_rfl) [0,1,2,3,4,5,6,7,8,9,10,11,12,13,14,15,16,17] [(17,131071),(16,65535),(15,32640),(14,16256),(13,8064),(12,0),(11,1920),(10,896),(9,256),(8,0),(7,0),(6,63),(5,0),(4,15),(3,7),(2,2),(1,0),(0,0)] (by kernel_rfl) (by kernel_rfl) ?_)
     simp -implicitDefEqProofs only [go_sem,gq,hfi,hfj,s4,s4i,s4j,t3i,t3j,ixSl_own hil,ixSl_own hjl,ixSl_own hkC,rC,iA]
     refine (tbRaise (.inr ⟨true,rfl⟩) h2.t4 hil hkC).mono ?_
     rintro _ σ4 ⟨rfl,ht4,hn4,hk4⟩
     refine .inr ?_
     have h24:=h2.r4 hil ht4 hn4 hk4 (h2.l4.step hym hfi hfj hil hjl hkC hrb)
     have gq4:=hk4 ce _ (by omega) gq
     rw [hfi,hfj] at gq4
     have s5:=h24.t5.1
     have s5i:=h24.t5.2 i hil
     have s5j:=h24.t5.2 j hjl
     simp -implicitDefEqProofs only [go_sem]
     (try (repeat' first|(refine vy ?_ ?_<;>rintro ⟨hd,hq⟩<;>first|(exfalso; omega)|simp -implicitDefEqProofs only [go_sem,hd]|skip)|refine vz ?_|simp -implicitDefEqProofs only [go_sem]))
     ((try (refine Z_seq ?_; (try simp -implicitDefEqProofs only [go_sem]))); refine Z_draw (by kernel_rfl) [0,1,2,3,4,5,6,7,8,9,10,11,12,13,14,15,16,17] [(17,131071),(16,65535),(15,32640),(14,16256),(13,8064),(12,0),(11,1920),(10,896),(9,256),(8,0),(7,0),(6,63),(5,0),(4,15),(3,7),(2,2),(1,0),(0,0)] (by kernel_rfl) (by kernel_rfl) ?_)
     simp -implicitDefEqProofs only [go_sem,gq4,hfi,hfj,s5,s5i,s5j,t3i,t3j,ixSl_own hil,ixSl_own hjl,ixSl_own hkC,rC,iA]
     refine (tbRaise (.inr ⟨true,rfl⟩) h24.t5 hil hkC).mono ?_
     rintro _ σ5 ⟨rfl,ht5,hn5,hk5⟩
     refine .inr ?_
     have h25:=h24.r5 hil ht5 hn5 hk5 (h24.l5.step hym hfi hfj hil hjl hkC hrb)
     have gq5:=hk5 ce _ (by omega) gq4
     by_cases d4:f4 i k < f4 j k
     ·have e4:=dct d4
      simp -implicitDefEqProofs only [go_sem,e4]
      (try (repeat' first|(refine vy ?_ ?_<;>rintro ⟨hd,hq⟩<;>first|(exfalso; omega)|simp -implicitDefEqProofs only [go_sem,hd]|skip)|refine vz ?_|simp -implicitDefEqProofs only [go_sem,e4]))
      refine ⟨(b4,b5,tset f4 i k (max (f4 i k) (f4 j k)),tset f5 i k (max (f5 i k) (f5 j k))),hP _ ?_,⟨h25,fun i' hi' k' hk' c hb=>Int.le_trans (hb4 i' hi' k' hk' c hb) (tset_ge _ _ _ _ _ _),fun i' hi' k' hk' c hb=>Int.le_trans (hb5 i' hi' k' hk' c hb) (tset_ge _ _ _ _ _ _)⟩,rfl,rfl⟩
      dsimp only
      have q4:=h2.l4.hi j hjl k hkC
      have q5:=h2.l5.hi j hjl k hkC
      have u4:=tset_self f4 i k (f4 j k)
      have u5:=tset_self f5 i k (f5 j k)
      have z4:=tgap_lt (top:=1048576) (L:=p.locs.length) (C:=C) (f:=f4) (f':=tset f4 i k (max (f4 i k) (f4 j k))) (fun _ _ _ _=>tset_ge _ _ _ _ _ _) hil hkC (by omega) (by omega)
      have z5:=tgap_le (top:=1048576) (L:=p.locs.length) (C:=C) (f:=f5) (f':=tset f5 i k (max (f5 i k) (f5 j k))) (fun _ _ _ _=>tset_ge _ _ _ _ _ _)
      omega
     ·have e4:=dcf d4
      by_cases d5:f5 i k < f5 j k
      ·have e5:=dct d5
       simp -implicitDefEqProofs only [go_sem,e4,e5]
       (try (repeat' first|(refine vy ?_ ?_<;>rintro ⟨hd,hq⟩<;>first|(exfalso; omega)|simp -implicitDefEqProofs only [go_sem,hd]|skip)|refine vz ?_|simp -implicitDefEqProofs only [go_sem,e4,e5]))
       refine ⟨(b4,b5,tset f4 i k (max (f4 i k) (f4 j k)),tset f5 i k (max (f5 i k) (f5 j k))),hP _ ?_,⟨h25,fun i' hi' k' hk' c hb=>Int.le_trans (hb4 i' hi' k' hk' c hb) (tset_ge _ _ _ _ _ _),fun i' hi' k' hk' c hb=>Int.le_trans (hb5 i' hi' k' hk' c hb) (tset_ge _ _ _ _ _ _)⟩,rfl,rfl⟩
       dsimp only
       have q4:=h2.l4.hi j hjl k hkC
       have q5:=h2.l5.hi j hjl k hkC
       have u4:=tset_self f4 i k (f4 j k)
       have u5:=tset_self f5 i k (f5 j k)
       have z5:=tgap_lt (top:=1048576) (L:=p.locs.length) (C:=C) (f:=f5) (f':=tset f5 i k (max (f5 i k) (f5 j k))) (fun _ _ _ _=>tset_ge _ _ _ _ _ _) hil hkC (by omega) (by omega)
       have z4:=tgap_le (top:=1048576) (L:=p.locs.length) (C:=C) (f:=f4) (f':=tset f4 i k (max (f4 i k) (f4 j k))) (fun _ _ _ _=>tset_ge _ _ _ _ _ _)
       omega
      ·have e5:=dcf d5
       simp -implicitDefEqProofs only [go_sem,e4,e5]
       (try (repeat' first|(refine vy ?_ ?_<;>rintro ⟨hd,hq⟩<;>first|(exfalso; omega)|simp -implicitDefEqProofs only [go_sem,hd]|skip)|refine vz ?_|simp -implicitDefEqProofs only [go_sem,e4,e5,hwk]))
       rw [show max (f4 i k) (f4 j k)=f4 i k by omega,show max (f5 i k) (f5 j k)=f5 i k by omega,tset_same,tset_same] at h25
       refine ⟨k+1,by dsimp only; omega,⟨by omega,h25,gq5,fun k' hk' hr=>?_⟩,by (repeat' (first|exact trivial|refine ⟨rfl,?_⟩))⟩
       by_cases hkk:k'=k
       ·subst hkk
        omega
       ·exact hck k' (by omega) hr
   ·obtain rfl:k=C:=by omega
    (repeat' first|(refine vy ?_ ?_<;>rintro ⟨hd,hq⟩<;>first|(exfalso; omega)|simp -implicitDefEqProofs only [go_sem,hd]|skip)|refine vz ?_|simp -implicitDefEqProofs only [go_sem,hwq])
    refine ⟨q+1,by dsimp only; omega,⟨by omega,h2,fun q' hq' e he i' j' hi' hj' k hk hr=>?_⟩,by (repeat' (first|exact trivial|refine ⟨rfl,?_⟩))⟩
    by_cases hqq:q'=q
    ·subst hqq
     rw [hy] at he
     cases he
     obtain rfl:i=i':=by omega
     obtain rfl:j=j':=by omega
     exact hck k hk hr
    ·exact hcl q' (by omega) e he i' j' hi' hj' k hk hr
  ·obtain rfl:q=p.egs.length:=by omega
   (repeat' first|(refine vy ?_ ?_<;>rintro ⟨hd,hq⟩<;>first|(exfalso; omega)|simp -implicitDefEqProofs only [go_sem,hd]|skip)|refine vz ?_|simp -implicitDefEqProofs only [go_sem])
   refine ⟨b4,b5,f4,f5,rfl,h2.t4,h2.t5,h2.l4.lst hb4 fun e he i j h1 h3 hi hj k hk hr=>?_,h2.l5.lst hb5 fun e he i j h1 h3 hi hj k hk hr=>?_,h2.ks,Nat.le_of_lt h2.h1,by have:=h2.h2; omega⟩
   ·obtain ⟨q,hq1,rfl⟩:=List.mem_iff_getElem.1 he
    exact (hcl q hq1 _ (List.getElem?_eq_getElem hq1) i j h1 h3 k hk hr).1
   ·obtain ⟨q,hq1,rfl⟩:=List.mem_iff_getElem.1 he
    exact (hcl q hq1 _ (List.getElem?_eq_getElem hq1) i j h1 h3 k hk hr).2
theorem prOk {n:Nt} (hv:validB n=true) {p:Pr} (hp:p∈n.procs):PrOk n.clocks.toNat p:=by
 have h0:=valid_procs hv
 simp only [validB,Bool.and_eq_true,List.all_eq_true] at hv
 have h1:=hv.2 p hp
 simp only [prB,prB0,Bool.and_eq_true,List.all_eq_true,decide_eq_true_eq] at h1
 obtain ⟨⟨⟨⟨h2,h3⟩,h4⟩,h5⟩,h6⟩:=h1
 have hcn:∀ x,cnB n.clocks x=true->cnK n.clocks.toNat x:=fun x hx=>by
  simp only [cnB,wiB,ctB,Bool.and_eq_true,decide_eq_true_eq] at hx
  exact ⟨by omega,by omega⟩
 refine ⟨by omega,by omega,fun y hy=>?_,fun e he=>?_⟩
 ·have:=h5 y hy
  simp only [lcB,cnsB,Bool.and_eq_true,decide_eq_true_eq,List.all_eq_true] at this
  exact ⟨by omega,fun x hx=>hcn x (this.1.2.2 x hx)⟩
 ·have:=h6 e he
  simp only [egB,egB1,egB3,cnsB,wiB,Bool.and_eq_true,decide_eq_true_eq,List.all_eq_true] at this
  refine ⟨by omega,by omega,by omega,by omega,fun x hx=>hcn x ?_⟩
  have h7:=this.1.1.1.1.1.2.2 x hx
  exact h7
/-- The least table, as a function. -/
noncomputable def lst (p:Pr) (C:Nat) (up:Bool):Nat->Nat->Int:=open Classical in if h:∃ f,Lst p C up f then h.choose else fun _ _=>-1
theorem Lst.eq {p:Pr} {C:Nat} {up:Bool} {f:Nat->Nat->Int} (h:Lst p C up f) {i k:Nat} (hi:i < p.locs.length) (hk:k < C):f i k=lst p C up i k:=by
 have hx:∃ f,Lst p C up f:=⟨f,h⟩
 unfold lst
 rw [dif_pos hx]
 exact h.uniq hx.choose_spec hi hk
/-- What the first j processes ask. -/
noncomputable def bndP (n:Nt) (s:Stt) (up:Bool):Nat->Nat->Int
 | 0,_=>-1
 | j+1,k=>match n.procs[j]?,s.locs[j]? with
  | some p,some l=>max (bndP n s up j k) (lst p n.clocks.toNat up l.toNat k)
  | _,_=>bndP n s up j k
/-- A further constraint. -/
def raP (f:Nat->Int) (x:Cn):Nat->Int:=fun k=>if x.k=(k:Int)+1 then max (f k) x.c else f k
noncomputable def bnd (n:Nt) (s:Stt) (l:List Cn) (up:Bool):Nat->Int:=l.foldl raP (bndP n s up n.procs.length)
theorem bndP_low (n:Nt) (s:Stt) (up:Bool):∀ j k,-1<=bndP n s up j k
 | 0,_=>Int.le_refl _
 | j+1,k=>by
  have:=bndP_low n s up j k
  unfold bndP
  split
  ·omega
  ·exact this
theorem raP_ge (f:Nat->Int) (x:Cn) (k:Nat):f k<=raP f x k:=by
 unfold raP
 split
 ·omega
 ·exact Int.le_refl _
theorem foldl_ge:∀ (l:List Cn) (f:Nat->Int) (k:Nat),f k<=l.foldl raP f k
 | [],_,_=>Int.le_refl _
 | x::l,f,k=>Int.le_trans (raP_ge f x k) (foldl_ge l (raP f x) k)
theorem bnd_low (n:Nt) (s:Stt) (l:List Cn) (up:Bool) (k:Nat):-1<=bnd n s l up k:=Int.le_trans (bndP_low n s up _ k) (foldl_ge l _ k)
theorem fold_take {l:List Cn} {q:Nat} {x:Cn} (f:Nat->Int) (h:l[q]?=some x):(l.take (q+1)).foldl raP f=raP ((l.take q).foldl raP f) x:=by
 rw [List.take_add_one,h,List.foldl_append]; rfl
def Rw (σ:AStore) (b C:Nat) (f:Nat->Int):Prop:=σ.get b=some (.cells 1 ((List.range C).map fun k=>iA (f k)))
theorem Rw.congr {σ:AStore} {b C:Nat} {f g:Nat->Int} (h:Rw σ b C f) (hfg:∀ k,k < C->f k=g k):Rw σ b C g:=by
 unfold Rw at h ⊢
 rw [h]
 congr 2
 exact List.map_congr_left fun k hk=>by rw [hfg k (List.mem_range.1 hk)]
def rset (f:Nat->Int) (k:Nat) (v:Int):Nat->Int:=fun a=>if a=k then v else f a
theorem rset_same (f:Nat->Int) (k:Nat):rset f k (f k)=f:=by
 funext a
 unfold rset
 split
 ·rename_i h; rw [h]
 ·rfl
theorem rset_raP {f:Nat->Int} {k:Nat} {x:Cn} (h:x.k=(k:Int)+1):rset f k (max (f k) x.c)=raP f x:=by
 funext a
 unfold rset raP
 by_cases ha:a=k
 ·subst ha; rw [if_pos rfl,if_pos h]
 ·rw [if_neg ha,if_neg (by omega)]
theorem Rw.set {σ:AStore} {b C k:Nat} {f:Nat->Int} (h:Rw σ b C f) (v:Int):Rw (σ.set b (.cells 1 (((List.range C).map fun k=>iA (f k)).set k (iA v)))) b C (rset f k v):=by
 unfold Rw
 rw [AStore.get_set,if_pos ⟨rfl,AStore.lt_of_get h⟩,row_set]
 congr 3
 funext j
 unfold rset
 split<;>rfl
theorem rwRaise {w:WD} {σ:AStore} {b C k:Nat} {f:Nat->Int} {v:Int} {G:AVal} (hG:IsD 1 G [iA v]) (h:Rw σ b C f) (hk:k < C):
  ACalls (EE w) 17 [.ptr b k 0,G] σ fun en σ'=>en=.ret (.sc (.bool (decide (f k < v))))/\Rw σ' b C (rset f k (max (f k) v))/\σ'.next=σ.next/\∀ d y,d≠b->σ.get d=some y->σ'.get d=some y:=by
 refine (raiseC hG h (i:=k) (x:=f k) (by rw [List.getElem?_map,List.getElem?_range hk]; rfl)).mono ?_
 rintro en σ' ⟨rfl,rfl⟩
 refine ⟨rfl,?_⟩
 by_cases hv:f k < v
 ·rw [if_pos hv,show max (f k) v=v by omega]
  exact ⟨h.set v,by rw [set_next],fun d y hd hg=>by rw [AStore.get_set,if_neg (by omega)]; exact hg⟩
 ·rw [if_neg hv,show max (f k) v=f k by omega,rset_same]
  exact ⟨h,rfl,fun d y _ hg=>hg⟩
/-- What Bounds holds in memory. -/
structure Bd (σ0 σ:AStore) (N T:AVal) (b3 b4 b6 b7 C:Nat) (f6 f7:Nat->Int):Prop where
 g3:σ.get b3=some (.cells 5 [N])
 g4:σ.get b4=some (.cells 2 [T])
 r6:Rw σ b6 C f6
 r7:Rw σ b7 C f7
 h0:σ0.next<=b3
 h1:b3 < b4
 h2:b4 < b6
 h3:b4 < b7
 h4:b6≠b7
 ks:KeepS σ0 σ
section
variable {σ0 σ σ':AStore} {N T:AVal} {b3 b4 b6 b7 C:Nat} {f6 f7 f':Nat->Int}
theorem Bd.keep (h:Bd σ0 σ N T b3 b4 b6 b7 C f6 f7) (hk:KeepS σ σ'):Bd σ0 σ' N T b3 b4 b6 b7 C f6 f7:=
 ⟨hk.2 _ _ h.g3,hk.2 _ _ h.g4,hk.2 _ _ h.r6,hk.2 _ _ h.r7,h.h0,h.h1,h.h2,h.h3,h.h4,h.ks.trans hk⟩
theorem Bd.al (h:Bd σ0 σ N T b3 b4 b6 b7 C f6 f7) (y z:ABlk):Bd σ0 ((σ.alloc y).set σ.next z) N T b3 b4 b6 b7 C f6 f7:=h.keep ((KeepS.alloc σ y).set (Nat.le_refl _) z)
theorem Bd.w6 (h:Bd σ0 σ N T b3 b4 b6 b7 C f6 f7) (hr:Rw σ' b6 C f') (hn:σ'.next=σ.next) (hk:∀ d y,d≠b6->σ.get d=some y->σ'.get d=some y):Bd σ0 σ' N T b3 b4 b6 b7 C f' f7:=by
 have h0:=h.h0
 have h1:=h.h1
 have h2:=h.h2
 have h3:=h.h3
 refine ⟨hk _ _ (by omega) h.g3,hk _ _ (by omega) h.g4,hr,hk _ _ (fun e=>h.h4 e.symm) h.r7,h0,h1,h2,h3,h.h4,⟨by have:=h.ks.1; omega,fun d y hg=>?_⟩⟩
 have:=AStore.lt_of_get hg
 exact hk _ _ (by omega) (h.ks.2 _ _ hg)
theorem Bd.w7 (h:Bd σ0 σ N T b3 b4 b6 b7 C f6 f7) (hr:Rw σ' b7 C f') (hn:σ'.next=σ.next) (hk:∀ d y,d≠b7->σ.get d=some y->σ'.get d=some y):Bd σ0 σ' N T b3 b4 b6 b7 C f6 f':=by
 have h0:=h.h0
 have h1:=h.h1
 have h2:=h.h2
 have h3:=h.h3
 refine ⟨hk _ _ (by omega) h.g3,hk _ _ (by omega) h.g4,hk _ _ h.h4 h.r6,hr,h0,h1,h2,h3,h.h4,⟨by have:=h.ks.1; omega,fun d y hg=>?_⟩⟩
 have:=AStore.lt_of_get hg
 exact hk _ _ (by omega) (h.ks.2 _ _ hg)
theorem Bd.e6 (h:Bd σ0 σ N T b3 b4 b6 b7 C f6 f7) (he:∀ k,k < C->f6 k=f' k):Bd σ0 σ N T b3 b4 b6 b7 C f' f7:=⟨h.g3,h.g4,h.r6.congr he,h.r7,h.h0,h.h1,h.h2,h.h3,h.h4,h.ks⟩
theorem Bd.e7 (h:Bd σ0 σ N T b3 b4 b6 b7 C f6 f7) (he:∀ k,k < C->f7 k=f' k):Bd σ0 σ N T b3 b4 b6 b7 C f6 f':=⟨h.g3,h.g4,h.r6,h.r7.congr he,h.h0,h.h1,h.h2,h.h3,h.h4,h.ks⟩
end
/-- Written up to x. -/
def mixF (f g:Nat->Int) (x:Nat):Nat->Int:=fun k=>if k < x then f k else g k
theorem mixF_succ (f g:Nat->Int) (x:Nat):rset (mixF f g x) x (f x)=mixF f g (x+1):=by
 funext a
 unfold rset mixF
 by_cases ha:a=x
 ·subst ha; rw [if_pos rfl,if_pos (by omega)]
 ·rw [if_neg ha]
  by_cases hx:a < x
  ·rw [if_pos hx,if_pos (by omega)]
  ·rw [if_neg hx,if_neg (by omega)]
theorem mixF_at (f g:Nat->Int) (x:Nat):mixF f g x x=g x:=if_neg (Nat.lt_irrefl x)
theorem bndP_succ {n:Nt} {s:Stt} {up:Bool} {j:Nat} {p:Pr} {m:Nat} (hp:n.procs[j]?=some p) (hm:s.locs[j]?=some (m:Int)) (k:Nat):bndP n s up (j+1) k=max (bndP n s up j k) (lst p n.clocks.toNat up m k):=by
 rw [bndP,hp,hm]
 rfl
theorem boundsC {w:WD} {σ:AStore} {n:Nt} {v:AVal} {s:Stt} {u S:AVal} {l:List Cn} (h:IsNt n v) (hs:NtS n) (hu:IsStt s u) (hl:IsCns l S):
  ACalls (EE w) 6 [v,u,S] σ fun en σ'=>KeepS σ σ'/\((actI n s l≠0/\en=.ret (.tuple [(.sc (.slice none 0 0)),(.sc (.slice none 0 0)),(.sc (.int .i64 (actI n s l)))]))\/
   (actI n s l=0/\∃ b6 b7,en=.ret (.tuple [.slice b6 0 n.clocks.toNat,.slice b7 0 n.clocks.toNat,(.sc (.int .i64 (0)))])/\σ.next<=b6/\σ.next<=b7/\b6≠b7/\Rw σ' b6 n.clocks.toNat (bnd n s l false)/\Rw σ' b7 n.clocks.toNat (bnd n s l true))):=by
 have hCh:=fun w:WD=>actCheckC (w:=w) h hs hu hl
 obtain ⟨SV,SC,SF,SP,fels,rfl,icl,⟨hV,lv,hvo⟩,⟨hC,lc,hco⟩,hF,hFs,lf,hP⟩:=h
 obtain ⟨L,U,rfl,⟨hL,lL,iL0⟩,⟨hU,lU,iU0⟩⟩:=hu
 obtain ⟨hS,ll,hok⟩:=hl
 have hSn:∀ σ:AStore,aLen (.slice 0) S σ=some (.sc (.int .i64 (l.length))):=fun σ=>by have:=hS.len (σ:=σ); rwa [List.length_map] at this
 obtain ⟨pels,hP1,hPl,hPat⟩:=hP.at'
 have hPn:∀ σ:AStore,aLen (.slice 0) SP σ=some (.sc (.int .i64 (n.procs.length))):=fun σ=>hP1.lenN hPl
 have kV:=hV.fit
 have cV:=hV.cells
 have iV:=hV.isCell
 have kC:=hC.fit
 have cC:=hC.cells
 have iC:=hC.isCell
 have kF:=hF.fit
 have cF:=hF.cells
 have iF:=hF.isCell
 have kP:=hP1.fit
 have cP:=hP1.cells
 have iP:=hP1.isCell
 have kL:=hL.fit
 have cL:=hL.cells
 have iL:=hL.isCell
 have kU:=hU.fit
 have cU:=hU.cells
 have iU:=hU.isCell
 refine of_6 rfl rfl rfl (by kernel_rfl) ?_
 have hne:(σ.next=σ.next+1)=False:=eq_false (by omega)
 simp -implicitDefEqProofs only [go_sem,hne,kV,cV,iV,kC,cC,iC,kF,cF,iF,kP,cP,iP,kL,cL,iL,kU,cU,iU]
 obtain ⟨b3,hb3⟩:∃ b,b=σ.next:=⟨_,rfl⟩
 obtain ⟨b4,hb4⟩:∃ b,b=b3+1:=⟨_,rfl⟩
 have g3:((σ.alloc (.cells 5 [.agg [(.sc (.int .i64 (n.clocks))),SV,SC,SF,SP]])).alloc (.cells 2 [.agg [L,U]])).get b3=some (.cells 5 [.agg [(.sc (.int .i64 (n.clocks))),SV,SC,SF,SP]]):=by rw [AStore.get_alloc,if_neg (by rw [alloc_next]; omega),AStore.get_alloc,if_pos (by omega)]
 have g4:((σ.alloc (.cells 5 [.agg [(.sc (.int .i64 (n.clocks))),SV,SC,SF,SP]])).alloc (.cells 2 [.agg [L,U]])).get b4=some (.cells 2 [.agg [L,U]]):=by rw [AStore.get_alloc,if_pos (by rw [alloc_next]; omega)]
 have k0:KeepS σ ((σ.alloc (.cells 5 [.agg [(.sc (.int .i64 (n.clocks))),SV,SC,SF,SP]])).alloc (.cells 2 [.agg [L,U]])):=(KeepS.alloc _ _).trans (KeepS.alloc _ _)
 have n0:((σ.alloc (.cells 5 [.agg [(.sc (.int .i64 (n.clocks))),SV,SC,SF,SP]])).alloc (.cells 2 [.agg [L,U]])).next=b4+1:=by rw [alloc_next,alloc_next]; omega
 rw [<-hb3,<-hb4]
 generalize (σ.alloc (.cells 5 [.agg [(.sc (.int .i64 (n.clocks))),SV,SC,SF,SP]])).alloc (.cells 2 [.agg [L,U]])=τ at g3 g4 k0 n0 ⊢
 refine (hCh _).use ?_
 by_cases ha:actI n s l=0
 ·rw [ha]
  have hv:validB n=true:=by
   by_cases hc:checkB n s=true
   ·simp only [checkB,Bool.and_eq_true] at hc
    exact hc.1.1.1.1
   ·simp only [actI,hc,if_true] at ha
    cases ha
  have hvp:=valid_procs hv
  obtain ⟨C,hCn⟩:∃ C:Nat,n.clocks=C:=⟨n.clocks.toNat,by omega⟩
  have hCt:n.clocks.toNat=C:=by omega
  rw [hCn] at g3
  have hpk:=fun p hp=>prOk (n:=n) hv (p:=p) hp
  rw [hCt] at hpk ⊢
  simp -implicitDefEqProofs only [go_sem,g3,g4,kV,cV,iV,kC,cC,iC,kF,cF,iF,kP,cP,iP,kL,cL,iL,kU,cU,iU]
  refine vzf ?_
  simp -implicitDefEqProofs only [go_sem]
  refine Z_cut (ι:=Nat×Nat) (fun b=>[(2,S),(3,.ptr b3 0 0),(4,.ptr b4 0 0),(6,.slice b.1 0 C),(7,.slice b.2 0 C)]) (fun b σ1=>Bd σ σ1 (.agg [(.sc (.int .i64 (C))),SV,SC,SF,SP]) (.agg [L,U]) b3 b4 b.1 b.2 C (fun _=>0) (fun _=>0)) (fun _=>rfl) ?_ ?_
  ·have hrep:(List.range C).map (fun k=>iA 0)=List.replicate C (.sc (.int .i64 (0))):=by rw [List.map_const',List.length_range]; rfl
   have hcc:C<=8:=by omega
   have hq1:(b3=b4+1)=False:=eq_false (by omega)
   have hq2:(b3=b4+1+1)=False:=eq_false (by omega)
   have hif:(0<=(C:Int)/\((8:Nat):Int)*(C:Int)<=2 ^ 48/\(C:Int) < 2 ^ 62)=True:=eq_true ⟨by omega,by omega,by omega⟩
   simp -implicitDefEqProofs only [go_sem]
   ((try (refine Z_seq ?_; (try simp -implicitDefEqProofs only [go_sem]))); refine Z_drawT (by kernel_rfl) [0,1,3,4,2,6,5,7] [(7,127),(5,24),(6,7),(2,3),(4,8),(3,0),(1,1),(0,0)] (.one 0 (.one 1 (.one 3 (.one 4 (.two 2 (.one 6 (.one 5 (.one 7 .fin))) 5 (.one 2 (.one 6 (.one 7 .fin)))))))) (by kernel_rfl) (by kernel_rfl) (by kernel_rfl) ?_)
   simp -implicitDefEqProofs only [go_sem,g3,g4,kV,cV,iV,kC,cC,iC,kF,cF,iF,kP,cP,iP,kL,cL,iL,kU,cU,iU,n0,hif,hq1,hq2]
   have key:∀ (z:ABlk),z=.cells 1 (List.replicate C (.sc (.int .i64 (0))))->∀ b b',(b=b4+1/\b'=b4+1+1\/b'=b4+1/\b=b4+1+1)->Bd σ ((τ.alloc z).alloc z) (.agg [(.sc (.int .i64 (C))),SV,SC,SF,SP]) (.agg [L,U]) b3 b4 b b' C (fun _=>0) (fun _=>0):=by
    rintro z rfl b b' hbb
    have q1:((τ.alloc (.cells 1 (List.replicate C (.sc (.int .i64 (0)))))).alloc (.cells 1 (List.replicate C (.sc (.int .i64 (0)))))).get (b4+1)=some (.cells 1 (List.replicate C (.sc (.int .i64 (0))))):=by
     rw [AStore.get_alloc,if_neg (by rw [alloc_next]; omega),AStore.get_alloc,if_pos (by omega)]
    have q2:((τ.alloc (.cells 1 (List.replicate C (.sc (.int .i64 (0)))))).alloc (.cells 1 (List.replicate C (.sc (.int .i64 (0)))))).get (b4+1+1)=some (.cells 1 (List.replicate C (.sc (.int .i64 (0))))):=by
     rw [AStore.get_alloc,if_pos (by rw [alloc_next]; omega)]
    have k2:KeepS τ ((τ.alloc (.cells 1 (List.replicate C (.sc (.int .i64 (0)))))).alloc (.cells 1 (List.replicate C (.sc (.int .i64 (0)))))):=(KeepS.alloc _ _).trans (KeepS.alloc _ _)
    rw [<-hrep] at q1 q2 k2 ⊢
    refine ⟨k2.2 _ _ g3,k2.2 _ _ g4,?_,?_,by omega,by omega,by omega,by omega,by omega,k0.trans k2⟩
    ·rcases hbb with ⟨rfl,rfl⟩|⟨rfl,rfl⟩
     ·exact q1
     ·exact q2
    ·rcases hbb with ⟨rfl,rfl⟩|⟨rfl,rfl⟩
     ·exact q2
     ·exact q1
   refine ⟨⟨(b4+1,b4+1+1),key _ rfl _ _ (.inl ⟨rfl,rfl⟩),by (repeat' (first|exact trivial|refine ⟨rfl,?_⟩))⟩,⟨(b4+1+1,b4+1),key _ rfl _ _ (.inr ⟨rfl,rfl⟩),by (repeat' (first|exact trivial|refine ⟨rfl,?_⟩))⟩⟩
  ·rintro ⟨b6,b7⟩ σ1 hB
   simp only at hB
   clear g3 g4 k0 n0
   have gg:=hB.g3
   have hC8:C<=8:=by omega
   simp -implicitDefEqProofs only [go_sem,gg,kV,cV,iV,kC,cC,iC,kF,cF,iF,kP,cP,iP]
   (try (repeat' first|(refine vy ?_ ?_<;>rintro ⟨hd,hq⟩<;>first|(exfalso; omega)|simp -implicitDefEqProofs only [go_sem,hd]|skip)|refine vz ?_|simp -implicitDefEqProofs only [go_sem,gg,kV,cV,iV,kC,cC,iC,kF,cF,iF,kP,cP,iP]))
   refine vlp (ι:=Nat) (fun x=>[(2,S),(3,.ptr b3 0 0),(4,.ptr b4 0 0),(6,.slice b6 0 C),(7,.slice b7 0 C),(32,(.sc (.int .i64 (C)))),(33,(.sc (.int .i64 (x))))]) (fun x σ1=>x<=C/\Bd σ σ1 (.agg [(.sc (.int .i64 (C))),SV,SC,SF,SP]) (.agg [L,U]) b3 b4 b6 b7 C (mixF (fun _=>-1) (fun _=>0) x) (mixF (fun _=>-1) (fun _=>0) x)) (fun x=>C - x) (fun _=>rfl) 0 ?_ ?_ ?_
   ·(repeat' (first|exact trivial|refine ⟨rfl,?_⟩))
   ·exact ⟨Nat.zero_le _,(hB.e6 fun k _=>by simp [mixF]).e7 fun k _=>by simp [mixF]⟩
   clear hB gg
   rintro x σ2 ⟨hx,hB⟩
   have gg:=hB.g3
   have r6:σ2.get b6=some (.cells 1 _):=hB.r6
   have r7:σ2.get b7=some (.cells 1 _):=hB.r7
   have h67:=hB.h4
   have h76:=h67.symm
   have l6:=AStore.lt_of_get r6
   have l7:=AStore.lt_of_get r7
   simp -implicitDefEqProofs only [go_sem]
   ((first|refine vz2 ?_ ?_|refine vz3 ?_ ?_)<;>intro hxl)
   ·have hxC:x < C:=by omega
    have hw:=wrapS (i:=x) (by omega)
    have rC:(List.range C)[x]?=some x:=List.getElem?_range hxC
    (repeat' first|(refine vy ?_ ?_<;>rintro ⟨hd,hq⟩<;>first|(exfalso; omega)|simp -implicitDefEqProofs only [go_sem,hd]|skip)|refine vz ?_|simp -implicitDefEqProofs only [go_sem,r6,r7,h67,h76,l6,l7,ixSl_own hxC,hw,rC,iA])
    have h1:=hB.w6 (hB.r6.set (k:=x) (-1)) set_next fun d y hd hg=>by rw [AStore.get_set,if_neg (fun h=>hd h.1)]; exact hg
    have h2:=h1.w7 (h1.r7.set (k:=x) (-1)) set_next fun d y hd hg=>by rw [AStore.get_set,if_neg (fun h=>hd h.1)]; exact hg
    have hm:=mixF_succ (fun _=>-1) (fun _=>0) x
    rw [hm] at h2
    exact ⟨x+1,by dsimp only; omega,⟨by omega,h2⟩,by (repeat' (first|exact trivial|refine ⟨rfl,?_⟩))⟩
   ·obtain rfl:C=x:=by omega
    (repeat' first|(refine vy ?_ ?_<;>rintro ⟨hd,hq⟩<;>first|(exfalso; omega)|simp -implicitDefEqProofs only [go_sem,hd]|skip)|refine vz ?_|simp -implicitDefEqProofs only [go_sem,gg,kV,cV,iV,kC,cC,iC,kF,cF,iF,kP,cP,iP,hPn])
    have hB0:=(hB.e6 (f':=bndP n s false 0) fun k hk=>by simp [mixF,hk,bndP]).e7 (f':=bndP n s true 0) fun k hk=>by simp [mixF,hk,bndP]
    clear hB r6 r7 gg
    have hcb:checkB n s=true:=by
     cases hc:checkB n s with
     | true=>rfl
     | false=>simp only [actI,hc,if_true] at ha; cases ha
    refine vlp (ι:=Nat) (fun j=>[(2,S),(3,.ptr b3 0 0),(4,.ptr b4 0 0),(6,.slice b6 0 C),(7,.slice b7 0 C),(44,SP),(45,(.sc (.int .i64 (n.procs.length)))),(46,(.sc (.int .i64 (j))))]) (fun j σ1=>j<=n.procs.length/\Bd σ σ1 (.agg [(.sc (.int .i64 (C))),SV,SC,SF,SP]) (.agg [L,U]) b3 b4 b6 b7 C (bndP n s false j) (bndP n s true j)) (fun j=>n.procs.length - j) (fun _=>rfl) 0 ?_ ?_ ?_
    ·(repeat' (first|exact trivial|refine ⟨rfl,?_⟩))
    ·exact ⟨Nat.zero_le _,hB0⟩
    clear hB0
    rintro j σ3 ⟨hj,hB⟩
    simp -implicitDefEqProofs only [go_sem]
    ((first|refine vz2 ?_ ?_|refine vz3 ?_ ?_)<;>intro hjl)
    ·obtain ⟨p,hp⟩:∃ p,n.procs[j]?=some p:=⟨n.procs[j]'(by omega),by simp⟩
     obtain ⟨e,he,hpv⟩:=hPat j p hp
     have hie:=fun (σ:AStore)=>hP1.idx (σ:=σ) (k:=.i64) he
     have hpm:=List.mem_of_getElem? hp
     have hpo:=hpk p hpm
     obtain ⟨m,hm,y,hy,_⟩:=check_loc hcb hp
     have hml:m < p.locs.length:=(List.getElem?_eq_some_iff.1 hy).1
     have hm':(s.locs.map iA)[j]?=some (iA m):=by rw [List.getElem?_map,hm]; rfl
     have him:=fun (σ:AStore)=>hL.idx (σ:=σ) (k:=.i64) hm'
     have hwj:=wrapS (i:=j) (by omega)
     have hSo:=fun (w:WD) (σ:AStore)=>solvedC (w:=w) (σ:=σ) hpv hpo (by omega)
     obtain ⟨SL,SE,rfl,hSL,hSE,ini⟩:=hpv
     obtain ⟨lels,hL1,hLl,hLat⟩:=hSL.at'
     obtain ⟨eels,hE1,hEl,hEat⟩:=hSE.at'
     have kSL:=hL1.fit
     have cSL:=hL1.cells
     have iSL:=hL1.isCell
     have kSE:=hE1.fit
     have cSE:=hE1.cells
     have iSE:=hE1.isCell
     have gx:∀ y z,((σ3.alloc y).set σ3.next z).get σ3.next=some z:=fun y z=>by rw [AStore.get_set,if_pos ⟨rfl,by simp only [alloc_next]; omega⟩]
     have gb3:∀ y z,((σ3.alloc y).set σ3.next z).get b3=some (.cells 5 [(.agg [(.sc (.int .i64 (C))),SV,SC,SF,SP])]):=fun y z=>get_al hB.g3
     (repeat' first|(refine vy ?_ ?_<;>rintro ⟨hd,hq⟩<;>first|(exfalso; omega)|simp -implicitDefEqProofs only [go_sem,hd]|skip)|refine vz ?_|simp -implicitDefEqProofs only [go_sem,hie,kSL,cSL,iSL,kSE,cSE,iSE,gx,gb3,kV,cV,iV,kC,cC,iC,kF,cF,iF,kP,cP,iP])
     have hB1:=hB.al (.cells 3 [.agg [(.sc (.int .i64 (0))),(.sc (.slice none 0 0)),(.sc (.slice none 0 0))]]) (.cells 3 [.agg [(.sc (.int .i64 (p.ini))),SL,SE]])
     generalize (σ3.alloc (.cells 3 [.agg [(.sc (.int .i64 (0))),(.sc (.slice none 0 0)),(.sc (.slice none 0 0))]])).set σ3.next (.cells 3 [.agg [(.sc (.int .i64 (p.ini))),SL,SE]])=σ4 at hB1 ⊢
     refine (hSo _ _).mono ?_
     rintro _ σ5 ⟨c4,c5,f4,f5,rfl,ht4,ht5,hl4,hl5,hk,hn4,hn5⟩
     have hB2:=hB1.keep hk
     have c6:=AStore.lt_of_get hB1.r6
     have c7:=AStore.lt_of_get hB1.r7
     have gg:=hB2.g3
     simp -implicitDefEqProofs only [go_sem,gg,kV,cV,iV,kC,cC,iC,kF,cF,iF,kP,cP,iP]
     (try (repeat' first|(refine vy ?_ ?_<;>rintro ⟨hd,hq⟩<;>first|(exfalso; omega)|simp -implicitDefEqProofs only [go_sem,hd]|skip)|refine vz ?_|simp -implicitDefEqProofs only [go_sem,gg,kV,cV,iV,kC,cC,iC,kF,cF,iF,kP,cP,iP]))
     clear hB hB1
     refine vlp (ι:=Nat) (fun x=>[(2,S),(3,.ptr b3 0 0),(4,.ptr b4 0 0),(6,.slice b6 0 C),(7,.slice b7 0 C),(11,(.sc (.int .i64 (j)))),(13,.slice c4 0 p.locs.length),(14,.slice c5 0 p.locs.length),(44,SP),(45,(.sc (.int .i64 (n.procs.length)))),(46,(.sc (.int .i64 (j)))),(59,(.sc (.int .i64 (C)))),(60,(.sc (.int .i64 (x))))]) (fun x σ1=>x<=C/\Bd σ σ1 (.agg [(.sc (.int .i64 (C))),SV,SC,SF,SP]) (.agg [L,U]) b3 b4 b6 b7 C (mixF (bndP n s false (j+1)) (bndP n s false j) x) (mixF (bndP n s true (j+1)) (bndP n s true j) x)/\Tb σ1 c4 p.locs.length C f4/\Tb σ1 c5 p.locs.length C f5) (fun x=>C - x) (fun _=>rfl) 0 ?_ ?_ ?_
     ·(repeat' (first|exact trivial|refine ⟨rfl,?_⟩))
     ·exact ⟨Nat.zero_le _,(hB2.e6 fun k _=>by simp [mixF]).e7 fun k _=>by simp [mixF],ht4,ht5⟩
     clear hB2 gg ht4 ht5 hk
     rintro x σ6 ⟨hx,hB,ht4,ht5⟩
     simp -implicitDefEqProofs only [go_sem]
     ((first|refine vz2 ?_ ?_|refine vz3 ?_ ?_)<;>intro hxl)
     ·have hxC:x < C:=by omega
      have hw:=wrapS (i:=x) (by omega)
      have rC:(List.range C)[x]?=some x:=List.getElem?_range hxC
      have r6:σ6.get b6=some (.cells 1 _):=hB.r6
      have g4:=hB.g4
      have s4:=ht4.1
      have s4m:=ht4.2 m hml
      have t3:∀ b:Nat,((List.range p.locs.length).map fun i=>AVal.slice (b+1+i) 0 C)[m]?=some (.slice (b+1+m) 0 C):=fun b=>by rw [List.getElem?_map,List.getElem?_range hml]; rfl
      (repeat' first|(refine vy ?_ ?_<;>rintro ⟨hd,hq⟩<;>first|(exfalso; omega)|simp -implicitDefEqProofs only [go_sem,hd]|skip)|refine vz ?_|simp -implicitDefEqProofs only [go_sem])
      ((try (refine Z_seq ?_; (try simp -implicitDefEqProofs only [go_sem]))); refine Z_draw (by kernel_rfl) [0,1,2,3,4,5,6,7,8,9,10,11,12,13,14,15] [(15,32767),(14,16376),(13,8184),(12,4088),(11,0),(10,1016),(9,504),(8,240),(7,112),(6,0),(5,16),(4,0),(3,0),(2,3),(1,0),(0,0)] (by kernel_rfl) (by kernel_rfl) ?_)
      simp -implicitDefEqProofs only [go_sem,r6,g4,kL,cL,iL,kU,cU,iU,him,iA,s4,s4m,t3,ixSl_own hml,ixSl_own hxC,rC]
      refine (rwRaise (.inr ⟨true,rfl⟩) hB.r6 hxC).mono ?_
      rintro _ σ7 ⟨rfl,hr7,hn7,hk7⟩
      refine .inr ?_
      have hB7:=hB.w6 hr7 hn7 hk7
      have ht4':=ht4.keep fun d y h1 h2 hg=>hk7 d y (by omega) hg
      have ht5':=ht5.keep fun d y h1 h2 hg=>hk7 d y (by omega) hg
      have r7:σ7.get b7=some (.cells 1 _):=hB7.r7
      have g4':=hB7.g4
      have s5:=ht5'.1
      have s5m:=ht5'.2 m hml
      simp -implicitDefEqProofs only [go_sem]
      (try (repeat' first|(refine vy ?_ ?_<;>rintro ⟨hd,hq⟩<;>first|(exfalso; omega)|simp -implicitDefEqProofs only [go_sem,hd]|skip)|refine vz ?_|simp -implicitDefEqProofs only [go_sem]))
      ((try (refine Z_seq ?_; (try simp -implicitDefEqProofs only [go_sem]))); refine Z_draw (by kernel_rfl) [0,1,2,3,4,5,6,7,8,9,10,11,12,13,14,15] [(15,32767),(14,16376),(13,8184),(12,4088),(11,0),(10,1016),(9,504),(8,240),(7,112),(6,0),(5,16),(4,0),(3,0),(2,3),(1,0),(0,0)] (by kernel_rfl) (by kernel_rfl) ?_)
      simp -implicitDefEqProofs only [go_sem,r7,g4',kL,cL,iL,kU,cU,iU,him,iA,s5,s5m,t3,ixSl_own hml,ixSl_own hxC,rC]
      refine (rwRaise (.inr ⟨true,rfl⟩) hB7.r7 hxC).mono ?_
      rintro _ σ8 ⟨rfl,hr8,hn8,hk8⟩
      refine .inr ?_
      have hB8:=hB7.w7 hr8 hn8 hk8
      have e6:max (mixF (bndP n s false (j+1)) (bndP n s false j) x x) (f4 m x)=bndP n s false (j+1) x:=by rw [mixF_at,hl4.eq hml hxC,bndP_succ hp hm,hCt]
      have e7:max (mixF (bndP n s true (j+1)) (bndP n s true j) x x) (f5 m x)=bndP n s true (j+1) x:=by rw [mixF_at,hl5.eq hml hxC,bndP_succ hp hm,hCt]
      rw [e6,e7,mixF_succ,mixF_succ] at hB8
      simp -implicitDefEqProofs only [go_sem,hw]
      (try (repeat' first|(refine vy ?_ ?_<;>rintro ⟨hd,hq⟩<;>first|(exfalso; omega)|simp -implicitDefEqProofs only [go_sem,hd]|skip)|refine vz ?_|simp -implicitDefEqProofs only [go_sem,hw]))
      exact ⟨x+1,by dsimp only; omega,⟨by omega,hB8,ht4'.keep fun d y h1 h2 hg=>hk8 d y (by omega) hg,ht5'.keep fun d y h1 h2 hg=>hk8 d y (by omega) hg⟩,by (repeat' (first|exact trivial|refine ⟨rfl,?_⟩))⟩
     ·obtain rfl:C=x:=by omega
      (repeat' first|(refine vy ?_ ?_<;>rintro ⟨hd,hq⟩<;>first|(exfalso; omega)|simp -implicitDefEqProofs only [go_sem,hd]|skip)|refine vz ?_|simp -implicitDefEqProofs only [go_sem,hwj])
      refine ⟨j+1,by dsimp only; omega,⟨by omega,(hB.e6 fun k hk=>by simp [mixF,hk]).e7 fun k hk=>by simp [mixF,hk]⟩,by (repeat' (first|exact trivial|refine ⟨rfl,?_⟩))⟩
    ·obtain rfl:j=n.procs.length:=by omega
     have gg:=hB.g3
     (repeat' first|(refine vy ?_ ?_<;>rintro ⟨hd,hq⟩<;>first|(exfalso; omega)|simp -implicitDefEqProofs only [go_sem,hd]|skip)|refine vz ?_|simp -implicitDefEqProofs only [go_sem,hSn])
     have hok':=hok
     refine vlp (ι:=Nat) (fun q=>[(2,S),(3,.ptr b3 0 0),(4,.ptr b4 0 0),(6,.slice b6 0 C),(7,.slice b7 0 C),(97,S),(98,(.sc (.int .i64 (l.length)))),(99,(.sc (.int .i64 (q))))]) (fun q σ1=>q<=l.length/\Bd σ σ1 (.agg [(.sc (.int .i64 (C))),SV,SC,SF,SP]) (.agg [L,U]) b3 b4 b6 b7 C ((l.take q).foldl raP (bndP n s false n.procs.length)) ((l.take q).foldl raP (bndP n s true n.procs.length))) (fun q=>l.length - q) (fun _=>rfl) 0 ?_ ?_ ?_
     ·(repeat' (first|exact trivial|refine ⟨rfl,?_⟩))
     ·exact ⟨Nat.zero_le _,hB⟩
     clear hB gg
     rintro q σ4 ⟨hq,hB⟩
     simp -implicitDefEqProofs only [go_sem]
     ((first|refine vz2 ?_ ?_|refine vz3 ?_ ?_)<;>intro hql)
     ·obtain ⟨x,hx⟩:∃ x,l[q]?=some x:=⟨l[q]'(by omega),by simp⟩
      have hx':(l.map cnA)[q]?=some (cnA x):=by rw [List.getElem?_map,hx]; rfl
      have hix:=fun (σ:AStore)=>hS.idx (σ:=σ) (k:=.i64) hx'
      have hwq:=wrapS (i:=q) (by omega)
      have hft:=fun f=>fold_take f hx
      have hex:exB n x=true:=by
       have hall:l.all (exB n)=true:=by
        by_cases h1:100 < l.length
        ·simp only [actI,hcb,Bool.true_eq_false,if_false,if_pos h1] at ha
         cases ha
        ·cases h2:l.all (exB n) with
         | true=>rfl
         | false=>
          simp only [actI,hcb,Bool.true_eq_false,if_false,if_neg h1,h2,Bool.false_eq_true] at ha
          cases ha
       exact List.all_eq_true.1 hall x (List.mem_of_getElem? hx)
      simp only [exB,Bool.and_eq_true,decide_eq_true_eq] at hex
      obtain ⟨k,hk⟩:∃ k:Nat,x.k=(k:Int)+1:=⟨(x.k - 1).toNat,by omega⟩
      have hkC:k < C:=by omega
      have hwk:IntKind.i64.wrap (((k:Int)+1) - 1)=(k:Int):=by rw [wrap64 (by omega) (by omega)]; omega
      have gx:∀ y z,((σ4.alloc y).set σ4.next z).get σ4.next=some z:=fun y z=>by rw [AStore.get_set,if_pos ⟨rfl,by simp only [alloc_next]; omega⟩]
      obtain ⟨xk,xl,xs,xc⟩:=x
      simp only at hk
      subst hk
      (repeat' first|(refine vy ?_ ?_<;>rintro ⟨hd,hq⟩<;>first|(exfalso; omega)|simp -implicitDefEqProofs only [go_sem,hd]|skip)|refine vz ?_|simp -implicitDefEqProofs only [go_sem,hix,cnA,gx])
      have hB1:=hB.al (.cells 4 [.agg [(.sc (.int .i64 (0))),(.sc (.bool (false))),(.sc (.bool (false))),(.sc (.int .i64 (0)))]]) (.cells 4 [.agg [(.sc (.int .i64 ((k:Int)+1))),(.sc (.bool (xl))),(.sc (.bool (xs))),(.sc (.int .i64 (xc)))]])
      have gz:=gx (.cells 4 [.agg [(.sc (.int .i64 (0))),(.sc (.bool (false))),(.sc (.bool (false))),(.sc (.int .i64 (0)))]]) (.cells 4 [.agg [(.sc (.int .i64 ((k:Int)+1))),(.sc (.bool (xl))),(.sc (.bool (xs))),(.sc (.int .i64 (xc)))]])
      have l6:=AStore.lt_of_get hB.r6
      have l7:=AStore.lt_of_get hB.r7
      obtain ⟨cx,hcx⟩:∃ c,c=σ4.next:=⟨_,rfl⟩
      rw [<-hcx] at hB1 gz l6 l7 ⊢
      generalize (σ4.alloc (.cells 4 [.agg [(.sc (.int .i64 (0))),(.sc (.bool (false))),(.sc (.bool (false))),(.sc (.int .i64 (0)))]])).set cx (.cells 4 [.agg [(.sc (.int .i64 ((k:Int)+1))),(.sc (.bool (xl))),(.sc (.bool (xs))),(.sc (.int .i64 (xc)))]])=σ5 at hB1 gz ⊢
      have r6:σ5.get b6=some (.cells 1 _):=hB1.r6
      ((try (refine Z_seq ?_; (try simp -implicitDefEqProofs only [go_sem]))); refine Z_draw (by kernel_rfl) [0,1,2,3,4,5,6,7,8] [(8,255),(7,96),(6,32),(5,0),(4,15),(3,6),(2,2),(1,0),(0,0)] (by kernel_rfl) (by kernel_rfl) ?_)
      simp -implicitDefEqProofs only [go_sem,gz,r6,hwk,ixSl_own hkC]
      refine (rwRaise (.inr ⟨true,rfl⟩) hB1.r6 hkC).mono ?_
      rintro _ σ7 ⟨rfl,hr7,hn7,hk7⟩
      refine .inr ?_
      have hB7:=hB1.w6 hr7 hn7 hk7
      have gz7:=hk7 cx _ (by omega) gz
      have r7:σ7.get b7=some (.cells 1 _):=hB7.r7
      simp -implicitDefEqProofs only [go_sem]
      (try (repeat' first|(refine vy ?_ ?_<;>rintro ⟨hd,hq⟩<;>first|(exfalso; omega)|simp -implicitDefEqProofs only [go_sem,hd]|skip)|refine vz ?_|simp -implicitDefEqProofs only [go_sem]))
      ((try (refine Z_seq ?_; (try simp -implicitDefEqProofs only [go_sem]))); refine Z_draw (by kernel_rfl) [0,1,2,3,4,5,6,7,8] [(8,255),(7,96),(6,32),(5,0),(4,15),(3,6),(2,2),(1,0),(0,0)] (by kernel_rfl) (by kernel_rfl) ?_)
      simp -implicitDefEqProofs only [go_sem,gz7,r7,hwk,ixSl_own hkC]
      refine (rwRaise (.inr ⟨true,rfl⟩) hB7.r7 hkC).mono ?_
      rintro _ σ8 ⟨rfl,hr8,hn8,hk8⟩
      refine .inr ?_
      have hB8:=hB7.w7 hr8 hn8 hk8
      rw [rset_raP (x:=⟨(k:Int)+1,xl,xs,xc⟩) rfl,rset_raP (x:=⟨(k:Int)+1,xl,xs,xc⟩) rfl,<-hft,<-hft] at hB8
      simp -implicitDefEqProofs only [go_sem,hwq]
      (try (repeat' first|(refine vy ?_ ?_<;>rintro ⟨hd,hq⟩<;>first|(exfalso; omega)|simp -implicitDefEqProofs only [go_sem,hd]|skip)|refine vz ?_|simp -implicitDefEqProofs only [go_sem,hwq]))
      exact ⟨q+1,by dsimp only; omega,⟨by omega,hB8⟩,by (repeat' (first|exact trivial|refine ⟨rfl,?_⟩))⟩
     ·obtain rfl:q=l.length:=by omega
      rw [List.take_length] at hB
      (repeat' first|(refine vy ?_ ?_<;>rintro ⟨hd,hq⟩<;>first|(exfalso; omega)|simp -implicitDefEqProofs only [go_sem,hd]|skip)|refine vz ?_|simp -implicitDefEqProofs only [go_sem])
      exact ⟨hB.ks,.inr ⟨b6,b7,rfl,by have:=hB.h1; have:=hB.h2; omega,by have:=hB.h1; have:=hB.h3; omega,hB.h4,hB.r6,hB.r7⟩⟩
 ·have e1:decide (actI n s l=0)=false:=dcf ha
  (repeat' first|(refine vy ?_ ?_<;>rintro ⟨hd,hq⟩<;>first|(exfalso; omega)|simp -implicitDefEqProofs only [go_sem,hd]|skip)|refine vz ?_|simp -implicitDefEqProofs only [go_sem,e1])
  exact ⟨k0,.inl ha⟩
theorem shEx:shape Tryz.prog 63=.struct [3,9,2,61]:=by kernel_rfl
theorem shExs:shape Tryz.prog 61=.slice 63 4 true:=by kernel_rfl
theorem shSs:shape Tryz.prog 81=.slice 9 1 false:=by kernel_rfl
theorem shFcs:shape Tryz.prog 24=.slice 113 3 true:=by kernel_rfl
theorem shFc:shape Tryz.prog 113=.struct [9,81,111]:=by kernel_rfl
theorem shSts:shape Tryz.prog 111=.slice 117 8 true:=by kernel_rfl
theorem shSt:shape Tryz.prog 117=.struct [3,9,63,111,111]:=by kernel_rfl
theorem shI:shape Tryz.prog 3=.int .i64:=by kernel_rfl
theorem shI64:shape Tryz.prog 2=.int .i64:=by kernel_rfl
theorem shS:shape Tryz.prog 9=.str:=by kernel_rfl
theorem shB:shape Tryz.prog 4=.bool:=by kernel_rfl
theorem byEx:Tryz.prog.bytesOf 63=56:=by kernel_rfl
theorem byS:Tryz.prog.bytesOf 9=16:=by kernel_rfl
theorem bySt:Tryz.prog.bytesOf 117=128:=by kernel_rfl
theorem byFc:Tryz.prog.bytesOf 113=64:=by kernel_rfl
theorem tw_int {P:Program} {n t:Nat} {vs:List AVal} (hs:shape P t=.int .i64) (h:HasTyW P n t vs):∃ m,in64 m/\vs=[(.sc (.int .i64 (m)))]:=by
 cases n with
 | zero=>exact h.elim
 | succ n=>
  unfold HasTyW at h
  rw [hs] at h
  obtain ⟨m,hw,h⟩:=h
  refine ⟨m,?_,h⟩
  have:(Lit.int .i64 m).wf=true:=hw
  simp [Lit.wf,IntKind.min,IntKind.max,IntKind.signed,IntKind.bits] at this
  exact ⟨by omega,by omega⟩
theorem tw_str {P:Program} {n t:Nat} {vs:List AVal} (hs:shape P t=.str) (h:HasTyW P n t vs):∃ s:ByteArray,s.size<=281474976710656/\vs=[.sc (.string s)]:=by
 cases n with
 | zero=>exact h.elim
 | succ n=>
  unfold HasTyW at h
  rw [hs] at h
  obtain ⟨s,hw,h⟩:=h
  exact ⟨s,by omega,h⟩
theorem tw_struct {P:Program} {n t:Nat} {ts:List TypeId} {vs:List AVal} (hs:shape P t=.struct ts) (h:HasTyW P (n+1) t vs):HasL (HasTyW P n) P ts vs:=by
 unfold HasTyW at h
 rw [hs] at h
 exact h
/-- A slice that came in. -/
theorem tw_slice {P:Program} {n t e c by':Nat} {agg:Bool} {vs:List AVal} (hs:shape P t=.slice e c agg) (hb:P.bytesOf e=by') (h0:0 < by') (h:HasTyW P (n+1) t vs):
  ∃ (S:AVal) (els:List AVal),vs=[S]/\IsD c S els/\els.length<=281474976710656/\∀ x∈els,HasTyW P n e x.cells/\x.cells.length=c/\x.isAgg=agg:=by
 unfold HasTyW at h
 rw [hs] at h
 rcases h with h|⟨a,c,h⟩|⟨els,_,_,hlen,h,hels⟩
 ·exact ⟨_,[],h,.inl ⟨rfl,_,_,rfl⟩,by simp,by simp⟩
 ·exact ⟨_,[],h,.inl ⟨rfl,_,_,rfl⟩,by simp,by simp⟩
 ·rw [hb] at hlen
  exact ⟨_,els,h,.inr ⟨_,rfl⟩,by have:=Nat.le_mul_of_pos_right els.length h0; omega,hels⟩
theorem names_of {n:Nat} {els:List AVal} (h:∀ x∈els,HasTyW Tryz.prog n 9 x.cells/\x.cells.length=1/\x.isAgg=false):∃ g:List ByteArray,els=g.map sA/\∀ s∈g,s.size<=281474976710656:=by
 induction els with
 | nil=>exact ⟨[],rfl,by simp⟩
 | cons x els ih=>
  obtain ⟨g,rfl,hg⟩:=ih fun y hy=>h y (by simp [hy])
  obtain ⟨h1,_,h2⟩:=h x (by simp)
  obtain ⟨s,hs,he⟩:=tw_str shS h1
  have:=one_of h2 he
  subst this
  exact ⟨s::g,rfl,by intro t ht; rcases List.mem_cons.1 ht with rfl|ht; exact hs; exact hg t ht⟩
theorem is_names {n:Nat} {vs:List AVal} (h:HasTyW Tryz.prog n 81 vs):∃ (S:AVal) (g:List ByteArray),vs=[S]/\IsD 1 S (g.map sA)/\g.length<=281474976710656/\∀ s∈g,s.size<=281474976710656:=by
 cases n with
 | zero=>exact h.elim
 | succ n=>
  obtain ⟨S,els,h1,h2,h3,h4⟩:=tw_slice shSs byS (by decide) h
  obtain ⟨g,rfl,hg⟩:=names_of h4
  exact ⟨S,g,h1,h2,by rw [List.length_map] at h3; exact h3,hg⟩
theorem is_ex (n:Nat):(∀ vs,HasTyW Tryz.prog n 63 vs->∃ x,IsEx x (.agg vs))/\(∀ vs,HasTyW Tryz.prog n 61 vs->∃ S els xs,vs=[S]/\IsD 4 S els/\IsExs xs els/\els.length<=281474976710656):=by
 induction n with
 | zero=>exact ⟨fun vs h=>h.elim,fun vs h=>h.elim⟩
 | succ n ih=>
  constructor
  ·intro vs h
   obtain ⟨a1,r1,rfl,_,h1,a2,r2,rfl,_,h2,a3,r3,rfl,_,h3,a4,r4,rfl,_,h4,h5⟩:=tw_struct shEx h
   have h5:r4=[]:=h5
   subst h5
   obtain ⟨k,hk,rfl⟩:=tw_int shI h1
   obtain ⟨s,hs,rfl⟩:=tw_str shS h2
   obtain ⟨i,hi,rfl⟩:=tw_int shI64 h3
   obtain ⟨S,els,xs,rfl,hS,hx,hl⟩:=ih.2 _ h4
   refine ⟨.mk k s i xs,?_⟩
   simp only [IsEx]
   exact ⟨S,els,rfl,hS,hx,hk,hi,hs,hl⟩
  ·intro vs h
   obtain ⟨S,els,h1,h2,h3,h4⟩:=tw_slice shExs byEx (by decide) h
   have key:∃ xs,IsExs xs els:=by
    clear h2 h3
    induction els with
    | nil=>exact ⟨[],rfl⟩
    | cons x els ih2=>
     obtain ⟨xs,hxs⟩:=ih2 fun y hy=>h4 y (by simp [hy])
     obtain ⟨g1,_,g2⟩:=h4 x (by simp)
     obtain ⟨y,hy⟩:=ih.1 _ g1
     rw [<-agg_of g2 rfl] at hy
     exact ⟨y::xs,x,els,rfl,hy,hxs⟩
   obtain ⟨xs,hxs⟩:=key
   exact ⟨S,els,xs,h1,h2,hxs,h3⟩
theorem is_st (n:Nat):(∀ vs,HasTyW Tryz.prog n 117 vs->∃ x,IsSt x (.agg vs))/\(∀ vs,HasTyW Tryz.prog n 111 vs->∃ S els xs,vs=[S]/\IsD 8 S els/\IsSts xs els/\els.length<=281474976710656):=by
 induction n with
 | zero=>exact ⟨fun vs h=>h.elim,fun vs h=>h.elim⟩
 | succ n ih=>
  constructor
  ·intro vs h
   obtain ⟨a1,r1,rfl,_,h1,a2,r2,rfl,_,h2,a3,r3,rfl,_,h3,a4,r4,rfl,_,h4,a5,r5,rfl,_,h5,h6⟩:=tw_struct shSt h
   have h6:r5=[]:=h6
   subst h6
   obtain ⟨k,hk,rfl⟩:=tw_int shI h1
   obtain ⟨s,hs,rfl⟩:=tw_str shS h2
   obtain ⟨x,hx⟩:=(is_ex n).1 _ h3
   obtain ⟨SB,eb,xb,rfl,hB,hb,hlb⟩:=ih.2 _ h4
   obtain ⟨SE,ee,xe,rfl,hE,he,hle⟩:=ih.2 _ h5
   obtain ⟨ek,en,ei,ez⟩:=x
   simp only [IsEx] at hx
   obtain ⟨SA,ea,hv,hA,ha,hk2,hi2,hn2,hl2⟩:=hx
   injection hv with hv
   subst hv
   refine ⟨.mk k s (.mk ek en ei ez) xb xe,?_⟩
   simp only [IsSt]
   exact ⟨SA,SB,SE,ea,eb,ee,rfl,hA,ha,hB,hb,hE,he,hk,hk2,hi2,hs,hn2,hl2,hlb,hle⟩
  ·intro vs h
   obtain ⟨S,els,h1,h2,h3,h4⟩:=tw_slice shSts bySt (by decide) h
   have key:∃ xs,IsSts xs els:=by
    clear h2 h3
    induction els with
    | nil=>exact ⟨[],rfl⟩
    | cons x els ih2=>
     obtain ⟨xs,hxs⟩:=ih2 fun y hy=>h4 y (by simp [hy])
     obtain ⟨g1,_,g2⟩:=h4 x (by simp)
     obtain ⟨y,hy⟩:=ih.1 _ g1
     rw [<-agg_of g2 rfl] at hy
     exact ⟨y::xs,x,els,rfl,hy,hxs⟩
   obtain ⟨xs,hxs⟩:=key
   exact ⟨S,els,xs,h1,h2,hxs,h3⟩
theorem is_fc {n:Nat} {vs:List AVal} (h:HasTyW Tryz.prog (n+1) 113 vs):∃ f,IsFc f (.agg vs):=by
 obtain ⟨a1,r1,rfl,_,h1,a2,r2,rfl,_,h2,a3,r3,rfl,_,h3,h4⟩:=tw_struct shFc h
 have h4:r3=[]:=h4
 subst h4
 obtain ⟨s,hs,rfl⟩:=tw_str shS h1
 obtain ⟨SP,ps,rfl,hP,hlp,hsp⟩:=is_names h2
 obtain ⟨SB,eb,xb,rfl,hB,hb,hlb⟩:=(is_st n).2 _ h3
 exact ⟨⟨s,ps,xb⟩,SP,SB,eb,rfl,hP,hB,hb,hs,hsp,hlp,hlb⟩
theorem is_fcs {n:Nat} {vs:List AVal} (h:HasTyW Tryz.prog n 24 vs):∃ (S:AVal) (els:List AVal) (fs:List Fc),vs=[S]/\IsD 3 S els/\IsFcs fs els/\els.length<=281474976710656:=by
 cases n with
 | zero=>exact h.elim
 | succ n=>
  obtain ⟨S,els,h1,h2,h3,h4⟩:=tw_slice shFcs byFc (by decide) h
  have key:∃ fs,IsFcs fs els:=by
   clear h2 h3
   induction els with
   | nil=>exact ⟨[],rfl,fun j f h=>by simp at h⟩
   | cons x els ih2=>
    obtain ⟨xs,hxs⟩:=ih2 fun y hy=>h4 y (by simp [hy])
    obtain ⟨g1,_,g2⟩:=h4 x (by simp)
    cases n with
    | zero=>exact g1.elim
    | succ n=>
     obtain ⟨y,hy⟩:=is_fc g1
     rw [<-agg_of g2 rfl] at hy
     refine ⟨y::xs,by simp [hxs.len],fun j f hj=>?_⟩
     cases j with
     | zero=>simp at hj; subst hj; exact ⟨x,rfl,hy⟩
     | succ j=>simpa using hxs.at' j f (by simpa using hj)
  obtain ⟨fs,hfs⟩:=key
  exact ⟨S,els,fs,h1,h2,hfs,h3⟩
theorem shCn:shape Tryz.prog 46=.struct [3,4,4,2]:=by kernel_rfl
theorem shCns:shape Tryz.prog 32=.slice 46 4 true:=by kernel_rfl
theorem shRt:shape Tryz.prog 72=.struct [3,2]:=by kernel_rfl
theorem shRts:shape Tryz.prog 65=.slice 72 2 true:=by kernel_rfl
theorem shSg:shape Tryz.prog 70=.struct [3,63]:=by kernel_rfl
theorem shSgs:shape Tryz.prog 64=.slice 70 5 true:=by kernel_rfl
theorem shLc:shape Tryz.prog 60=.struct [3,32,2]:=by kernel_rfl
theorem shLcs:shape Tryz.prog 48=.slice 60 3 true:=by kernel_rfl
theorem shEg:shape Tryz.prog 67=.struct [3,3,32,63,3,4,64,65,2,3]:=by kernel_rfl
theorem shEgs:shape Tryz.prog 49=.slice 67 13 true:=by kernel_rfl
theorem shPr:shape Tryz.prog 51=.struct [3,48,49]:=by kernel_rfl
theorem shPrs:shape Tryz.prog 25=.slice 51 3 true:=by kernel_rfl
theorem shVr:shape Tryz.prog 89=.struct [9,2,2,2]:=by kernel_rfl
theorem shVrs:shape Tryz.prog 22=.slice 89 4 true:=by kernel_rfl
theorem shCh:shape Tryz.prog 122=.struct [9,4,4]:=by kernel_rfl
theorem shChs:shape Tryz.prog 23=.slice 122 3 true:=by kernel_rfl
theorem shNt:shape Tryz.prog 27=.struct [3,22,23,24,25]:=by kernel_rfl
theorem shIs:shape Tryz.prog 28=.slice 3 1 false:=by kernel_rfl
theorem shI64s:shape Tryz.prog 29=.slice 2 1 false:=by kernel_rfl
theorem shStt:shape Tryz.prog 31=.struct [28,29]:=by kernel_rfl
theorem byCn:Tryz.prog.bytesOf 46=24:=by kernel_rfl
theorem byRt:Tryz.prog.bytesOf 72=16:=by kernel_rfl
theorem bySg:Tryz.prog.bytesOf 70=64:=by kernel_rfl
theorem byLc:Tryz.prog.bytesOf 60=40:=by kernel_rfl
theorem byEg:Tryz.prog.bytesOf 67=176:=by kernel_rfl
theorem byPr:Tryz.prog.bytesOf 51=56:=by kernel_rfl
theorem byVr:Tryz.prog.bytesOf 89=40:=by kernel_rfl
theorem byCh:Tryz.prog.bytesOf 122=24:=by kernel_rfl
theorem byI:Tryz.prog.bytesOf 3=8:=by kernel_rfl
theorem byI64:Tryz.prog.bytesOf 2=8:=by kernel_rfl
theorem tw_bool {P:Program} {n t:Nat} {vs:List AVal} (hs:shape P t=.bool) (h:HasTyW P n t vs):∃ b,vs=[(.sc (.bool (b)))]:=by
 cases n with
 | zero=>exact h.elim
 | succ n=>
  unfold HasTyW at h
  rw [hs] at h
  exact h
/-- Elements of one kind, as a list of plain data. -/
theorem els_map {α:Type} {f:α->AVal} {ok:α->Prop} {els:List AVal} (h:∀ x∈els,∃ y,x=f y/\ok y):∃ l:List α,els=l.map f/\∀ y∈l,ok y:=by
 induction els with
 | nil=>exact ⟨[],rfl,by simp⟩
 | cons x els ih=>
  obtain ⟨l,rfl,hl⟩:=ih fun y hy=>h y (by simp [hy])
  obtain ⟨y,rfl,hy⟩:=h x (by simp)
  exact ⟨y::l,rfl,by intro t ht; rcases List.mem_cons.1 ht with rfl|ht; exact hy; exact hl t ht⟩
theorem els_rel {α:Type} {R:α->AVal->Prop} {els:List AVal} (h:∀ x∈els,∃ y,R y x):∃ l:List α,els.length=l.length/\∀ (j:Nat) y,l[j]?=some y->∃ e,els[j]?=some e/\R y e:=by
 induction els with
 | nil=>exact ⟨[],rfl,fun j y hy=>by simp at hy⟩
 | cons x els ih=>
  obtain ⟨l,hll,hl⟩:=ih fun y hy=>h y (by simp [hy])
  obtain ⟨y,hy⟩:=h x (by simp)
  refine ⟨y::l,by simp [hll],fun j z hz=>?_⟩
  cases j with
  | zero=>simp at hz; subst hz; exact ⟨x,rfl,hy⟩
  | succ j=>simpa using hl j z (by simpa using hz)
theorem tw_list {n t e c by':Nat} {vs:List AVal} {α:Type} {R:α->AVal->Prop} (hs:shape Tryz.prog t=.slice e c true) (hb:Tryz.prog.bytesOf e=by') (h0:0 < by') (hR:∀ n xs,HasTyW Tryz.prog n e xs->∃ y,R y (.agg xs)) (h:HasTyW Tryz.prog n t vs):
  ∃ (S:AVal) (l:List α),vs=[S]/\IsL c R l S:=by
 cases n with
 | zero=>exact h.elim
 | succ n=>
  obtain ⟨S,els,h1,h2,h3,h4⟩:=tw_slice hs hb h0 h
  obtain ⟨l,hl1,hl2⟩:=els_rel (R:=R) (els:=els) fun x hx=>by
   obtain ⟨g1,_,g2⟩:=h4 x hx
   obtain ⟨y,hy⟩:=hR _ _ g1
   rw [<-agg_of g2 rfl] at hy
   exact ⟨y,hy⟩
  exact ⟨S,l,h1,els,h2,hl1,by omega,hl2⟩
theorem tw_flat {n t e c by':Nat} {vs:List AVal} {α:Type} {f:α->AVal} {ok:α->Prop} (hs:shape Tryz.prog t=.slice e c true) (hb:Tryz.prog.bytesOf e=by') (h0:0 < by') (hR:∀ n xs,HasTyW Tryz.prog n e xs->∃ y,AVal.agg xs=f y/\ok y) (h:HasTyW Tryz.prog n t vs):
  ∃ (S:AVal) (l:List α),vs=[S]/\IsD c S (l.map f)/\l.length<=281474976710656/\∀ y∈l,ok y:=by
 cases n with
 | zero=>exact h.elim
 | succ n=>
  obtain ⟨S,els,h1,h2,h3,h4⟩:=tw_slice hs hb h0 h
  obtain ⟨l,rfl,hl2⟩:=els_map (f:=f) (ok:=ok) (els:=els) fun x hx=>by
   obtain ⟨g1,_,g2⟩:=h4 x hx
   obtain ⟨y,hy,hok⟩:=hR _ _ g1
   rw [<-agg_of g2 rfl] at hy
   exact ⟨y,hy,hok⟩
  exact ⟨S,l,h1,h2,by rw [List.length_map] at h3; exact h3,hl2⟩
theorem tw_ints {n t e by':Nat} {vs:List AVal} (hs:shape Tryz.prog t=.slice e 1 false) (he:shape Tryz.prog e=.int .i64) (hb:Tryz.prog.bytesOf e=by') (h0:0 < by') (h:HasTyW Tryz.prog n t vs):
  ∃ (S:AVal) (l:List Int),vs=[S]/\IsD 1 S (l.map iA)/\l.length<=281474976710656/\∀ y∈l,in64 y:=by
 cases n with
 | zero=>exact h.elim
 | succ n=>
  obtain ⟨S,els,h1,h2,h3,h4⟩:=tw_slice hs hb h0 h
  obtain ⟨l,rfl,hl2⟩:=els_map (f:=iA) (ok:=in64) (els:=els) fun x hx=>by
   obtain ⟨g1,_,g2⟩:=h4 x hx
   obtain ⟨m,hm,he⟩:=tw_int he g1
   exact ⟨m,one_of g2 he,hm⟩
  exact ⟨S,l,h1,h2,by rw [List.length_map] at h3; exact h3,hl2⟩
theorem is_cn (n:Nat) (xs:List AVal) (h:HasTyW Tryz.prog n 46 xs):∃ y,AVal.agg xs=cnA y/\cnOk y:=by
 cases n with
 | zero=>exact h.elim
 | succ n=>
  obtain ⟨a1,r1,rfl,_,h1,a2,r2,rfl,_,h2,a3,r3,rfl,_,h3,a4,r4,rfl,_,h4,h5⟩:=tw_struct shCn h
  have h5:r4=[]:=h5
  subst h5
  obtain ⟨k,hk,rfl⟩:=tw_int shI h1
  obtain ⟨b,rfl⟩:=tw_bool shB h2
  obtain ⟨d,rfl⟩:=tw_bool shB h3
  obtain ⟨c,hc,rfl⟩:=tw_int shI64 h4
  exact ⟨⟨k,b,d,c⟩,rfl,hk,hc⟩
theorem is_rt (n:Nat) (xs:List AVal) (h:HasTyW Tryz.prog n 72 xs):∃ y,AVal.agg xs=rtA y/\rtOk y:=by
 cases n with
 | zero=>exact h.elim
 | succ n=>
  obtain ⟨a1,r1,rfl,_,h1,a2,r2,rfl,_,h2,h5⟩:=tw_struct shRt h
  have h5:r2=[]:=h5
  subst h5
  obtain ⟨k,hk,rfl⟩:=tw_int shI h1
  obtain ⟨c,hc,rfl⟩:=tw_int shI64 h2
  exact ⟨⟨k,c⟩,rfl,hk,hc⟩
theorem is_vr (n:Nat) (xs:List AVal) (h:HasTyW Tryz.prog n 89 xs):∃ y,AVal.agg xs=vrA y/\vrOk y:=by
 cases n with
 | zero=>exact h.elim
 | succ n=>
  obtain ⟨a1,r1,rfl,_,h1,a2,r2,rfl,_,h2,a3,r3,rfl,_,h3,a4,r4,rfl,_,h4,h5⟩:=tw_struct shVr h
  have h5:r4=[]:=h5
  subst h5
  obtain ⟨s,hs,rfl⟩:=tw_str shS h1
  obtain ⟨b,hb,rfl⟩:=tw_int shI64 h2
  obtain ⟨d,hd,rfl⟩:=tw_int shI64 h3
  obtain ⟨c,hc,rfl⟩:=tw_int shI64 h4
  exact ⟨⟨s,b,d,c⟩,rfl,hs,hb,hd,hc⟩
theorem is_ch (n:Nat) (xs:List AVal) (h:HasTyW Tryz.prog n 122 xs):∃ y,AVal.agg xs=chA y/\y.nm.size<=281474976710656:=by
 cases n with
 | zero=>exact h.elim
 | succ n=>
  obtain ⟨a1,r1,rfl,_,h1,a2,r2,rfl,_,h2,a3,r3,rfl,_,h3,h5⟩:=tw_struct shCh h
  have h5:r3=[]:=h5
  subst h5
  obtain ⟨s,hs,rfl⟩:=tw_str shS h1
  obtain ⟨b,rfl⟩:=tw_bool shB h2
  obtain ⟨d,rfl⟩:=tw_bool shB h3
  exact ⟨⟨s,b,d⟩,rfl,hs⟩
theorem is_cns {n:Nat} {vs:List AVal} (h:HasTyW Tryz.prog n 32 vs):∃ (S:AVal) (l:List Cn),vs=[S]/\IsCns l S:=by
 obtain ⟨S,l,h1,h2,h3,h4⟩:=tw_flat shCns byCn (by decide) is_cn h
 exact ⟨S,l,h1,h2,h3,h4⟩
theorem is_rts {n:Nat} {vs:List AVal} (h:HasTyW Tryz.prog n 65 vs):∃ (S:AVal) (l:List Rt),vs=[S]/\IsRts l S:=by
 obtain ⟨S,l,h1,h2,h3,h4⟩:=tw_flat shRts byRt (by decide) is_rt h
 exact ⟨S,l,h1,h2,h3,h4⟩
theorem is_sg (n:Nat) (xs:List AVal) (h:HasTyW Tryz.prog n 70 xs):∃ y,IsSg y (.agg xs):=by
 cases n with
 | zero=>exact h.elim
 | succ n=>
  obtain ⟨a1,r1,rfl,_,h1,a2,r2,rfl,_,h2,h5⟩:=tw_struct shSg h
  have h5:r2=[]:=h5
  subst h5
  obtain ⟨k,hk,rfl⟩:=tw_int shI h1
  obtain ⟨x,hx⟩:=(is_ex n).1 _ h2
  exact ⟨⟨k,x⟩,a2,by simp,hx,hk⟩
theorem is_lc (n:Nat) (xs:List AVal) (h:HasTyW Tryz.prog n 60 xs):∃ y,IsLc y (.agg xs):=by
 cases n with
 | zero=>exact h.elim
 | succ n=>
  obtain ⟨a1,r1,rfl,_,h1,a2,r2,rfl,_,h2,a3,r3,rfl,_,h3,h5⟩:=tw_struct shLc h
  have h5:r3=[]:=h5
  subst h5
  obtain ⟨k,hk,rfl⟩:=tw_int shI h1
  obtain ⟨S,l,rfl,hS⟩:=is_cns h2
  obtain ⟨c,hc,rfl⟩:=tw_int shI64 h3
  exact ⟨⟨k,l,c⟩,S,rfl,hS,hk,hc⟩
theorem is_eg (n:Nat) (xs:List AVal) (h:HasTyW Tryz.prog n 67 xs):∃ y,IsEg y (.agg xs):=by
 cases n with
 | zero=>exact h.elim
 | succ n=>
  obtain ⟨a1,r1,rfl,_,h1,a2,r2,rfl,_,h2,a3,r3,rfl,_,h3,a4,r4,rfl,l4,h4,a5,r5,rfl,_,h5,a6,r6,rfl,_,h6,a7,r7,rfl,_,h7,a8,r8,rfl,_,h8,a9,r9,rfl,_,h9,a10,r10,rfl,_,h10,h11⟩:=tw_struct shEg h
  have h11:r10=[]:=h11
  subst h11
  obtain ⟨fr,i1,rfl⟩:=tw_int shI h1
  obtain ⟨to,i2,rfl⟩:=tw_int shI h2
  obtain ⟨G,gd,rfl,hG⟩:=is_cns h3
  obtain ⟨x,hx⟩:=(is_ex n).1 _ h4
  obtain ⟨ch,i3,rfl⟩:=tw_int shI h5
  obtain ⟨snd,rfl⟩:=tw_bool shB h6
  obtain ⟨SS,ss,rfl,hSS⟩:=tw_list shSgs bySg (by decide) is_sg h7
  obtain ⟨SR,rs,rfl,hSR⟩:=is_rts h8
  obtain ⟨cost,i4,rfl⟩:=tw_int shI64 h9
  obtain ⟨kind,i5,rfl⟩:=tw_int shI h10
  have hx0:=hx
  obtain ⟨ek,en,ei,ez⟩:=x
  simp only [IsEx] at hx
  obtain ⟨SA,ea,hv,hA,ha,hk2,hi2,hn2,hl2⟩:=hx
  injection hv with hv
  subst hv
  exact ⟨⟨fr,to,gd,.mk ek en ei ez,ch,snd,ss,rs,cost,kind⟩,G,_,_,_,_,SS,SR,rfl,hG,hx0,hSS,hSR,i1,i2,i3,i4,i5⟩
theorem is_pr (n:Nat) (xs:List AVal) (h:HasTyW Tryz.prog n 51 xs):∃ y,IsPr y (.agg xs):=by
 cases n with
 | zero=>exact h.elim
 | succ n=>
  obtain ⟨a1,r1,rfl,_,h1,a2,r2,rfl,_,h2,a3,r3,rfl,_,h3,h5⟩:=tw_struct shPr h
  have h5:r3=[]:=h5
  subst h5
  obtain ⟨k,hk,rfl⟩:=tw_int shI h1
  obtain ⟨SL,ll,rfl,hL⟩:=tw_list shLcs byLc (by decide) is_lc h2
  obtain ⟨SE,le,rfl,hE⟩:=tw_list shEgs byEg (by decide) is_eg h3
  exact ⟨⟨k,ll,le⟩,SL,SE,rfl,hL,hE,hk⟩
theorem is_nt {n:Nat} {xs:List AVal} (h:HasTyW Tryz.prog n 27 xs):∃ y,IsNt y (.agg xs):=by
 cases n with
 | zero=>exact h.elim
 | succ n=>
  obtain ⟨a1,r1,rfl,_,h1,a2,r2,rfl,_,h2,a3,r3,rfl,_,h3,a4,r4,rfl,_,h4,a5,r5,rfl,_,h5,h6⟩:=tw_struct shNt h
  have h6:r5=[]:=h6
  subst h6
  obtain ⟨k,hk,rfl⟩:=tw_int shI h1
  obtain ⟨SV,lv,rfl,hV⟩:=tw_flat shVrs byVr (by decide) is_vr h2
  obtain ⟨SC,lc,rfl,hC⟩:=tw_flat shChs byCh (by decide) is_ch h3
  obtain ⟨SF,fels,fs,rfl,hF,hFs,hlf⟩:=is_fcs h4
  obtain ⟨SP,lp,rfl,hP⟩:=tw_list shPrs byPr (by decide) is_pr h5
  exact ⟨⟨k,lv,lc,fs,lp⟩,SV,SC,SF,SP,fels,rfl,hk,hV,hC,hF,hFs,hlf,hP⟩
theorem is_stt {n:Nat} {xs:List AVal} (h:HasTyW Tryz.prog n 31 xs):∃ y,IsStt y (.agg xs):=by
 cases n with
 | zero=>exact h.elim
 | succ n=>
  obtain ⟨a1,r1,rfl,_,h1,a2,r2,rfl,_,h2,h6⟩:=tw_struct shStt h
  have h6:r2=[]:=h6
  subst h6
  obtain ⟨S1,l1,rfl,hL⟩:=tw_ints shIs shI byI (by decide) h1
  obtain ⟨S2,l2,rfl,hV⟩:=tw_ints shI64s shI64 byI64 (by decide) h2
  exact ⟨⟨l1,l2⟩,S1,S2,rfl,hL,hV⟩
end Abs
end
