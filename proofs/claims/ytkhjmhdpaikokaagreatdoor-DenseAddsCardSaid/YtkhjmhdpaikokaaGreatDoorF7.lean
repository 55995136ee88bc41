/-
  Functions of the program walked: each is shown to compute a plain function (F7).
-/
import Derived.Test.YtkhjmhdpaikokaaGreatDoorF1
set_option linter.unusedSimpArgs false
set_option linter.unusedVariables false
set_option maxRecDepth 100000
set_option maxHeartbeats 16000000
set_option linter.unusedSectionVars false
noncomputable section
namespace Abs
open Go Go.Proofs
theorem makeR_valid {a d:Int} (h:(makeR a d).2=0):validR (makeR a d).1=true:=by
 unfold makeR at h ⊢
 by_cases hd:d=0
 ·rw [if_pos hd] at h; simp at h
 ·rw [if_neg hd] at h ⊢
  have hg:0 < Nat.gcd a.natAbs d.natAbs:=Nat.gcd_pos_of_pos_right _ (by omega)
  have hco:=Nat.coprime_div_gcd_div_gcd hg
  have hdp:0 < d.natAbs / Nat.gcd a.natAbs d.natAbs:=Nat.div_pos (Nat.le_of_dvd (by omega) (Nat.gcd_dvd_right _ _)) hg
  dsimp only at h ⊢
  generalize a.natAbs / Nat.gcd a.natAbs d.natAbs=p at*
  generalize d.natAbs / Nat.gcd a.natAbs d.natAbs=q at*
  split at h
  ·simp at h
  ·rename_i hs
   rw [if_neg hs]
   simp only [validR,Bool.and_eq_true,decide_eq_true_eq]
   refine ⟨vom,vom,?_,?_⟩
   ·split<;>omega
   ·split<;>simpa [Nat.Coprime] using hco
theorem addR_valid {x y:Int×Int} (h:(addR x y).2=0):validR (addR x y).1=true:=by
 unfold addR at h ⊢
 by_cases hv:(validR x && validR y)=true
 ·rw [if_pos hv] at h ⊢; exact makeR_valid h
 ·rw [if_neg hv] at h; simp at h
def addsE (b:Int×Int) (l:List (Int×Int)):Int:=match l.find? fun x=>!decide ((addR x b).2=0) with
 | some x=>(addR x b).2
 | none=>0
theorem find_at {α:Type} {p:α->Bool}:∀ {l:List α} {i:Nat} {x:α},(∀ j y,j < i->l[j]?=some y->p y=false)->l[i]?=some x->p x=true->l.find? p=some x
  | [],i,x,_,h,_=>by simp at h
  | a :: l, 0, x, _, h, hp => by
      simp at h
      subst h
      simp [hp]
  | a :: l, i + 1, x, hb, h, hp => by
      have h0:=hb 0 a (by omega) rfl
      rw [List.find?_cons,h0]
      exact find_at (i:=i) (fun j y hj hy=>hb (j+1) y (by omega) (by simpa using hy)) (by simpa using h) hp
theorem addsE_bad {b:Int×Int} {l:List (Int×Int)} {i:Nat} {x:Int×Int} (hb:∀ j y,j < i->l[j]?=some y->(addR y b).2=0) (h:l[i]?=some x) (hp:(addR x b).2≠0):addsE b l=(addR x b).2:=by
 unfold addsE
 rw [find_at (i:=i) (fun j y hj hy=>by simp [hb j y hj hy]) h (by simp [hp])]
theorem addsE_good {b:Int×Int} {l:List (Int×Int)} (h:∀ x∈l,(addR x b).2=0):addsE b l=0:=by
 unfold addsE
 rw [List.find?_eq_none.2 fun x hx=>by simp [h x hx]]
theorem addsE_zero {b:Int×Int} {l:List (Int×Int)} (h:addsE b l=0):∀ x∈l,(addR x b).2=0:=by
 unfold addsE at h
 cases hf:l.find? fun x=>!decide ((addR x b).2=0) with
 | none=>
  intro x hx
  have:=List.find?_eq_none.1 hf x hx
  simpa using this
 | some y=>
  rw [hf] at h
  have:=List.find?_some hf
  simp [h] at this
def zDn:Dn:=⟨⟨[],[]⟩,[]⟩
def adds (b:Int×Int) (l:List (Int×Int)):List (Int×Int):=l.map fun x=>(addR x b).1
def waitP (n:Nt) (s:Dn) (b:Int×Int):Dn×Int:=
 if dckB n s=false then (zDn,2) else if validR b=false\/b.1 < 0 then (zDn,2) else if b.1=0 then (s,0) else if stillB n s.d=true then (zDn,9)
 else if addsE b s.cl≠0 then (zDn,addsE b s.cl) else if holdsB (invsB n s.d) (adds b s.cl)=true then (⟨s.d,adds b s.cl⟩,0) else (zDn,9)
def RWt (p:Dn×Int) (r:AVal):Prop:=∃ v,r=.tuple [v,(.sc (.int .i64 (p.2)))]/\IsDn p.1 v
def qv (x:Int×Int):Rat:=(x.1:Rat) / (x.2:Rat)
theorem ipos {b:Int} (h:0 < b):(0:Rat) < (b:Rat):=by
 have:=Rat.intCast_lt_intCast.2 h
 simpa using this
theorem q_lt {a b c d:Int} (hb:0 < b) (hd:0 < d):(a:Rat) / (b:Rat) < (c:Rat) / (d:Rat) ↔ a*d < c*b:=by
 have e:(c:Rat) / (d:Rat)*(b:Rat)=((c:Rat)*(b:Rat)) / (d:Rat):=by
  rw [Rat.div_def,Rat.div_def,Rat.mul_assoc,Rat.mul_comm _ (b:Rat),<-Rat.mul_assoc]
 rw [Rat.div_lt_iff (ipos hb),e,Rat.lt_div_iff (ipos hd),<-Rat.intCast_mul,<-Rat.intCast_mul,Rat.intCast_lt_intCast]
theorem q_eq {a b c d:Int} (hb:0 < b) (hd:0 < d):(a:Rat) / (b:Rat)=(c:Rat) / (d:Rat) ↔ a*d=c*b:=by
 have h1:=q_lt (a:=a) (c:=c) hb hd
 have h2:=q_lt (a:=c) (c:=a) hd hb
 constructor
 ·intro h
  rw [h] at h1 h2
  have:=Rat.lt_irrefl (a:=(c:Rat) / (d:Rat))
  have i1:¬ a*d < c*b:=fun h=>this (h1.2 h)
  have i2:¬ c*b < a*d:=fun h=>this (h2.2 h)
  omega
 ·intro h
  have i1:¬ (a:Rat) / (b:Rat) < (c:Rat) / (d:Rat):=fun h'=>by have:=h1.1 h'; omega
  have i2:¬ (c:Rat) / (d:Rat) < (a:Rat) / (b:Rat):=fun h'=>by have:=h2.1 h'; omega
  exact Rat.le_antisymm (Rat.not_lt.1 i2) (Rat.not_lt.1 i1)
theorem sgn_lt {x y:Int×Int} (hx:0 < x.2) (hy:0 < y.2):sgn x y < 0 ↔ qv x < qv y:=by
 unfold qv
 rw [q_lt hx hy]
 unfold sgn
 split
 ·simp [*]
 ·split<;>simp [*]
theorem sgn_eq {x y:Int×Int} (hx:0 < x.2) (hy:0 < y.2):sgn x y=0 ↔ qv x=qv y:=by
 unfold qv
 rw [q_eq hx hy]
 unfold sgn
 split
 ·constructor
  ·intro h; cases h
  ·intro h; omega
 ·split
  ·constructor
   ·intro h; cases h
   ·intro h; omega
  ·constructor
   ·intro _; omega
   ·intro _; rfl
theorem qv_canon {x y:Int×Int} (hx:validR x=true) (hy:validR y=true) (h:qv x=qv y):x=y:=by
 simp only [validR,Bool.and_eq_true,decide_eq_true_eq] at hx hy
 obtain ⟨x1,x2⟩:=x
 obtain ⟨y1,y2⟩:=y
 obtain ⟨a1,_,_,a2⟩:=hx
 obtain ⟨b1,_,_,b2⟩:=hy
 dsimp only at*
 unfold qv at h
 rw [q_eq a1 b1] at h
 dsimp only at h
 have hn:x1.natAbs*y2.natAbs=y1.natAbs*x2.natAbs:=by rw [<-Int.natAbs_mul,<-Int.natAbs_mul,h]
 have d1:x2.natAbs ∣ y2.natAbs:=(Nat.Coprime.symm a2).dvd_of_dvd_mul_left ⟨y1.natAbs,by rw [hn,Nat.mul_comm]⟩
 have d2:y2.natAbs ∣ x2.natAbs:=(Nat.Coprime.symm b2).dvd_of_dvd_mul_left ⟨x1.natAbs,by rw [<-hn,Nat.mul_comm]⟩
 have e:x2.natAbs=y2.natAbs:=Nat.dvd_antisymm d1 d2
 obtain rfl:x2=y2:=by omega
 have:=Int.eq_of_mul_eq_mul_right (by omega:x2≠0) h
 rw [this]
theorem makeR_val {a d:Int} (hd:0 < d) (h:(makeR a d).2=0):0 < (makeR a d).1.2/\(makeR a d).1.1*d=a*(makeR a d).1.2:=by
 unfold makeR at h ⊢
 rw [if_neg (by omega)] at h ⊢
 dsimp only at h ⊢
 have hg:0 < Nat.gcd a.natAbs d.natAbs:=Nat.gcd_pos_of_pos_right _ (by omega)
 obtain ⟨p,hp⟩:=Nat.gcd_dvd_left a.natAbs d.natAbs
 obtain ⟨q,hq⟩:=Nat.gcd_dvd_right a.natAbs d.natAbs
 generalize Nat.gcd a.natAbs d.natAbs=g at*
 have e1:a.natAbs / g=p:=by rw [hp]; exact Nat.mul_div_cancel_left _ hg
 have e2:d.natAbs / g=q:=by rw [hq]; exact Nat.mul_div_cancel_left _ hg
 rw [e1,e2] at h ⊢
 split at h
 ·simp at h
 rename_i hs
 rw [if_neg hs]
 dsimp only
 have hd':d=(g:Int)*(q:Int):=by rw [<-Int.natCast_mul,<-hq]; omega
 have hqp:0 < q:=by
  rcases Nat.eq_zero_or_pos q with h0|h0
  ·rw [h0] at hd'; simp at hd'; omega
  ·exact h0
 refine ⟨vom,?_⟩
 have hda:decide (d < 0)=false:=dcf (by omega)
 rw [hda]
 by_cases ha:a < 0
 ·rw [dct ha]
  have:a=-((g:Int)*(p:Int)):=by rw [<-Int.natCast_mul,<-hp]; omega
  rw [this,hd']
  simp only [reduceCtorEq,if_false,Int.neg_mul,Int.neg_inj]
  rw [Int.mul_comm (g:Int) p,Int.mul_assoc]
 ·rw [dcf ha]
  have:a=(g:Int)*(p:Int):=by rw [<-Int.natCast_mul,<-hp]; omega
  rw [this,hd']
  simp only [if_true]
  rw [Int.mul_comm (g:Int) p,Int.mul_assoc]
theorem makeR_7 {a d:Int} (hd:d≠0):(makeR a d).2=0\/(makeR a d).2=7:=by
 unfold makeR
 rw [if_neg hd]
 dsimp only
 split
 ·exact .inr rfl
 ·exact .inl rfl
theorem valid_pos {x:Int×Int} (h:validR x=true):0 < x.2:=(validR_b h).1
theorem addR_val {x y:Int×Int} (h:(addR x y).2=0):validR x=true/\validR y=true/\validR (addR x y).1=true/\qv (addR x y).1=qv x+qv y:=by
 have hv:=addR_valid h
 by_cases hb:(validR x && validR y)=true
 ·have hb':=hb
  rw [Bool.and_eq_true] at hb'
  refine ⟨hb'.1,hb'.2,hv,?_⟩
  have px:=valid_pos hb'.1
  have py:=valid_pos hb'.2
  unfold addR at h ⊢
  rw [if_pos hb] at h ⊢
  obtain ⟨h1,h2⟩:=makeR_val (Int.mul_pos px py) h
  have e:qv (makeR (x.1*y.2+y.1*x.2) (x.2*y.2)).1=((x.1*y.2+y.1*x.2:Int):Rat) / ((x.2*y.2:Int):Rat):=by
   unfold qv
   rw [q_eq h1 (Int.mul_pos px py)]
   exact h2
  rw [e]
  unfold qv
  have n1:(x.2:Rat)≠0:=Rat.ne_of_gt (ipos px)
  have n2:(y.2:Rat)≠0:=Rat.ne_of_gt (ipos py)
  rw [Rat.intCast_add,Rat.intCast_mul,Rat.intCast_mul,Rat.intCast_mul]
  grind
 ·unfold addR at h
  rw [if_neg hb] at h
  simp at h
theorem subR_val {x y:Int×Int} (h:(subR x y).2=0):validR x=true/\validR y=true/\validR (subR x y).1=true/\qv (subR x y).1=qv x - qv y:=by
 by_cases hb:(validR x && validR y)=true
 ·have hb':=hb
  rw [Bool.and_eq_true] at hb'
  have px:=valid_pos hb'.1
  have py:=valid_pos hb'.2
  unfold subR at h ⊢
  rw [if_pos hb] at h ⊢
  refine ⟨hb'.1,hb'.2,makeR_valid h,?_⟩
  obtain ⟨h1,h2⟩:=makeR_val (Int.mul_pos px py) h
  have e:qv (makeR (x.1*y.2 - y.1*x.2) (x.2*y.2)).1=((x.1*y.2 - y.1*x.2:Int):Rat) / ((x.2*y.2:Int):Rat):=by
   unfold qv
   rw [q_eq h1 (Int.mul_pos px py)]
   exact h2
  rw [e]
  unfold qv
  have n1:(x.2:Rat)≠0:=Rat.ne_of_gt (ipos px)
  have n2:(y.2:Rat)≠0:=Rat.ne_of_gt (ipos py)
  rw [Rat.intCast_sub,Rat.intCast_mul,Rat.intCast_mul,Rat.intCast_mul]
  grind
 ·unfold subR at h
  rw [if_neg hb] at h
  simp at h
theorem addR_7 {x y:Int×Int} (hx:validR x=true) (hy:validR y=true):(addR x y).2=0\/(addR x y).2=7:=by
 unfold addR
 rw [hx,hy]
 have:=Int.mul_pos (valid_pos hx) (valid_pos hy)
 exact makeR_7 (by omega)
theorem subR_7 {x y:Int×Int} (hx:validR x=true) (hy:validR y=true):(subR x y).2=0\/(subR x y).2=7:=by
 unfold subR
 rw [hx,hy]
 have:=Int.mul_pos (valid_pos hx) (valid_pos hy)
 exact makeR_7 (by omega)
theorem qv_pos {x:Int×Int} (hx:0 < x.2):(0<=x.1 ↔ 0<=qv x)/\(x.1=0 ↔ qv x=0):=by
 have e:qv (0,1)=0:=by unfold qv; simp [Rat.div_def]
 have h1:=sgn_lt (x:=x) (y:=(0,1)) hx (by decide)
 have h2:=sgn_eq (x:=x) (y:=(0,1)) hx (by decide)
 rw [e] at h1 h2
 unfold sgn at h1 h2
 simp only [Int.mul_one,Int.zero_mul] at h1 h2
 constructor
 ·rw [<-Rat.not_lt,<-h1]
  split
  ·simp; omega
  ·split<;>simp<;>omega
 ·rw [<-h2]
  split
  ·simp; omega
  ·split<;>simp<;>omega
def dOf (cl:List (Int×Int)) (c:Cn):(Int×Int)×Int:=subR (c.c,1) (ckAt cl c)
def mst (cl:List (Int×Int)) (a:Option ((Int×Int)×Bool)) (c:Cn):Option ((Int×Int)×Bool):=match a with
 | none=>some ((dOf cl c).1,!c.st)
 | some (b,t)=>if sgn (dOf cl c).1 b < 0 then some ((dOf cl c).1,!c.st) else if sgn (dOf cl c).1 b=0 then some (b,t && !c.st) else some (b,t)
def mosE (cl:List (Int×Int)) (l:List Cn):Int:=match l.find? fun c=>!decide ((dOf cl c).2=0) with
 | some c=>(dOf cl c).2
 | none=>0
def mosF (cl:List (Int×Int)) (l:List Cn):Option ((Int×Int)×Bool):=l.foldl (mst cl) none
def mostP (n:Nt) (s:Dn):((Int×Int)×Bool×Bool)×Int:=
 if dckB n s=false then (((0,0),false,false),2) else if stillB n s.d=true then (((0,1),true,false),0)
 else if invsB n s.d=[] then (((0,0),false,true),0)
 else if mosE s.cl (invsB n s.d)≠0 then (((0,0),false,false),mosE s.cl (invsB n s.d))
 else match mosF s.cl (invsB n s.d) with
  | some (b,t)=>((b,t,false),0)
  | none=>(((0,0),false,true),0)
theorem mosE_bad {cl:List (Int×Int)} {l:List Cn} {i:Nat} {x:Cn} (hb:∀ j y,j < i->l[j]?=some y->(dOf cl y).2=0) (h:l[i]?=some x) (hp:(dOf cl x).2≠0):mosE cl l=(dOf cl x).2:=by
 unfold mosE
 rw [find_at (i:=i) (fun j y hj hy=>by simp [hb j y hj hy]) h (by simp [hp])]
theorem mosE_good {cl:List (Int×Int)} {l:List Cn} (h:∀ x∈l,(dOf cl x).2=0):mosE cl l=0:=by
 unfold mosE
 rw [List.find?_eq_none.2 fun x hx=>by simp [h x hx]]
theorem mosE_zero {cl:List (Int×Int)} {l:List Cn} (h:mosE cl l=0):∀ x∈l,(dOf cl x).2=0:=by
 unfold mosE at h
 cases hf:l.find? fun c=>!decide ((dOf cl c).2=0) with
 | none=>
  intro x hx
  have:=List.find?_eq_none.1 hf x hx
  simpa using this
 | some y=>
  rw [hf] at h
  have:=List.find?_some hf
  simp [h] at this
/-- What a bound allows. -/
def und (q b:Rat) (t:Bool):Prop:=q < b\/q=b/\t=true
theorem und_mono {p q b:Rat} {t:Bool} (h:und q b t) (hp:p<=q):und p b t:=by
 unfold und at*
 grind
theorem und_less {q d b:Rat} {t u:Bool} (h:d < b):und q d u ↔ und q b t/\und q d u:=by
 unfold und
 grind
theorem und_same {q d b:Rat} {t u:Bool} (h:d=b):und q b (t && u) ↔ und q b t/\und q d u:=by
 unfold und
 cases t<;>cases u<;>grind
theorem mst_spec {cl : List (Int × Int)} : ∀ (l : List Cn) {b0 : Int × Int} {t0 : Bool}, validR b0 = true → (∀ c ∈ l, (dOf cl c).2 = 0) →
    ∃ b t,l.foldl (mst cl) (some (b0,t0))=some (b,t)/\validR b=true/\∀ q:Rat,und q (qv b) t ↔ und q (qv b0) t0/\∀ c∈l,und q (qv (dOf cl c).1) (!c.st)
  | [],b0,t0,hv,_=>⟨b0,t0,rfl,hv,fun q=>by simp⟩
  | c :: l, b0, t0, hv, h => by
      have hd:validR (dOf cl c).1=true:=(subR_val (h c (List.mem_cons_self ..))).2.2.1
      have hl:∀ c∈l,(dOf cl c).2=0:=fun x hx=>h x (List.mem_cons_of_mem _ hx)
      have e1:=sgn_lt (valid_pos hd) (valid_pos hv)
      have e2:=sgn_eq (valid_pos hd) (valid_pos hv)
      rw [List.foldl_cons]
      by_cases h1:sgn (dOf cl c).1 b0 < 0
      · obtain ⟨b,t,g1,g2,g3⟩:=mst_spec l (b0:=(dOf cl c).1) (t0:=!c.st) hd hl
        refine ⟨b,t,?_,g2,fun q=>?_⟩
        · rw [<-g1]; unfold mst; dsimp only; rw [if_pos h1]
        · have:=und_less (q:=q) (t:=t0) (u:=!c.st) (e1.1 h1)
          rw [g3 q,List.forall_mem_cons,<-and_assoc,<-this]
      · by_cases h2:sgn (dOf cl c).1 b0=0
        · obtain ⟨b,t,g1,g2,g3⟩:=mst_spec l (b0:=b0) (t0:=t0 && !c.st) hv hl
          refine ⟨b,t,?_,g2,fun q=>?_⟩
          · rw [<-g1]; show List.foldl (mst cl) (mst cl (some (b0,t0)) c) l=_; unfold mst; dsimp only; rw [if_neg h1,if_pos h2]
          · rw [g3 q,List.forall_mem_cons,und_same (e2.1 h2),and_assoc]
        · obtain ⟨b,t,g1,g2,g3⟩:=mst_spec l (b0:=b0) (t0:=t0) hv hl
          refine ⟨b,t,?_,g2,fun q=>?_⟩
          · rw [<-g1]; show List.foldl (mst cl) (mst cl (some (b0,t0)) c) l=_; unfold mst; dsimp only; rw [if_neg h1,if_neg h2]
          · have hlt:qv b0 < qv (dOf cl c).1:=by
              have i1:¬ qv (dOf cl c).1 < qv b0:=fun h=>h1 (e1.2 h)
              have i2:¬ qv (dOf cl c).1=qv b0:=fun h=>h2 (e2.2 h)
              grind
            rw [g3 q,List.forall_mem_cons]
            have:=und_less (q:=q) (t:=!c.st) (u:=t0) hlt
            grind
theorem ckAt_of {cl:List (Int×Int)} {c:Cn} {m:Nat} {x:Int×Int} (h:c.k=(m:Int)+1) (hx:cl[m]?=some x):ckAt cl c=x:=by
 unfold ckAt
 rw [show (c.k - 1).toNat=m by omega,hx]; rfl
theorem inv_up {n:Nt} {s:Stt} (hc:checkB n s=true):∀ c∈invsB n s,c.lo=false:=by
 intro c hcm
 have hvb:validB n=true:=by
  simp only [checkB,Bool.and_eq_true] at hc
  exact hc.1.1.1.1
 unfold invsB at hcm
 rw [List.mem_flatMap] at hcm
 obtain ⟨j,hj,hcj⟩:=hcm
 rw [List.mem_range] at hj
 obtain ⟨m,_,y,hy,hst⟩:=check_loc hc (List.getElem?_eq_getElem hj)
 rw [hst] at hcj
 simp only [validB,Bool.and_eq_true,List.all_eq_true] at hvb
 have h1:=hvb.2 _ (List.getElem_mem hj)
 simp only [prB,Bool.and_eq_true,List.all_eq_true] at h1
 have h2:=h1.1.2 y (List.mem_of_getElem? hy)
 simp only [lcB,Bool.and_eq_true,List.all_eq_true] at h2
 have h3:=h2.2 c hcj
 simp only [upB,Bool.and_eq_true,Bool.not_eq_true'] at h3
 exact h3.1.1
theorem dck_parts {n:Nt} {s:Dn} (h:dckB n s=true):checkB n s.d=true/\(s.cl.length:Int)=n.clocks/\(∀ x∈s.cl,validR x=true/\0<=x.1)/\holdsB (invsB n s.d) s.cl=true/\HoOk (invsB n s.d) s.cl:=by
 simp only [dckB,Bool.and_eq_true,decide_eq_true_eq,List.all_eq_true] at h
 obtain ⟨⟨⟨h1,h2⟩,h3⟩,h4,h5⟩:=h
 have hc:∀ x∈s.cl,validR x=true/\0<=x.1:=fun x hx=>by
  have:=h3 x hx
  unfold ckC at this
  simpa using this
 exact ⟨h4,h2,hc,h5,inv_ok h4 h2 fun x hx=>(hc x hx).1⟩
/-- A constraint holds for a clock. -/
def fitQ (cl:List (Int×Int)) (q:Rat) (c:Cn):Prop:=und (qv (ckAt cl c)+q) (qv (c.c,1)) (!c.st)
theorem meB_iff {cl:List (Int×Int)} {c:Cn} (hl:c.lo=false) (hp:0 < (ckAt cl c).2):meB cl c=true ↔ und (qv (ckAt cl c)) (qv (c.c,1)) (!c.st):=by
 unfold meB meetsP und
 rw [hl,<-sgn_lt hp (show 0 < ((c.c,1):Int×Int).2 from Int.one_pos),<-sgn_eq hp (show 0 < ((c.c,1):Int×Int).2 from Int.one_pos)]
 simp
theorem wait_core {n:Nt} {s:Dn} {b:Int×Int} (hck:dckB n s=true) (hb:validR b=true) (h0:0<=b.1) (h7:(waitP n s b).2≠7):
  ((waitP n s b).2=0 ↔ (b.1=0\/(stillB n s.d=false/\∀ c∈invsB n s.d,fitQ s.cl (qv b) c)))/\
  ((waitP n s b).2=0->(waitP n s b).1.d=s.d/\(waitP n s b).1.cl.length=s.cl.length/\(∀ (i:Nat) x y,s.cl[i]?=some x->(waitP n s b).1.cl[i]?=some y->qv y=qv x+qv b)/\dckB n (waitP n s b).1=true):=by
 obtain ⟨hc,hlen,hcl,hho,hok⟩:=dck_parts hck
 have hq:=(qv_pos (valid_pos hb)).2
 have e:waitP n s b=if b.1=0 then (s,0) else if stillB n s.d=true then (zDn,9) else if addsE b s.cl≠0 then (zDn,addsE b s.cl) else if holdsB (invsB n s.d) (adds b s.cl)=true then (⟨s.d,adds b s.cl⟩,0) else (zDn,9):=by
  rw [waitP,if_neg (by rw [hck]; simp),if_neg (by rw [hb]; simp; omega)]
 rw [e] at h7 ⊢
 by_cases hb0:b.1=0
 ·simp only [if_pos hb0]
  refine ⟨by simp [hb0],fun _=>⟨trivial,trivial,fun i x y hx hy=>?_,hck⟩⟩
  rw [hx] at hy
  injection hy with hy
  rw [<-hy,hq.1 hb0,Rat.add_zero]
 simp only [if_neg hb0] at h7 ⊢
 cases hst:stillB n s.d with
 | true=>simp [hb0]
 | false=>
  simp only [hst,Bool.false_eq_true,if_false] at h7 ⊢
  by_cases ha:addsE b s.cl=0
  rotate_left
  ·exfalso
   simp only [if_pos ha] at h7
   apply h7
   unfold addsE at ha ⊢
   cases hf:s.cl.find? fun x=>!decide ((addR x b).2=0) with
   | none=>rw [hf] at ha; exact absurd rfl ha
   | some x=>
    rw [hf] at ha
    rcases addR_7 (hcl x (List.mem_of_find?_eq_some hf)).1 hb with h|h
    ·exact absurd h ha
    ·exact h
  have hz:=addsE_zero ha
  simp only [ha,ne_eq,not_true_eq_false,if_false] at h7 ⊢
  have hlen':(adds b s.cl).length=s.cl.length:=by simp [adds]
  have hval:∀ (i:Nat) x y,s.cl[i]?=some x->(adds b s.cl)[i]?=some y->validR y=true/\qv y=qv x+qv b:=fun i x y hx hy=>by
   have hx':=hz x (List.mem_of_getElem? hx)
   unfold adds at hy
   rw [List.getElem?_map,hx] at hy
   injection hy with hy
   subst hy
   exact ⟨(addR_val hx').2.2.1,(addR_val hx').2.2.2⟩
  have hck2:∀ y∈adds b s.cl,validR y=true/\0<=y.1:=fun y hy=>by
   obtain ⟨i,hi,rfl⟩:=List.mem_iff_getElem.1 hy
   have hi':i < s.cl.length:=by omega
   obtain ⟨g1,g2⟩:=hval i _ _ (List.getElem?_eq_getElem hi') (List.getElem?_eq_getElem hi)
   refine ⟨g1,?_⟩
   rw [(qv_pos (valid_pos g1)).1,g2]
   have:=(qv_pos (valid_pos (hcl _ (List.getElem_mem hi')).1)).1.1 (hcl _ (List.getElem_mem hi')).2
   have:=(qv_pos (valid_pos hb)).1.1 h0
   grind
  have hho2:holdsB (invsB n s.d) (adds b s.cl)=true ↔ ∀ c∈invsB n s.d,fitQ s.cl (qv b) c:=by
   unfold holdsB
   rw [List.all_eq_true]
   refine forall_congr' fun c=>forall_congr' fun hcm=>?_
   obtain ⟨m,x,hk,hx,hat,_⟩:=hok.at hcm
   have hm:m < (adds b s.cl).length:=by have:=(List.getElem?_eq_some_iff.1 hx).1; omega
   have hy:=List.getElem?_eq_getElem hm
   obtain ⟨g1,g2⟩:=hval m _ _ hx hy
   have e2:=ckAt_of hk hy
   rw [meB_iff (inv_up hc c hcm) (by rw [e2]; exact valid_pos g1),e2,g2]
   unfold fitQ
   rw [hat]
  by_cases hh:holdsB (invsB n s.d) (adds b s.cl)=true
  ·simp only [if_pos hh]
   refine ⟨⟨fun _=>.inr ⟨trivial,hho2.1 hh⟩,fun _=>trivial⟩,fun _=>⟨trivial,hlen',fun i x y hx hy=>(hval i x y hx hy).2,?_⟩⟩
   simp only [dckB,Bool.and_eq_true,decide_eq_true_eq,List.all_eq_true] at hck ⊢
   refine ⟨⟨⟨hck.1.1.1,by rw [hlen',hlen]⟩,fun y hy=>?_⟩,hc,hh⟩
   unfold ckC
   obtain ⟨g1,g2⟩:=hck2 y hy
   rw [g1,dct g2]; rfl
  ·simp only [if_neg hh]
   refine ⟨?_,fun h=>absurd h (by decide)⟩
   constructor
   ·intro h; exact absurd h (by decide)
   ·rintro (h|h)
    ·exact absurd h hb0
    ·exact absurd (hho2.2 h.2) hh
theorem dn_ext {a b:Dn} (h1:a.d=b.d) (h2:a.cl=b.cl):a=b:=by
 cases a; cases b; cases h1; cases h2; rfl
theorem adds_main {n:Nt} {s:Dn} {b1 b2:Int×Int} (hck:dckB n s=true) (h0:(addR b1 b2).2=0) (h1:0<=b1.1) (h2:0<=b2.1)
  (he:(waitP n s b1).2≠7) (hf:(waitP n (waitP n s b1).1 b2).2≠7) (hg:(waitP n s (addR b1 b2).1).2≠7):
  (((waitP n s b1).2=0/\(waitP n (waitP n s b1).1 b2).2=0) ↔ (waitP n s (addR b1 b2).1).2=0)/\
  ((waitP n s (addR b1 b2).1).2=0->(waitP n (waitP n s b1).1 b2).1=(waitP n s (addR b1 b2).1).1/\dckB n (waitP n s (addR b1 b2).1).1=true):=by
 obtain ⟨v1,v2,v3,v4⟩:=addR_val h0
 obtain ⟨_,_,hcl,_,hok⟩:=dck_parts hck
 generalize (addR b1 b2).1=sm at*
 have p1:=qv_pos (valid_pos v1)
 have p2:=qv_pos (valid_pos v2)
 have p3:=qv_pos (valid_pos v3)
 have q1:=p1.1.1 h1
 have q2:=p2.1.1 h2
 have h3:0<=sm.1:=p3.1.2 (by rw [v4]; grind)
 obtain ⟨A1,A2⟩:=wait_core hck v1 h1 he
 obtain ⟨C1,C2⟩:=wait_core hck v3 h3 hg
 have hA:(waitP n s sm).2=0->(waitP n s b1).2=0:=fun h=>by
  rw [A1]
  rcases C1.1 h with h|⟨h,h'⟩
  ·refine .inl (p1.2.2 ?_)
   have:=p3.2.1 h
   grind
  ·refine .inr ⟨h,fun c hc=>und_mono (h' c hc) ?_⟩
   rw [v4]; grind
 have hB:(waitP n s b1).2=0->((waitP n (waitP n s b1).1 b2).2=0 ↔ (waitP n s sm).2=0)/\((waitP n (waitP n s b1).1 b2).2=0->(waitP n s sm).2=0->(waitP n (waitP n s b1).1 b2).1=(waitP n s sm).1):=fun hA0=>by
  obtain ⟨a1,a2,a3,a4⟩:=A2 hA0
  generalize waitP n s b1=A at*
  obtain ⟨B1,B2⟩:=wait_core a4 v2 h2 hf
  have hfit:∀ c∈invsB n s.d,(fitQ A.1.cl (qv b2) c ↔ fitQ s.cl (qv sm) c):=fun c hc=>by
   obtain ⟨m,x,hk,hx,hat,_⟩:=hok.at hc
   have hm:m < A.1.cl.length:=by have:=(List.getElem?_eq_some_iff.1 hx).1; omega
   have hy:=List.getElem?_eq_getElem hm
   unfold fitQ
   rw [hat,ckAt_of hk hy,a3 m _ _ hx hy,v4,Rat.add_assoc]
  rw [a1] at B1
  refine ⟨?_,fun hB0 hC0=>?_⟩
  ·rw [B1,C1]
   constructor
   ·rintro (h|⟨h,h'⟩)
    ·have z2:=p2.2.1 h
     rcases A1.1 hA0 with h4|⟨h4,h5⟩
     ·exact .inl (p3.2.2 (by rw [v4,p1.2.1 h4,z2,Rat.add_zero]))
     ·exact .inr ⟨h4,fun c hc=>by have:=h5 c hc; rwa [v4,z2,Rat.add_zero]⟩
    ·exact .inr ⟨h,fun c hc=>(hfit c hc).1 (h' c hc)⟩
   ·rintro (h|⟨h,h'⟩)
    ·refine .inl (p2.2.2 ?_)
     have:=p3.2.1 h
     grind
    ·exact .inr ⟨h,fun c hc=>(hfit c hc).2 (h' c hc)⟩
  ·obtain ⟨b1',b2',b3',b4'⟩:=B2 hB0
   obtain ⟨c1',c2',c3',c4'⟩:=C2 hC0
   have d1:=(dck_parts b4').2.2.1
   have d2:=(dck_parts c4').2.2.1
   refine dn_ext (by rw [b1',a1,c1']) (List.ext_getElem (by omega) fun i i1 i2=>?_)
   have i3:i < A.1.cl.length:=by omega
   have i4:i < s.cl.length:=by omega
   refine qv_canon (d1 _ (List.getElem_mem i1)).1 (d2 _ (List.getElem_mem i2)).1 ?_
   rw [b3' i _ _ (List.getElem?_eq_getElem i3) (List.getElem?_eq_getElem i1),a3 i _ _ (List.getElem?_eq_getElem i4) (List.getElem?_eq_getElem i3),c3' i _ _ (List.getElem?_eq_getElem i4) (List.getElem?_eq_getElem i2),v4,Rat.add_assoc]
 refine ⟨⟨fun ⟨x,y⟩=>(hB x).1.1 y,fun h=>⟨hA h,(hB (hA h)).1.2 h⟩⟩,fun h=>⟨(hB (hA h)).2 ((hB (hA h)).1.2 h) h,(C2 h).2.2.2⟩⟩
theorem most_main {n : Nt} {s : Dn} {b : Int × Int} (hck : dckB n s = true) (hb : validR b = true) (h0 : 0 ≤ b.1) (h7 : (waitP n s b).2 ≠ 7) :
    ((mostP n s).2≠0->(mostP n s).2=7)/\((mostP n s).2=0->(mostP n s).1.2.2=true->(waitP n s b).2=0)/\
    ((mostP n s).2=0->(mostP n s).1.2.2=false->validR (mostP n s).1.1=true/\((waitP n s b).2=0 ↔ (b.1=0\/sgn b (mostP n s).1.1 < 0\/sgn b (mostP n s).1.1=0/\(mostP n s).1.2.1=true))):=by
  obtain ⟨hc,hlen,hcl,hho,hok⟩:=dck_parts hck
  obtain ⟨W,_⟩:=wait_core hck hb h0 h7
  rw [W]
  have pb:=qv_pos (valid_pos hb)
  have e : mostP n s = if stillB n s.d = true then (((0, 1), true, false), 0) else if invsB n s.d = [] then (((0, 0), false, true), 0) else if mosE s.cl (invsB n s.d) ≠ 0 then (((0, 0), false, false), mosE s.cl (invsB n s.d))
      else match mosF s.cl (invsB n s.d) with
        | some (b,t)=>((b,t,false),0)
        | none=>(((0,0),false,true),0):=by
    rw [mostP,if_neg (by rw [hck]; simp)]
  rw [e]
  cases hst:stillB n s.d with
  | true=>
    simp only [if_true]
    refine ⟨fun h=>absurd rfl h,fun _ h=>(by simp at h),fun _ _=>⟨by decide,?_⟩⟩
    have s1:=sgn_lt (x:=b) (y:=(0,1)) (valid_pos hb) (by decide)
    have s2:=sgn_eq (x:=b) (y:=(0,1)) (valid_pos hb) (by decide)
    have ez:qv (0,1)=0:=by unfold qv; simp [Rat.div_def]
    rw [ez] at s1 s2
    have q1:=pb.1.1 h0
    rw [s1,s2,<-pb.2]
    constructor
    · rintro (h|h)
      · exact .inl h
      · simp at h
    · rintro (h|h|h)
      · exact .inl h
      · exfalso; grind
      · exact .inl h.1
  | false=>
    simp only [Bool.false_eq_true,if_false]
    by_cases hi:invsB n s.d=[]
    · simp only [if_pos hi]
      exact ⟨fun h=>absurd rfl h,fun _ _=>.inr ⟨trivial,by rw [hi]; simp⟩,fun _ h=>by simp at h⟩
    simp only [if_neg hi]
    by_cases hz:mosE s.cl (invsB n s.d)=0
    rotate_left
    · simp only [ne_eq,hz,not_false_eq_true,if_true]
      refine ⟨fun _=>?_,fun h=>h.elim,fun h=>h.elim⟩
      unfold mosE at hz ⊢
      cases hf:(invsB n s.d).find? fun c=>!decide ((dOf s.cl c).2=0) with
      | none=>rw [hf] at hz; exact absurd rfl hz
      | some c=>
        rw [hf] at hz
        have hcm:=List.mem_of_find?_eq_some hf
        obtain ⟨m,x,hk,hx,hat,hvx,_⟩:=hok.at hcm
        have:=hok.k c hcm
        rcases subR_7 (valid_whole this.2.1 this.2.2) (by rw [hat]; exact hvx:validR (ckAt s.cl c)=true) with h|h
        · exact absurd h hz
        · exact h
    have hall:=mosE_zero hz
    simp only [hz,ne_eq,not_true_eq_false,if_false]
    have hfit:∀ c∈invsB n s.d,(fitQ s.cl (qv b) c ↔ und (qv b) (qv (dOf s.cl c).1) (!c.st)):=fun c hcm=>by
      have:=(subR_val (hall c hcm)).2.2.2
      unfold dOf fitQ und
      rw [this]
      constructor<;>rintro (h|⟨h,h'⟩)
      · exact .inl (by grind)
      · exact .inr ⟨by grind,h'⟩
      · exact .inl (by grind)
      · exact .inr ⟨by grind,h'⟩
    obtain ⟨c0,l0,hl⟩:∃ c l,invsB n s.d=c::l:=by
      cases h:invsB n s.d with
      | nil=>exact absurd h hi
      | cons a b=>exact ⟨a,b,rfl⟩
    rw [hl] at hall hfit ⊢
    have hd:=(subR_val (hall c0 (List.mem_cons_self ..))).2.2.1
    obtain ⟨b',t,g1,g2,g3⟩:=mst_spec (cl:=s.cl) l0 (b0:=(dOf s.cl c0).1) (t0:=!c0.st) hd (fun x hx=>hall x (List.mem_cons_of_mem _ hx))
    have eF:mosF s.cl (c0::l0)=some (b',t):=by unfold mosF; rw [List.foldl_cons]; exact g1
    rw [eF]
    simp only [true_and,Bool.false_eq_true,false_implies,implies_true,not_true_eq_false]
    refine fun _ _=>⟨g2,?_⟩
    have:=g3 (qv b)
    rw [sgn_lt (valid_pos hb) (valid_pos g2),sgn_eq (valid_pos hb) (valid_pos g2)]
    have e2:(∀ c∈c0::l0,fitQ s.cl (qv b) c) ↔ und (qv b) (qv b') t:=by
      rw [this,<-List.forall_mem_cons (p:=fun c=>und (qv b) (qv (dOf s.cl c).1) (!c.st))]
      exact forall_congr' fun c=>forall_congr' fun hc=>hfit c hc
    rw [e2]
    rfl
theorem sgn0 (b:Int×Int):sgn b (0,1)=0 ↔ b.1=0:=by
 unfold sgn
 simp only [Int.mul_one,Int.zero_mul]
 split
 ·omega
 ·split<;>omega
/-- A list in local memory that is lent. -/
theorem lentL {E:Env} (hG:∀ g,WF 0 (E.G g)) {f:FuncId} {σ:AStore} {b sz:Nat} {els:List AVal} {pre post:List AVal} {v:AVal} (hv:∃ N,frz empty N v=some v/\(∀ τ,frz τ N v=some v/\ownV τ N v=true)) (hb:σ.get b=some (.cells sz els)) (h0:sz≠0) (de:Dats els) (dp:Dats pre) (dq:Dats post)
  (h:GivesV E f (pre++.data sz false els::post) v):ACalls E f (pre++.slice b 0 els.length::post) σ fun e σ'=>σ'=σ/\e=.ret v:=by
 obtain ⟨N,_,hN⟩:=hv
 obtain ⟨N1,h1⟩:=Dats.frz (σ:=σ.only [b]) dp
 obtain ⟨N2,h2⟩:=Dats.frz (σ:=σ.only [b]) dq
 obtain ⟨N4,h4⟩:=Dats.frz (σ:=σ.only [b]) de
 have hs:Abs.frz (σ.only [b]) (N1+N2+N4+1) (.slice b 0 els.length)=some (.data sz false els):=by
  rw [frz_slice,only_self hb,frzS_cells (by simp [h0]),List.drop_zero,List.take_of_length_le (by simp),h4 _ (by omega)]; rfl
 refine (ACalls.pureT hG (N:=N) (h empty) ?_ σ (bs:=[b]) (M:=N1+N2+N4+1) (mapO_app (h1 _ (by omega)) (by rw [mapO_cons',hs,h2 _ (by omega)]; rfl))).mono ?_
 ·rintro e σ0 ⟨rfl,rfl⟩
  exact ⟨.ret v,by simp [frzE,(hN _).1],(hN _).2⟩
 ·rintro e σ' ⟨h1,e0,σ0,⟨rfl,rfl⟩,h3⟩
  simp only [frzE,(hN _).1,Option.some.injEq] at h3
  exact ⟨h1,h3.symm⟩
theorem dats_rA (l:List (Int×Int)):Dats (l.map rA):=Dats.of fun e he=>by
 obtain ⟨x,_,rfl⟩:=List.mem_map.1 he
 exact .agg _ (.cons _ _ (.sc _) (.cons _ _ (.sc _) .nil))
theorem dats_cnA (l:List Cn):Dats (l.map cnA):=Dats.of fun e he=>by
 obtain ⟨x,_,rfl⟩:=List.mem_map.1 he
 exact .agg _ (.cons _ _ (.sc _) (.cons _ _ (.sc _) (.cons _ _ (.sc _) (.cons _ _ (.sc _) .nil))))
theorem adds_set {b:Int×Int} {l:List (Int×Int)} {i:Nat} {x:Int×Int} (hx:l[i]?=some x):
  ((adds b (l.take i)++l.drop i).map rA).set i (rA (addR x b).1)=(adds b (l.take (i+1))++l.drop (i+1)).map rA:=by
 have hi:=(List.getElem?_eq_some_iff.1 hx).1
 have hd:l.drop i=x::l.drop (i+1):=by
  rw [List.drop_eq_getElem_cons hi]
  congr 1
  rw [List.getElem?_eq_getElem hi] at hx
  injection hx
 have hl:(List.map rA (adds b (l.take i))).length=i:=by simp [adds]; omega
 rw [List.take_add_one,hx,hd,List.map_append,List.set_append_right _ _ (by omega),hl,Nat.sub_self]
 simp [adds]
/-- holds, where the clocks lie in own memory. -/
theorem holdsLC {w:WD} {σ:AStore} {m:Nat} {l:List Cn} {S C:AVal} {cl:List (Int×Int)} (hS:IsCns l S) (hC:Gc m σ 2 C (cl.map rA)) (hll:l.length<=1000000) (ho:HoOk l cl):
  ACalls (EE w) 33 [S,C] σ fun e σ'=>σ'=σ/\e=.ret (.sc (.bool (holdsB l cl))):=by
 have dS:Dat S:=hS.1.dat (dats_cnA l)
 rcases hC with ⟨he,rfl⟩|⟨b,_,rfl,hg⟩
 ·exact holdsC hS (.inr ⟨true,by rw [he]⟩) hll ho σ
 ·exact lentL (pre:=[S]) (post:=[]) gWF ⟨1,rfl,fun _=>⟨rfl,rfl⟩⟩ hg (by decide) (dats_rA cl) (.cons _ _ dS .nil) .nil (holdsC hS (.inr ⟨false,rfl⟩) hll ho)
theorem waitC {w:WD} {n:Nt} {v u:AVal} {s:Dn} {b:Int×Int} (h:IsNt n v) (hs:NtS n) (hu:IsDn s u) (hb1:in64 b.1) (hb2:in64 b.2):Gives (EE w) 14 [v,u,rA b] (RWt (waitP n s b)):=by
 have hwf:=h.wf
 have hwu:=hu.wf
 have hu0:=hu
 have hCk:=fun w:WD=>dcheckC (w:=w) h hs hu
 have hIn:=fun (w:WD) (x:AVal) (hx:IsStt s.d x)=>invarC (w:=w) h hs hx
 have hSt:=fun (w:WD) (x:AVal) (hx:IsStt s.d x)=>stillC (w:=w) h hs hx
 obtain ⟨SV,SC,SF,SP,fels,rfl,icl,⟨hV,lv,hvo⟩,⟨hC,lc,hco⟩,hF,hFs,lf,hP⟩:=h
 obtain ⟨L,U,C,rfl,hd,hK,lK,iK0⟩:=hu
 obtain ⟨⟨hL,lL,iL0⟩,⟨hU,lU,iU0⟩⟩:=hd.two
 have hKn:=rs_n hK
 obtain ⟨pels,hP1,hPl,hPat⟩:=hP.at'
 have kV:=hV.fit
 have cV:=hV.cells
 have iV:=hV.isCell
 have kC:=hC.fit
 have cC:=hC.cells
 have iC:=hC.isCell
 have kF:=hF.fit
 have cF:=hF.cells
 have iF:=hF.isCell
 have kP:=hP1.fit
 have cP:=hP1.cells
 have iP:=hP1.isCell
 have kL:=hL.fit
 have cL:=hL.cells
 have iL:=hL.isCell
 have kU:=hU.fit
 have cU:=hU.cells
 have iU:=hU.isCell
 have kK:=hK.fit
 have cK:=hK.cells
 have iK:=hK.isCell
 have pb:(rA b).cells=[(.sc (.int .i64 (b.1))),(.sc (.int .i64 (b.2)))]:=rfl
 have pr:AVal.agg [(.sc (.int .i64 (b.1))),(.sc (.int .i64 (b.2)))]=rA b:=rfl
 have hfb:(rA b).fit=true:=id rfl
 have hz:IsDn zDn (.agg [(.sc (.slice none 0 0)),(.sc (.slice none 0 0)),(.sc (.slice none 0 0))]):=⟨_,_,_,rfl,⟨_,_,rfl,⟨.inl ⟨rfl,_,_,rfl⟩,by simp [zDn],by simp [zDn]⟩,.inl ⟨rfl,_,_,rfl⟩,by simp [zDn],by simp [zDn]⟩,.inl ⟨rfl,_,_,rfl⟩,by simp [zDn],by simp [zDn]⟩
 refine Gives.of gWF (.cons _ _ hwf (.cons _ _ hwu (.cons _ _ (wfR b) .nil))) 5 ?_
 refine of_14 rfl rfl rfl (by kernel_rfl) ?_
 simp -implicitDefEqProofs only [go_sem,kV,cV,iV,kC,cC,iC,kF,cF,iF,kP,cP,iP,kL,cL,iL,kU,cU,iU,kK,cK,iK,pb,hfb]
 have g0:((((empty.alloc (.cells 5 [.agg [(.sc (.int .i64 (n.clocks))),SV,SC,SF,SP]])).alloc (.cells 3 [.agg [L,U,C]])).alloc (.cells 2 [rA b])).alloc (.cells 3 [.agg [(.sc (.slice none 0 0)),(.sc (.slice none 0 0)),(.sc (.slice none 0 0))]])).get 0=some (.cells 5 [.agg [(.sc (.int .i64 (n.clocks))),SV,SC,SF,SP]]):=by kernel_rfl
 have g1:((((empty.alloc (.cells 5 [.agg [(.sc (.int .i64 (n.clocks))),SV,SC,SF,SP]])).alloc (.cells 3 [.agg [L,U,C]])).alloc (.cells 2 [rA b])).alloc (.cells 3 [.agg [(.sc (.slice none 0 0)),(.sc (.slice none 0 0)),(.sc (.slice none 0 0))]])).get 1=some (.cells 3 [.agg [L,U,C]]):=by kernel_rfl
 have g2:((((empty.alloc (.cells 5 [.agg [(.sc (.int .i64 (n.clocks))),SV,SC,SF,SP]])).alloc (.cells 3 [.agg [L,U,C]])).alloc (.cells 2 [rA b])).alloc (.cells 3 [.agg [(.sc (.slice none 0 0)),(.sc (.slice none 0 0)),(.sc (.slice none 0 0))]])).get 2=some (.cells 2 [.agg [(.sc (.int .i64 (b.1))),(.sc (.int .i64 (b.2)))]]):=by kernel_rfl
 have g3:((((empty.alloc (.cells 5 [.agg [(.sc (.int .i64 (n.clocks))),SV,SC,SF,SP]])).alloc (.cells 3 [.agg [L,U,C]])).alloc (.cells 2 [rA b])).alloc (.cells 3 [.agg [(.sc (.slice none 0 0)),(.sc (.slice none 0 0)),(.sc (.slice none 0 0))]])).get 3=some (.cells 3 [.agg [(.sc (.slice none 0 0)),(.sc (.slice none 0 0)),(.sc (.slice none 0 0))]]):=by kernel_rfl
 have hnx:((((empty.alloc (.cells 5 [.agg [(.sc (.int .i64 (n.clocks))),SV,SC,SF,SP]])).alloc (.cells 3 [.agg [L,U,C]])).alloc (.cells 2 [rA b])).alloc (.cells 3 [.agg [(.sc (.slice none 0 0)),(.sc (.slice none 0 0)),(.sc (.slice none 0 0))]])).next=4:=rfl
 generalize ((((empty.alloc (.cells 5 [.agg [(.sc (.int .i64 (n.clocks))),SV,SC,SF,SP]])).alloc (.cells 3 [.agg [L,U,C]])).alloc (.cells 2 [rA b])).alloc (.cells 3 [.agg [(.sc (.slice none 0 0)),(.sc (.slice none 0 0)),(.sc (.slice none 0 0))]]))=τ at g0 g1 g2 g3 hnx ⊢
 have l3:3 < τ.next:=by omega
 refine (hCk _).use ?_
 cases hc:dckB n s with
 | false=>
  simp only [Bool.false_eq_true,if_false,if_true]
  (repeat' first|refine vw ?_ ?_<;>intro hq|refine vz ?_|simp -implicitDefEqProofs only [go_sem,g3,l3])
  have e:waitP n s b=(zDn,2):=by rw [waitP,if_pos hc]
  rw [e]
  exact ⟨_,_,rfl,by rfl,_,rfl,hz⟩
 | true=>
 simp only [Bool.false_eq_true,if_false,if_true]
 (repeat' first|refine vw ?_ ?_<;>intro hq|refine vz ?_|simp -implicitDefEqProofs only [go_sem,g3,l3])
 have hval:validR (0,1)=true:=by decide
 have hcm:=cmpC (w:=⟨w.w,[]⟩) b (0,1) hb1 hb2 ⟨by decide,by decide⟩ ⟨by decide,by decide⟩
 have hcx:cmpR b (0,1)=if validR b=true then (sgn b (0,1),0) else (0,2):=by unfold cmpR; rw [hval,Bool.and_true]
 rw [hcx] at hcm
 ((try (refine Z_seq ?_; (try simp -implicitDefEqProofs only [go_sem]))); refine Z_draw (by kernel_rfl) [0,1,2,3,4,5,6,7] [(7,127),(6,31),(5,15),(4,15),(3,7),(2,3),(1,0),(0,0)] (by kernel_rfl) (by kernel_rfl) ?_)
 simp -implicitDefEqProofs only [go_sem,g2,pb,pr]
 refine (wholePC (w:=⟨w.w,[]⟩) 0).useD ?_
 simp -implicitDefEqProofs only [go_sem,g2,pb,pr]
 refine hcm.useD ?_
 cases hvb:validR b with
 | false=>
  simp only [Bool.false_eq_true,if_false]
  simp -implicitDefEqProofs only [go_sem,g3,l3]
  (repeat' first|refine vw ?_ ?_<;>intro hq|refine vz ?_|simp -implicitDefEqProofs only [go_sem,g3,l3])
  have e:waitP n s b=(zDn,2):=by rw [waitP,if_neg (by rw [hc]; simp),if_pos (.inl hvb)]
  rw [e]
  exact ⟨_,_,rfl,by rfl,_,rfl,hz⟩
 | true=>
 simp only [if_true]
 have hsz:=sgn_zero b hvb
 by_cases hn:b.1 < 0
 ·rw [dct hn] at hsz
  simp -implicitDefEqProofs only [go_sem,hsz,g3,l3]
  (repeat' first|refine vw ?_ ?_<;>intro hq|refine vz ?_|simp -implicitDefEqProofs only [go_sem,hsz,g3,l3])
  have e:waitP n s b=(zDn,2):=by rw [waitP,if_neg (by rw [hc]; simp),if_pos (.inr hn)]
  rw [e]
  exact ⟨_,_,rfl,by rfl,_,rfl,hz⟩
 rw [dcf hn] at hsz
 simp -implicitDefEqProofs only [go_sem,hsz,g3,l3]
 refine vzf ?_
 simp -implicitDefEqProofs only [go_sem]
 have hck:checkB n s.d=true:=by
  simp only [dckB,Bool.and_eq_true] at hc
  exact hc.2.1
 have hvl:=(valid_procs (check_valid hck))
 have hls:=check_lens hck
 have hlc:(s.cl.length:Int)=n.clocks:=by
  simp only [dckB,Bool.and_eq_true,decide_eq_true_eq] at hc
  exact hc.1.1.2
 have hCo:=copC (w:=⟨w.w,[]⟩) hd (by omega) (by omega)
 have sK:∀ τ,aSrc 2 C τ=some (s.cl.map rA):=fun τ=>hK.src
 refine Z_cut (ι:=Nat×AVal×AVal×AVal) (fun i=>[(3,.ptr 0 0 0),(4,.ptr 1 0 0),(5,.ptr 2 0 0),(6,.ptr 3 0 0),(9,(.sc (.int .i64 (sgn b (0,1))))),(11,.ptr i.1 0 0)])
  (fun i τ'=>KeepS τ τ'/\4<=i.1/\τ'.get i.1=some (.cells 3 [.agg [i.2.1,i.2.2.1,i.2.2.2]])/\IsStt s.d (.agg [i.2.1,i.2.2.1])/\Gc 4 τ' 2 i.2.2.2 (s.cl.map rA)/\∀ l,i.2.2.2≠.slice i.1 0 l) (fun _=>rfl) ?_ ?_
 ·(try simp -implicitDefEqProofs only [go_sem])
  ((try (refine Z_seq ?_; (try simp -implicitDefEqProofs only [go_sem]))); refine Z_drawT (by kernel_rfl) [0,1,3,4,5,2,6,7,8,9] [(9,511),(8,0),(7,127),(6,63),(2,3),(5,16),(4,0),(3,0),(1,1),(0,0)] (.one 0 (.one 1 (.one 3 (.one 4 (.one 5 (.two 2 (.two 6 (.one 7 (.one 8 (.one 9 .fin))) 8 (.one 6 (.one 7 (.one 9 .fin)))) 8 (.one 2 (.one 6 (.one 7 (.one 9 .fin)))))))))) (by kernel_rfl) (by kernel_rfl) (by kernel_rfl) ?_)
  simp -implicitDefEqProofs only [go_sem,g1,g3,l3,kK,cK,iK,kL,cL,iL,kU,cU,iU,sK]
  have hb2:(s.cl.map rA).length*16<=140737488355328:=by rw [List.length_map]; omega
  obtain ⟨c1,τ1,a1,G1,k1⟩:=app_lit (sz:=2) (bytes:=16) (els:=s.cl.map rA) (σ:=τ) hb2 (by decide)
  obtain ⟨c2,τ2,a2,G2,k2⟩:=app_lit (sz:=2) (bytes:=16) (els:=s.cl.map rA) (σ:=τ.alloc (.cells 3 [.agg [(.sc (.slice none 0 0)),(.sc (.slice none 0 0)),(.sc (.slice none 0 0))]])) hb2 (by decide)
  obtain ⟨cc1,ic1,fc1⟩:=G1.facts
  obtain ⟨cc2,ic2,fc2⟩:=G2.facts
  have q1:(1=τ.next)=False:=eq_false (by omega)
  have q2:(1=τ1.next)=False:=eq_false (by have:=k1.1; omega)
  have h1:=k1.2 _ _ g1
  have h2:=k2.2 _ _ (get_alloc_old (y:=(.cells 3 [.agg [(.sc (.slice none 0 0)),(.sc (.slice none 0 0)),(.sc (.slice none 0 0))]])) g1)
  have h3:τ2.get τ.next=some (.cells 3 [.agg [(.sc (.slice none 0 0)),(.sc (.slice none 0 0)),(.sc (.slice none 0 0))]]):=k2.2 _ _ (by rw [AStore.get_alloc,if_pos rfl])
  have h4:=AStore.lt_of_get h3
  have hcut:∀ X,IsStt s.d X->∃ D1 D2,X=.agg [D1,D2]/\D1.cells=[D1]/\D1.isCell=true/\D1.fit=true/\D2.cells=[D2]/\D2.isCell=true/\D2.fit=true:=by
   rintro X ⟨D1,D2,rfl,⟨hD1,_,_⟩,⟨hD2,_,_⟩⟩
   exact ⟨D1,D2,rfl,hD1.cells,hD1.isCell,hD1.fit,hD2.cells,hD2.isCell,hD2.fit⟩
  have keyA:∀ D1 D2,KeepS τ ((τ1.alloc (.cells 3 [.agg [(.sc (.slice none 0 0)),(.sc (.slice none 0 0)),(.sc (.slice none 0 0))]])).set τ1.next (.cells 3 [.agg [D1,D2,c1]]))/\4<=τ1.next/\((τ1.alloc (.cells 3 [.agg [(.sc (.slice none 0 0)),(.sc (.slice none 0 0)),(.sc (.slice none 0 0))]])).set τ1.next (.cells 3 [.agg [D1,D2,c1]])).get τ1.next=some (.cells 3 [.agg [D1,D2,c1]])/\Gc 4 ((τ1.alloc (.cells 3 [.agg [(.sc (.slice none 0 0)),(.sc (.slice none 0 0)),(.sc (.slice none 0 0))]])).set τ1.next (.cells 3 [.agg [D1,D2,c1]])) 2 c1 (s.cl.map rA)/\∀ l,c1≠.slice τ1.next 0 l:=fun D1 D2=>by
   have kk:=(KeepS.alloc τ1 (.cells 3 [.agg [(.sc (.slice none 0 0)),(.sc (.slice none 0 0)),(.sc (.slice none 0 0))]])).set (Nat.le_refl _) (.cells 3 [.agg [D1,D2,c1]])
   refine ⟨k1.trans kk,by have:=k1.1; omega,gss (by rw [alloc_next]; omega),?_,?_⟩
   ·rw [hnx] at G1
    exact G1.keep fun b x _ hg=>kk.2 _ _ hg
   ·rintro l rfl
    rcases G1 with ⟨_,e⟩|⟨b,e3,e4,e5⟩
    ·cases e
    ·injection e4 with e4
     have:=AStore.lt_of_get e5
     omega
  have keyB:∀ D1 D2,KeepS τ (τ2.set τ.next (.cells 3 [.agg [D1,D2,c2]]))/\4<=τ.next/\(τ2.set τ.next (.cells 3 [.agg [D1,D2,c2]])).get τ.next=some (.cells 3 [.agg [D1,D2,c2]])/\Gc 4 (τ2.set τ.next (.cells 3 [.agg [D1,D2,c2]])) 2 c2 (s.cl.map rA)/\∀ l,c2≠.slice τ.next 0 l:=fun D1 D2=>by
   have kk:=((KeepS.alloc τ (.cells 3 [.agg [(.sc (.slice none 0 0)),(.sc (.slice none 0 0)),(.sc (.slice none 0 0))]])).trans k2).set (Nat.le_refl _) (.cells 3 [.agg [D1,D2,c2]])
   refine ⟨kk,vom,gss h4,?_,?_⟩
   ·rcases G2 with h|⟨b,e3,e4,e5⟩
    ·exact .inl h
    ·rw [alloc_next] at e3
     exact .inr ⟨b,by omega,e4,by rw [AStore.get_set,if_neg (by omega)]; exact e5⟩
   ·rintro l rfl
    rcases G2 with ⟨_,e⟩|⟨b,e3,e4,e5⟩
    ·cases e
    ·rw [alloc_next] at e3
     injection e4 with e4
     omega
  simp -implicitDefEqProofs only [go_sem,g1,q1,q2,kK,cK,iK,kL,cL,iL,kU,cU,iU]
  refine ⟨hCo.useD fun X hX=>?_,hCo.useE fun X hX=>?_⟩
  ·obtain ⟨D1,D2,rfl,cD1,iD1,kD1,cD2,iD2,kD2⟩:=hcut X hX
   simp -implicitDefEqProofs only [go_sem,g1,h1,h2,h3,h4,q1,q2,kK,cK,iK,kL,cL,iL,kU,cU,iU,sK,a1,a2,cc1,ic1,fc1,cc2,ic2,fc2,kD1,cD1,iD1,kD2,cD2,iD2]
   obtain ⟨x1,x2,x3,x4,x5⟩:=keyA D1 D2
   obtain ⟨y1,y2,y3,y4,y5⟩:=keyB D1 D2
   exact ⟨⟨(τ1.next,D1,D2,c1),⟨x1,x2,x3,hX,x4,x5⟩,vsu⟩,⟨(τ.next,D1,D2,c2),⟨y1,y2,y3,hX,y4,y5⟩,vsu⟩⟩
  ·obtain ⟨D1,D2,rfl,cD1,iD1,kD1,cD2,iD2,kD2⟩:=hcut X hX
   simp -implicitDefEqProofs only [go_sem,g1,h1,h2,h3,h4,q1,q2,kK,cK,iK,kL,cL,iL,kU,cU,iU,sK,a1,a2,cc1,ic1,fc1,cc2,ic2,fc2,kD1,cD1,iD1,kD2,cD2,iD2]
   obtain ⟨y1,y2,y3,y4,y5⟩:=keyB D1 D2
   exact ⟨(τ.next,D1,D2,c2),⟨y1,y2,y3,hX,y4,y5⟩,vsu⟩
 ·rintro ⟨bo,D1,D2,C'⟩ ρ ⟨kr,hb4,gO,hX,hG,hne⟩
  simp only at hb4 gO hX hG hne
  obtain ⟨⟨hD1,_,_⟩,⟨hD2,_,_⟩⟩:=hX.two
  have cD1:=hD1.cells
  have iD1:=hD1.isCell
  have kD1:=hD1.fit
  have cD2:=hD2.cells
  have iD2:=hD2.isCell
  have kD2:=hD2.fit
  obtain ⟨cC',iC',kC'⟩:=hG.facts
  have r0:=kr.2 _ _ g0
  have r1:=kr.2 _ _ g1
  have r2:=kr.2 _ _ g2
  have r3:=kr.2 _ _ g3
  have lr:=AStore.lt_of_get r3
  have hfr:∀ (σ':AStore) (C2:AVal) (cl:List (Int×Int)),Gc 4 σ' 2 C2 (cl.map rA)->cl.length<=281474976710656->(∀ x∈cl,in64 x.1/\in64 x.2)->∃ v u,AEnd.ret (.tuple [.agg [D1,D2,C2],(.sc (.int .i64 (0)))])=AEnd.ret v/\frz σ' 5 v=some u/\RWt (⟨s.d,cl⟩,0) u:=fun σ' C2 cl hg hl hi=>by
   obtain ⟨V,e1,e2⟩:=hg.frz (n:=2) (mapO_rA _)
   refine ⟨_,.tuple [.agg [D1,D2,V],(.sc (.int .i64 (0)))],rfl,?_,_,rfl,D1,D2,V,rfl,hX,e2,hl,hi⟩
   rw [frz_tuple,mapO_cons',frz_agg,mapO_cons',hD1.frzI,mapO_cons',hD2.frzI,mapO_cons',e1]
   rfl
  by_cases hb0:b.1=0
  ·have e1:=dct ((sgn0 b).2 hb0)
   (repeat' first|refine vw ?_ ?_<;>intro hq|refine vz ?_|simp -implicitDefEqProofs only [go_sem,e1,gO,r3,lr,cD1,iD1,kD1,cD2,iD2,kD2,cC',iC',kC'])
   have e:waitP n s b=(s,0):=by rw [waitP,if_neg (by rw [hc]; simp),if_neg (by rw [hvb]; simpa using hn),if_pos hb0]
   rw [e]
   exact hfr _ _ _ (hG.keep fun c x hc hg=>by rw [AStore.get_set,if_neg (by omega)]; exact hg) lK iK0
  have e1:=dcf (fun h=>hb0 ((sgn0 b).1 h))
  (repeat' first|refine vw ?_ ?_<;>intro hq|refine vz ?_|simp -implicitDefEqProofs only [go_sem,e1,r0,r1,kV,cV,iV,kC,cC,iC,kF,cF,iF,kP,cP,iP,kL,cL,iL,kU,cU,iU,kK,cK,iK])
  refine (hSt _ _ hd).use ?_
  rw [hck]
  simp only [Bool.true_and,if_true]
  have hw0:waitP n s b=if stillB n s.d=true then (zDn,9) else if addsE b s.cl≠0 then (zDn,addsE b s.cl) else if holdsB (invsB n s.d) (adds b s.cl)=true then (⟨s.d,adds b s.cl⟩,0) else (zDn,9):=by
   rw [waitP,if_neg (by rw [hc]; simp),if_neg (by rw [hvb]; simpa using hn),if_neg hb0]
  rw [hw0]
  cases hst:stillB n s.d with
  | true=>
   simp only [if_true]
   (repeat' first|refine vw ?_ ?_<;>intro hq|refine vz ?_|simp -implicitDefEqProofs only [go_sem,r3,lr])
   exact ⟨_,_,rfl,by rfl,_,rfl,hz⟩
  | false=>
   simp only [Bool.false_eq_true,if_false]
   (repeat' first|refine vw ?_ ?_<;>intro hq|refine vz ?_|simp -implicitDefEqProofs only [go_sem,r1,kL,cL,iL,kU,cU,iU,kK,cK,iK,hKn])
   have haD:∀ (i:Nat) (x:Int×Int),s.cl[i]?=some x->in64 x.1/\in64 x.2:=fun i x h=>iK0 x (List.mem_of_getElem? h)
   refine vlp (ι:=Nat) (fun i=>[(3,.ptr 0 0 0),(4,.ptr 1 0 0),(5,.ptr 2 0 0),(6,.ptr 3 0 0),(11,.ptr bo 0 0),(59,C),(60,(.sc (.int .i64 (s.cl.length)))),(61,(.sc (.int .i64 (i))))]) (fun i τ'=>i<=s.cl.length/\KeepS τ τ'/\τ'.get bo=some (.cells 3 [.agg [D1,D2,C']])/\Gc 4 τ' 2 C' ((adds b (s.cl.take i)++s.cl.drop i).map rA)/\∀ j x,j < i->s.cl[j]?=some x->(addR x b).2=0) (fun i=>s.cl.length - i) (fun _=>rfl) 0 ?_ ?_ ?_
   ·exact vsu
   ·exact ⟨Nat.zero_le _,kr,gO,hG,fun j x h=>absurd h (Nat.not_lt_zero _)⟩
   clear kr gO hG r0 r1 r2 r3 lr
   rintro i ω ⟨hi,kr,gO,hG,hall⟩
   have r0:=kr.2 _ _ g0
   have r1:=kr.2 _ _ g1
   have r2:=kr.2 _ _ g2
   have r3:=kr.2 _ _ g3
   have lr:=AStore.lt_of_get r3
   have lbo:=AStore.lt_of_get gO
   simp -implicitDefEqProofs only [go_sem]
   (refine vif ?_ ?_<;>intro hlt)
   ·obtain ⟨x,hx⟩:∃ x,s.cl[i]?=some x:=⟨s.cl[i]'(by omega),by simp⟩
    have hx':(s.cl.map rA)[i]?=some (rA x):=by rw [List.getElem?_map,hx]; rfl
    have hwi:=wrapS (i:=i) (by omega)
    have px:(rA x).cells=[(.sc (.int .i64 (x.1))),(.sc (.int .i64 (x.2)))]:=rfl
    have prx:AVal.agg [(.sc (.int .i64 (x.1))),(.sc (.int .i64 (x.2)))]=rA x:=rfl
    obtain ⟨i1,i2⟩:=haD i x hx
    (repeat' first|refine vw ?_ ?_<;>intro hq|refine vz ?_|simp -implicitDefEqProofs only [go_sem,hK.idx hx',px])
    have k0:=(KeepS.alloc ω (.cells 2 [.agg [(.sc (.int .i64 (0))),(.sc (.int .i64 (0)))]])).set (Nat.le_refl _) (.cells 2 [.agg [(.sc (.int .i64 (x.1))),(.sc (.int .i64 (x.2)))]])
    have gx:((ω.alloc (.cells 2 [.agg [(.sc (.int .i64 (0))),(.sc (.int .i64 (0)))]])).set ω.next (.cells 2 [.agg [(.sc (.int .i64 (x.1))),(.sc (.int .i64 (x.2)))]])).get ω.next=some (.cells 2 [.agg [(.sc (.int .i64 (x.1))),(.sc (.int .i64 (x.2)))]]):=gss (by rw [alloc_next]; omega)
    generalize (ω.alloc (.cells 2 [.agg [(.sc (.int .i64 (0))),(.sc (.int .i64 (0)))]])).set ω.next (.cells 2 [.agg [(.sc (.int .i64 (x.1))),(.sc (.int .i64 (x.2)))]])=ω1 at k0 gx ⊢
    have w2:=k0.2 _ _ r2
    have w3:=k0.2 _ _ r3
    have wO:=k0.2 _ _ gO
    have lw3:=AStore.lt_of_get w3
    ((try (refine Z_seq ?_; (try simp -implicitDefEqProofs only [go_sem]))); refine Z_draw (by kernel_rfl) [0,1,2,3,4,5,6,7,8,9,10,11] [(11,2047),(10,767),(9,255),(8,120),(7,120),(6,56),(5,24),(4,0),(3,0),(2,0),(1,1),(0,0)] (by kernel_rfl) (by kernel_rfl) ?_)
    simp -implicitDefEqProofs only [go_sem,gx,w2,wO,px,prx,pb,pr,cD1,iD1,kD1,cD2,iD2,kD2,cC',iC',kC']
    refine (addC x b i1 i2 hb1 hb2).useD ?_
    obtain ⟨c,hc4,hCe,hcg⟩:∃ c,4<=c/\C'=.slice c 0 ((adds b (s.cl.take i)++s.cl.drop i).map rA).length/\ω.get c=some (.cells 2 ((adds b (s.cl.take i)++s.cl.drop i).map rA)):=by
     rcases hG with ⟨e,_⟩|⟨c,h1,h2,h3⟩
     ·have:=congrArg List.length e
      simp [adds] at this
      omega
     ·exact ⟨c,h1,h2,h3⟩
    have hlen:((adds b (s.cl.take i)++s.cl.drop i).map rA).length=s.cl.length:=by simp [adds]; omega
    have hge:((adds b (s.cl.take i)++s.cl.drop i).map rA)[i]?=some (rA x):=by
     rw [List.getElem?_map,List.getElem?_append_right (by simp [adds]; omega)]
     have:(adds b (s.cl.take i)).length=i:=by simp [adds]; omega
     rw [this,Nat.sub_self,List.getElem?_drop,Nat.add_zero,hx]; rfl
    have wc:=k0.2 _ _ hcg
    rw [hlen] at hCe
    subst hCe
    have hst1:=adds_set (b:=b) hx
    have hln1:((adds b (s.cl.take (i+1))++s.cl.drop (i+1)).map rA).length=s.cl.length:=by simp [adds]; omega
    generalize ((adds b (s.cl.take i)++s.cl.drop i).map rA)=els at*
    have hif:(0<=(i:Int)/\(i:Int) < (s.cl.length:Int))=True:=eq_true ⟨vom,vom⟩
    have lwc:=AStore.lt_of_get wc
    have hya:∀ y:Int×Int,(rA y).cells=[(.sc (.int .i64 (y.1))),(.sc (.int .i64 (y.2)))]:=fun _=>rfl
    simp -implicitDefEqProofs only [go_sem,rE,wc,wO,hif,hge,lwc,hya]
    have hse:storeEl (rA x) 0 [(.sc (.int .i64 ((addR x b).1.1))),(.sc (.int .i64 ((addR x b).1.2)))]=rA (addR x b).1:=rfl
    have hcb:c≠bo:=by rintro rfl; exact hne _ rfl
    rw [hse,hst1]
    have hk2:∀ d y,d≠c->ω1.get d=some y->(ω1.set c (.cells 2 ((adds b (s.cl.take (i+1))++s.cl.drop (i+1)).map rA))).get d=some y:=fun d y hd hg=>by rw [AStore.get_set,if_neg (by omega)]; exact hg
    have x3:=hk2 _ _ (by omega) w3
    have lx3:=AStore.lt_of_get x3
    have kk:KeepS τ (ω1.set c (.cells 2 ((adds b (s.cl.take (i+1))++s.cl.drop (i+1)).map rA))):=(kr.trans k0).set (by omega) _
    have xO:=hk2 _ _ (by omega) wO
    have xC:(ω1.set c (.cells 2 ((adds b (s.cl.take (i+1))++s.cl.drop (i+1)).map rA))).get c=some (.cells 2 ((adds b (s.cl.take (i+1))++s.cl.drop (i+1)).map rA)):=gss lwc
    generalize ω1.set c (.cells 2 ((adds b (s.cl.take (i+1))++s.cl.drop (i+1)).map rA))=ω2 at*
    by_cases hz0:(addR x b).2=0
    ·(repeat' first|refine vw ?_ ?_<;>intro hq|refine vz ?_|simp -implicitDefEqProofs only [go_sem,dct hz0,hwi])
     refine ⟨i+1,vom,⟨by omega,kk,xO,.inr ⟨c,hc4,by rw [hln1],xC⟩,fun j y hj hy=>?_⟩,vsu⟩
     by_cases hji:j=i
     ·subst hji
      rw [hx] at hy
      injection hy with hy
      rw [<-hy]; exact hz0
     ·exact hall j y (by omega) hy
    ·(repeat' first|refine vw ?_ ?_<;>intro hq|refine vz ?_|simp -implicitDefEqProofs only [go_sem,dcf hz0,x3,lx3])
     have e:=addsE_bad hall hx hz0
     rw [if_pos (by rw [e]; exact hz0),e]
     exact ⟨_,_,rfl,by rfl,_,rfl,hz⟩
   ·obtain rfl:i=s.cl.length:=by omega
    have hgood:=addsE_good (b:=b) (l:=s.cl) fun x hx=>by
     obtain ⟨i,hi,rfl⟩:=List.mem_iff_getElem.1 hx
     exact hall i _ hi (List.getElem?_eq_getElem hi)
    rw [List.take_length,List.drop_length,List.append_nil] at hG
    have hlen:(adds b s.cl).length=s.cl.length:=by simp [adds]
    have hval:∀ x∈adds b s.cl,validR x=true:=fun x hx=>by
     obtain ⟨y,hy,rfl⟩:=List.mem_map.1 hx
     exact addR_valid (addsE_zero hgood y hy)
    have ho:=inv_ok hck (cl:=adds b s.cl) (by rw [hlen]; exact hlc) hval
    (repeat' first|refine vw ?_ ?_<;>intro hq|refine vz ?_|simp -implicitDefEqProofs only [go_sem,r0,r1,kV,cV,iV,kC,cC,iC,kF,cF,iF,kP,cP,iP,kL,cL,iL,kU,cU,iU,kK,cK,iK])
    refine (hIn _ _ hd).use ?_
    rintro r (⟨hc2,rfl⟩|⟨_,S,rfl,hS⟩)
    ·rw [hck] at hc2; cases hc2
    have hIs:=inv_cn hck hS ho (by omega)
    have kS:=hS.fit
    have cS:=hS.cells
    have iS:=hS.isCell
    (repeat' first|refine vw ?_ ?_<;>intro hq|refine vz ?_|simp -implicitDefEqProofs only [go_sem,gO,kS,cS,iS,kD1,cD1,iD1,kD2,cD2,iD2,kC',cC',iC'])
    refine (holdsLC hIs hG (inv_len hck) ho).mono ?_
    rintro _ _ ⟨rfl,rfl⟩
    rw [if_neg (by rw [hgood]; simp)]
    cases hh:holdsB (invsB n s.d) (adds b s.cl) with
    | true=>
     (repeat' first|refine vw ?_ ?_<;>intro hq|refine vz ?_|simp -implicitDefEqProofs only [go_sem,gO,r3,lr,kD1,cD1,iD1,kD2,cD2,iD2,kC',cC',iC'])
     exact hfr _ _ _ (hG.keep fun c x hc hg=>by rw [AStore.get_set,if_neg (by omega)]; exact hg) (by omega) fun x hx=>in_of_valid (hval x hx)
    | false=>
     (repeat' first|refine vw ?_ ?_<;>intro hq|refine vz ?_|simp -implicitDefEqProofs only [go_sem,r3,lr])
     exact ⟨_,_,rfl,by rfl,_,rfl,hz⟩
theorem mosF_next {cl:List (Int×Int)} {l:List Cn} {j:Nat} {c:Cn} (h:l[j]?=some c):mosF cl (l.take (j+1))=mst cl (mosF cl (l.take j)) c:=by
 unfold mosF
 rw [List.take_add_one,h,List.foldl_append]
 rfl
theorem mst_lt {cl:List (Int×Int)} {b:Int×Int} {t:Bool} {c:Cn} (h:sgn (dOf cl c).1 b < 0):mst cl (some (b,t)) c=some ((dOf cl c).1,!c.st):=by
 unfold mst; dsimp only; rw [if_pos h]
theorem mst_eq {cl:List (Int×Int)} {b:Int×Int} {t:Bool} {c:Cn} (h:sgn (dOf cl c).1 b=0):mst cl (some (b,t)) c=some (b,t && !c.st):=by
 unfold mst; dsimp only; rw [if_neg (by omega),if_pos h]
theorem mst_gt {cl:List (Int×Int)} {b:Int×Int} {t:Bool} {c:Cn} (h:¬ sgn (dOf cl c).1 b < 0) (h':¬ sgn (dOf cl c).1 b=0):mst cl (some (b,t)) c=some (b,t):=by
 unfold mst; dsimp only; rw [if_neg h,if_neg h']
theorem mst_none {cl:List (Int×Int)} {c:Cn}:mst cl none c=some ((dOf cl c).1,!c.st):=rfl
theorem mostC {w:WD} {n:Nt} {v u:AVal} {s:Dn} (h:IsNt n v) (hs:NtS n) (hu:IsDn s u):GivesV (EE w) 16 [v,u] (.tuple [rA (mostP n s).1.1,(.sc (.bool ((mostP n s).1.2.1))),(.sc (.bool ((mostP n s).1.2.2))),(.sc (.int .i64 ((mostP n s).2)))]):=by
  have hwf:=h.wf
  have hwu:=hu.wf
  have hCk:=fun w:WD=>dcheckC (w:=w) h hs hu
  have hIn:=fun (w:WD) (x:AVal) (hx:IsStt s.d x)=>invarC (w:=w) h hs hx
  have hSt:=fun (w:WD) (x:AVal) (hx:IsStt s.d x)=>stillC (w:=w) h hs hx
  obtain ⟨SV,SC,SF,SP,fels,rfl,icl,⟨hV,lv,hvo⟩,⟨hC,lc,hco⟩,hF,hFs,lf,hP⟩:=h
  obtain ⟨L,U,C,rfl,hd,hK,lK,iK0⟩:=hu
  obtain ⟨⟨hL,lL,iL0⟩,⟨hU,lU,iU0⟩⟩:=hd.two
  have hKn:=rs_n hK
  obtain ⟨pels,hP1,hPl,hPat⟩:=hP.at'
  have kV:=hV.fit
  have cV:=hV.cells
  have iV:=hV.isCell
  have kC:=hC.fit
  have cC:=hC.cells
  have iC:=hC.isCell
  have kF:=hF.fit
  have cF:=hF.cells
  have iF:=hF.isCell
  have kP:=hP1.fit
  have cP:=hP1.cells
  have iP:=hP1.isCell
  have kL:=hL.fit
  have cL:=hL.cells
  have iL:=hL.isCell
  have kU:=hU.fit
  have cU:=hU.cells
  have iU:=hU.isCell
  have kK:=hK.fit
  have cK:=hK.cells
  have iK:=hK.isCell
  have hya:∀ y:Int×Int,(rA y).cells=[(.sc (.int .i64 (y.1))),(.sc (.int .i64 (y.2)))]:=fun _=>rfl
  have hyr:∀ y:Int×Int,AVal.agg [(.sc (.int .i64 (y.1))),(.sc (.int .i64 (y.2)))]=rA y:=fun _=>rfl
  have fin:∀ {τ:AStore} {b:Int×Int} {t e:Bool} {er:Int},mostP n s=((b,t,e),er)->∃ x,AEnd.ret (.tuple [rA b,(.sc (.bool (t))),(.sc (.bool (e))),(.sc (.int .i64 (er)))])=AEnd.ret x/\frz τ 4 x=some (.tuple [rA (mostP n s).1.1,(.sc (.bool ((mostP n s).1.2.1))),(.sc (.bool ((mostP n s).1.2.2))),(.sc (.int .i64 ((mostP n s).2)))]):=fun h=>⟨_,rfl,by rw [h]; rfl⟩
  refine GivesV.of gWF (.cons _ _ hwf (.cons _ _ hwu .nil)) 4 ?_
  refine of_16 rfl rfl rfl (by kernel_rfl) ?_
  simp -implicitDefEqProofs only [go_sem,kV,cV,iV,kC,cC,iC,kF,cF,iF,kP,cP,iP,kL,cL,iL,kU,cU,iU,kK,cK,iK]
  have g0:(((empty.alloc (.cells 5 [.agg [(.sc (.int .i64 (n.clocks))),SV,SC,SF,SP]])).alloc (.cells 3 [.agg [L,U,C]])).alloc (.cells 2 [.agg [(.sc (.int .i64 (0))),(.sc (.int .i64 (0)))]])).get 0=some (.cells 5 [.agg [(.sc (.int .i64 (n.clocks))),SV,SC,SF,SP]]):=by kernel_rfl
  have g1:(((empty.alloc (.cells 5 [.agg [(.sc (.int .i64 (n.clocks))),SV,SC,SF,SP]])).alloc (.cells 3 [.agg [L,U,C]])).alloc (.cells 2 [.agg [(.sc (.int .i64 (0))),(.sc (.int .i64 (0)))]])).get 1=some (.cells 3 [.agg [L,U,C]]):=by kernel_rfl
  have g2:(((empty.alloc (.cells 5 [.agg [(.sc (.int .i64 (n.clocks))),SV,SC,SF,SP]])).alloc (.cells 3 [.agg [L,U,C]])).alloc (.cells 2 [.agg [(.sc (.int .i64 (0))),(.sc (.int .i64 (0)))]])).get 2=some (.cells 2 [.agg [(.sc (.int .i64 (0))),(.sc (.int .i64 (0)))]]):=by kernel_rfl
  have hnx:(((empty.alloc (.cells 5 [.agg [(.sc (.int .i64 (n.clocks))),SV,SC,SF,SP]])).alloc (.cells 3 [.agg [L,U,C]])).alloc (.cells 2 [.agg [(.sc (.int .i64 (0))),(.sc (.int .i64 (0)))]])).next=3:=rfl
  generalize (((empty.alloc (.cells 5 [.agg [(.sc (.int .i64 (n.clocks))),SV,SC,SF,SP]])).alloc (.cells 3 [.agg [L,U,C]])).alloc (.cells 2 [.agg [(.sc (.int .i64 (0))),(.sc (.int .i64 (0)))]]))=τ at g0 g1 g2 hnx ⊢
  have l2:2 < τ.next:=by omega
  refine (hCk _).use ?_
  cases hc:dckB n s with
  | false=>
    simp only [Bool.false_eq_true,if_false,if_true]
    (repeat' first|refine vw ?_ ?_<;>intro hq|refine vz ?_|simp -implicitDefEqProofs only [go_sem,g2,l2])
    exact fin (b:=(0,0)) (by rw [mostP,if_pos hc])
  | true=>
  have hw0 : mostP n s = if stillB n s.d = true then (((0, 1), true, false), 0) else if invsB n s.d = [] then (((0, 0), false, true), 0) else if mosE s.cl (invsB n s.d) ≠ 0 then (((0, 0), false, false), mosE s.cl (invsB n s.d))
      else match mosF s.cl (invsB n s.d) with
        | some (b,t)=>((b,t,false),0)
        | none=>(((0,0),false,true),0):=by
    rw [mostP,if_neg (by rw [hc]; simp)]<;>rfl
  obtain ⟨hck,hlen,hcl,hho,hok⟩:=dck_parts hc
  simp only [Bool.false_eq_true,if_false,if_true]
  (repeat' first|refine vw ?_ ?_<;>intro hq|refine vz ?_|simp -implicitDefEqProofs only [go_sem,g0,g1,kV,cV,iV,kC,cC,iC,kF,cF,iF,kP,cP,iP,kL,cL,iL,kU,cU,iU,kK,cK,iK])
  refine (hSt _ _ hd).use ?_
  rw [hck]
  simp only [Bool.true_and,if_true]
  cases hst:stillB n s.d with
  | true=>
    (repeat' first|refine vw ?_ ?_<;>intro hq|refine vz ?_|simp -implicitDefEqProofs only [go_sem])
    refine (wholePC (w:=⟨w.w,[]⟩) 0).use ?_
    (repeat' first|refine vw ?_ ?_<;>intro hq|refine vz ?_|simp -implicitDefEqProofs only [go_sem,g2,l2,hya])
    exact fin (b:=(0,1)) (by rw [hw0,if_pos hst])
  | false=>
  simp only [hst,Bool.false_eq_true,if_false] at hw0 ⊢
  (repeat' first|refine vw ?_ ?_<;>intro hq|refine vz ?_|simp -implicitDefEqProofs only [go_sem,g0,g1,kV,cV,iV,kC,cC,iC,kF,cF,iF,kP,cP,iP,kL,cL,iL,kU,cU,iU,kK,cK,iK])
  refine (hIn _ _ hd).use ?_
  rintro r (⟨hc2,rfl⟩|⟨_,S,rfl,hS⟩)
  · rw [hck] at hc2; cases hc2
  have hil:=inv_len hck
  have hIs:=inv_cn hck hS hok (by have:=(valid_procs (check_valid hck)).2.2; omega)
  have hSn:=cns_n hS
  have hck2:∀ c∈invsB n s.d,(in64 c.k/\in64 c.c):=fun c hc=>hIs.2.2 c hc
  generalize invsB n s.d=l at*
  have kS:=hS.fit
  have cS:=hS.cells
  have iS:=hS.isCell
  by_cases hl0:l=[]
  · subst hl0
    (repeat' first|refine vw ?_ ?_<;>intro hq|refine vz ?_|simp -implicitDefEqProofs only [go_sem,hSn,g2,l2,kS,cS,iS])
    exact fin (b:=(0,0)) (by rw [hw0,if_pos rfl])
  have hlp:0 < l.length:=List.length_pos_iff.2 hl0
  rw [if_neg hl0] at hw0
  have hdl:decide ((l.length:Int)=0)=false:=dcf (by omega)
  (repeat' first|refine vw ?_ ?_<;>intro hq|refine vz ?_|simp -implicitDefEqProofs only [go_sem,hSn,hdl,kS,cS,iS])
  refine vlp (ι:=Nat×(Int×Int)×Bool) (fun i=>[(2,.ptr 0 0 0),(3,.ptr 1 0 0),(4,.ptr 2 0 0),(5,(.sc (.bool (i.2.2)))),(45,S),(46,(.sc (.int .i64 (l.length)))),(47,(.sc (.int .i64 (i.1))))]) (fun i τ'=>i.1<=l.length/\τ'.get 1=some (.cells 3 [.agg [L,U,C]])/\τ'.get 2=some (.cells 2 [.agg [(.sc (.int .i64 (i.2.1.1))),(.sc (.int .i64 (i.2.1.2)))]])/\(∀ j c,j < i.1->l[j]?=some c->(dOf s.cl c).2=0)/\(0 < i.1->mosF s.cl (l.take i.1)=some (i.2.1,i.2.2)/\validR i.2.1=true)) (fun i=>l.length - i.1) (fun _=>rfl) (0,(0,0),false) ?_ ?_ ?_
  · exact vsu
  · exact ⟨Nat.zero_le _,g1,g2,fun j x h=>absurd h (Nat.not_lt_zero _),fun h=>absurd h (Nat.lt_irrefl _)⟩
  clear g0 g1 g2 hnx l2
  rintro ⟨j,b,t⟩ ω ⟨hj,g1,g2,hall,hmo⟩
  dsimp only at hj g2 hall hmo
  have l2:=AStore.lt_of_get g2
  simp -implicitDefEqProofs only [go_sem]
  (refine vif ?_ ?_<;>intro hlt)
  · obtain ⟨c,hc'⟩:∃ c,l[j]?=some c:=⟨l[j]'(by omega),by simp⟩
    have hcx:(l.map cnA)[j]?=some (cnA c):=by rw [List.getElem?_map,hc']; rfl
    have hm:=List.mem_of_getElem? hc'
    obtain ⟨m,x,hk,hx,hat,hvx,hcmp⟩:=hok.at hm
    have hx':(s.cl.map rA)[m]?=some (rA x):=by rw [List.getElem?_map,hx]; rfl
    have hw:=wrapS (i:=j) (by omega)
    have hmb:=(List.getElem?_eq_some_iff.1 hx').1
    have hkw:IntKind.i64.wrap (c.k - 1)=((m:Nat):Int):=by rw [hk,Int.add_sub_cancel]; exact wrap64 (by omega) (by have:=(hck2 c hm).1.2; omega)
    obtain ⟨i1,i2⟩:=in_of_valid hvx
    have pc:(cnA c).cells=[(.sc (.int .i64 (c.k))),(.sc (.bool (c.lo))),(.sc (.bool (c.st))),(.sc (.int .i64 (c.c)))]:=rfl
    have ix2:=fun σ:AStore=>hK.idx (σ:=σ) (k:=.i64) hx'
    have hsb:=subC (w:=⟨w.w,[]⟩) (c.c,1) x (hck2 c hm).2 ⟨vom,vom⟩ i1 i2
    have hdd:subR (c.c,1) x=dOf s.cl c:=by unfold dOf; rw [hat]
    rw [hdd] at hsb
    (repeat' first|refine vw ?_ ?_<;>intro hq|refine vz ?_|simp -implicitDefEqProofs only [go_sem,hS.idx hcx,pc])
    have k0:=(KeepS.alloc ω (.cells 4 [.agg [(.sc (.int .i64 (0))),(.sc (.bool (false))),(.sc (.bool (false))),(.sc (.int .i64 (0)))]])).set (Nat.le_refl _) (.cells 4 [.agg [(.sc (.int .i64 (c.k))),(.sc (.bool (c.lo))),(.sc (.bool (c.st))),(.sc (.int .i64 (c.c)))]])
    have gx:((ω.alloc (.cells 4 [.agg [(.sc (.int .i64 (0))),(.sc (.bool (false))),(.sc (.bool (false))),(.sc (.int .i64 (0)))]])).set ω.next (.cells 4 [.agg [(.sc (.int .i64 (c.k))),(.sc (.bool (c.lo))),(.sc (.bool (c.st))),(.sc (.int .i64 (c.c)))]])).get ω.next=some (.cells 4 [.agg [(.sc (.int .i64 (c.k))),(.sc (.bool (c.lo))),(.sc (.bool (c.st))),(.sc (.int .i64 (c.c)))]]):=gss (by rw [alloc_next]; omega)
    generalize (ω.alloc (.cells 4 [.agg [(.sc (.int .i64 (0))),(.sc (.bool (false))),(.sc (.bool (false))),(.sc (.int .i64 (0)))]])).set ω.next (.cells 4 [.agg [(.sc (.int .i64 (c.k))),(.sc (.bool (c.lo))),(.sc (.bool (c.st))),(.sc (.int .i64 (c.c)))]])=ω1 at k0 gx ⊢
    have w1:=k0.2 _ _ g1
    have w2:=k0.2 _ _ g2
    have lx:=AStore.lt_of_get gx
    have l21:=AStore.lt_of_get w2
    have q0:(ω.next=ω1.next)=False:=eq_false (by omega)
    have q1:(1=ω1.next)=False:=eq_false (by have:=AStore.lt_of_get w1; omega)
    have hwh:=fun w:WD=>wholePC (w:=w) c.c
    have w1':∀ a,(ω1.alloc a).get 1=some (.cells 3 [.agg [L,U,C]]):=fun a=>get_alloc_old w1
    have gx':∀ a,(ω1.alloc a).get ω.next=some (.cells 4 [.agg [(.sc (.int .i64 (c.k))),(.sc (.bool (c.lo))),(.sc (.bool (c.st))),(.sc (.int .i64 (c.c)))]]):=fun a=>get_alloc_old gx
    have lne:(1 < ω.next)=True:=eq_true (AStore.lt_of_get g1)
    refine Z_mid (fun e σ'=>look? e 2=some (.ptr 0 0 0)/\look? e 3=some (.ptr 1 0 0)/\look? e 4=some (.ptr 2 0 0)/\look? e 5=some (.sc (.bool (t)))/\look? e 13=some (.sc (.int .i64 (j)))/\look? e 14=some (.ptr ω.next 0 0)/\look? e 15=some (.ptr ω1.next 0 0)/\look? e 16=some (.sc (.int .i64 ((dOf s.cl c).2)))/\look? e 45=some S/\look? e 46=some (.sc (.int .i64 (l.length)))/\look? e 47=some (.sc (.int .i64 (j)))/\
      σ'=(ω1.alloc (.cells 2 [.agg [(.sc (.int .i64 (0))),(.sc (.int .i64 (0)))]])).set ω1.next (.cells 2 [.agg [(.sc (.int .i64 ((dOf s.cl c).1.1))),(.sc (.int .i64 ((dOf s.cl c).1.2)))]])) ?_ ?_
    · ((try (refine Z_seq ?_; (try simp -implicitDefEqProofs only [go_sem]))); refine Z_drawT (by kernel_rfl) [0,1,3,4,5,6,7,8,9,2,10,11,12,13,14,15,16] [(16,65535),(15,24575),(14,0),(13,4095),(12,4095),(11,2047),(10,1023),(2,3),(9,504),(8,248),(7,96),(6,32),(5,0),(4,8),(3,0),(1,1),(0,0)] (.one 0 (.one 1 (.one 3 (.one 4 (.one 5 (.one 6 (.one 7 (.one 8 (.one 9 (.two 2 (.two 10 (.one 11 (.one 12 (.one 13 (.one 14 (.one 15 (.one 16 .fin)))))) 14 (.one 10 (.one 11 (.one 12 (.one 13 (.one 15 (.one 16 .fin))))))) 14 (.one 2 (.one 10 (.one 11 (.one 12 (.one 13 (.one 15 (.one 16 .fin))))))))))))))))) (by kernel_rfl) (by kernel_rfl) (by kernel_rfl) ?_)
      simp -implicitDefEqProofs only [go_sem,gx,w1,q0,q1,ix2,hkw,kK,cK,iK,hya,hyr]
      refine ⟨(hwh _).useD ?_,(hwh _).useE ?_⟩
      · simp -implicitDefEqProofs only [go_sem,gx,w1,gx',w1',q0,q1,ix2,hkw,kK,cK,iK,hya,hyr,rE,lne]
        refine ⟨hsb.useD ?_,hsb.useE ?_⟩
        · simp -implicitDefEqProofs only [go_sem,gx,w1,gx',w1',q0,q1,ix2,hkw,kK,cK,iK,hya,hyr,rE,lne]
        · simp -implicitDefEqProofs only [go_sem,gx,w1,gx',w1',q0,q1,ix2,hkw,kK,cK,iK,hya,hyr,rE,lne]
      · simp -implicitDefEqProofs only [go_sem,gx,w1,gx',w1',q0,q1,ix2,hkw,kK,cK,iK,hya,hyr,rE,lne]
        refine hsb.useE ?_
        simp -implicitDefEqProofs only [go_sem,gx,w1,gx',w1',q0,q1,ix2,hkw,kK,cK,iK,hya,hyr,rE,lne]
    · rintro e _ ⟨t2,t3,t4,t5,t13,t14,t15,t16,t45,t46,t47,rfl⟩
      have gd:((ω1.alloc (.cells 2 [.agg [(.sc (.int .i64 (0))),(.sc (.int .i64 (0)))]])).set ω1.next (.cells 2 [.agg [(.sc (.int .i64 ((dOf s.cl c).1.1))),(.sc (.int .i64 ((dOf s.cl c).1.2)))]])).get ω1.next=some (.cells 2 [.agg [(.sc (.int .i64 ((dOf s.cl c).1.1))),(.sc (.int .i64 ((dOf s.cl c).1.2)))]]):=gss (by rw [alloc_next]; omega)
      have kd:=(KeepS.alloc ω1 (.cells 2 [.agg [(.sc (.int .i64 (0))),(.sc (.int .i64 (0)))]])).set (Nat.le_refl _) (.cells 2 [.agg [(.sc (.int .i64 ((dOf s.cl c).1.1))),(.sc (.int .i64 ((dOf s.cl c).1.2)))]])
      generalize (ω1.alloc (.cells 2 [.agg [(.sc (.int .i64 (0))),(.sc (.int .i64 (0)))]])).set ω1.next (.cells 2 [.agg [(.sc (.int .i64 ((dOf s.cl c).1.1))),(.sc (.int .i64 ((dOf s.cl c).1.2)))]])=ω2 at gd kd ⊢
      have x1:=kd.2 _ _ w1
      have x2:=kd.2 _ _ w2
      have xc:=kd.2 _ _ gx
      have l22:=AStore.lt_of_get x2
      have gc:(cnA c).cells=[(.sc (.int .i64 (c.k))),(.sc (.bool (c.lo))),(.sc (.bool (c.st))),(.sc (.int .i64 (c.c)))]:=rfl
      by_cases hz0:(dOf s.cl c).2=0
      · have hvd:validR (dOf s.cl c).1=true:=(subR_val hz0).2.2.1
        obtain ⟨d1,d2⟩:=in_of_valid hvd
        have hall':∀ (i:Nat) y,i < j+1->l[i]?=some y->(dOf s.cl y).2=0:=fun i y hi hy=>by
          by_cases hij:i=j
          · subst hij
            rw [hc'] at hy
            injection hy with hy
            rw [<-hy]; exact hz0
          · exact hall i y (by omega) hy
        have hnx:=mosF_next (cl:=s.cl) hc'
        have nw2:(ω.next=2)=False:=eq_false (by omega)
        have y1:∀ a,(ω2.set 2 a).get 1=some (.cells 3 [.agg [L,U,C]]):=fun a=>by rw [AStore.get_set,if_neg (by omega)]; exact x1
        have y2:∀ a,(ω2.set 2 a).get 2=some a:=fun a=>gss l22
        by_cases hj0:j=0
        · subst hj0
          have hm0:mosF s.cl (l.take (0+1))=some ((dOf s.cl c).1,!c.st):=hnx.trans mst_none
          generalize dOf s.cl c=dd at*
          simp -implicitDefEqProofs only [go_sem,t16,dct hz0]
          (repeat' first|refine vw ?_ ?_<;>intro hq|refine vz ?_|simp -implicitDefEqProofs only [go_sem,t16,t13,dct hz0])
          ((try (refine Z_seq ?_; (try simp -implicitDefEqProofs only [go_sem]))); refine Z_draw (by kernel_rfl) [0,1,2,3,4,5] [(5,31),(4,1),(3,6),(2,2),(1,0),(0,0)] (by kernel_rfl) (by kernel_rfl) ?_)
          simp -implicitDefEqProofs only [go_sem,t4,t14,t15,t47,xc,gd,x2,l22,hya,nw2,hw]
          exact ⟨(0+1,dd.1,!c.st),vom,⟨vom,y1 _,y2 _,hall',fun _=>⟨hm0,hvd⟩⟩,t2,t3,t4,rfl,t45,t46,rfl,trivial⟩
        · obtain ⟨hm1,hvb⟩:=hmo (by omega)
          rw [hm1] at hnx
          obtain ⟨b3,b4⟩:=in_of_valid hvb
          have hcm:=cmpC (w:=⟨w.w,[]⟩) (dOf s.cl c).1 b d1 d2 b3 b4
          have hcx:cmpR (dOf s.cl c).1 b=(sgn (dOf s.cl c).1 b,0):=by unfold cmpR; rw [hvd,hvb]; rfl
          rw [hcx] at hcm
          have hj1:decide ((0:Int) < (j:Int))=true:=dct (by omega)
          by_cases h1:sgn (dOf s.cl c).1 b < 0
          · have hm0:=hnx.trans (mst_lt h1)
            generalize dOf s.cl c=dd at*
            simp -implicitDefEqProofs only [go_sem,t16,dct hz0]
            (repeat' first|refine vw ?_ ?_<;>intro hq|refine vz ?_|simp -implicitDefEqProofs only [go_sem,t16,t13,t4,t15,gd,x2,hya,hyr,hj1,dct hz0])
            refine hcm.use ?_
            (repeat' first|refine vw ?_ ?_<;>intro hq|refine vz ?_|simp -implicitDefEqProofs only [go_sem,dct h1])
            ((try (refine Z_seq ?_; (try simp -implicitDefEqProofs only [go_sem]))); refine Z_draw (by kernel_rfl) [0,1,2,3,4,5] [(5,31),(4,1),(3,6),(2,2),(1,0),(0,0)] (by kernel_rfl) (by kernel_rfl) ?_)
            simp -implicitDefEqProofs only [go_sem,t4,t14,t15,t47,xc,gd,x2,l22,hya,nw2,hw]
            exact ⟨(j+1,dd.1,!c.st),vom,⟨vom,y1 _,y2 _,hall',fun _=>⟨hm0,hvd⟩⟩,t2,t3,t4,rfl,t45,t46,rfl,trivial⟩
          · by_cases h2:sgn (dOf s.cl c).1 b=0
            · have hm0:=hnx.trans (mst_eq h2)
              generalize dOf s.cl c=dd at*
              simp -implicitDefEqProofs only [go_sem,t16,dct hz0]
              (repeat' first|refine vw ?_ ?_<;>intro hq|refine vz ?_|simp -implicitDefEqProofs only [go_sem,t16,t13,t4,t15,gd,x2,hya,hyr,hj1,dct hz0])
              refine hcm.use ?_
              cases t with
              | true=>
                (repeat' first|refine vw ?_ ?_<;>intro hq|refine vz ?_|simp -implicitDefEqProofs only [go_sem,dcf h1,dct h2,t4,t5,t14,t15,t47,xc,gd,x2,l22,hya,nw2,hw])
                exact ⟨(j+1,b,!c.st),vom,⟨vom,x1,x2,hall',fun _=>⟨hm0,hvb⟩⟩,t2,t3,t4,rfl,t45,t46,rfl,trivial⟩
              | false=>
                (repeat' first|refine vw ?_ ?_<;>intro hq|refine vz ?_|simp -implicitDefEqProofs only [go_sem,dcf h1,dct h2,t4,t5,t14,t15,t47,xc,gd,x2,l22,hya,nw2,hw])
                exact ⟨(j+1,b,false),vom,⟨vom,x1,x2,hall',fun _=>⟨hm0,hvb⟩⟩,t2,t3,t4,rfl,t45,t46,rfl,trivial⟩
            · have hm0:=hnx.trans (mst_gt h1 h2)
              generalize dOf s.cl c=dd at*
              simp -implicitDefEqProofs only [go_sem,t16,dct hz0]
              (repeat' first|refine vw ?_ ?_<;>intro hq|refine vz ?_|simp -implicitDefEqProofs only [go_sem,t16,t13,t4,t15,gd,x2,hya,hyr,hj1,dct hz0])
              refine hcm.use ?_
              (repeat' first|refine vw ?_ ?_<;>intro hq|refine vz ?_|simp -implicitDefEqProofs only [go_sem,dcf h1,dcf h2,t4,t5,t14,t15,t47,xc,gd,x2,l22,hya,nw2,hw])
              exact ⟨(j+1,b,t),vom,⟨vom,x1,x2,hall',fun _=>⟨hm0,hvb⟩⟩,t2,t3,t4,t5,t45,t46,rfl,trivial⟩
      · simp -implicitDefEqProofs only [go_sem,t16,dcf hz0]
        (repeat' first|refine vw ?_ ?_<;>intro hq|refine vz ?_|simp -implicitDefEqProofs only [go_sem,t16,t4,dcf hz0,x2,l22])
        have e:=mosE_bad hall hc' hz0
        rw [if_pos (by rw [e]; exact hz0),e] at hw0
        exact fin (b:=(0,0)) hw0
  · obtain rfl:j=l.length:=by omega
    have hz:=mosE_good fun x hx=>by
      obtain ⟨i,hi,rfl⟩:=List.mem_iff_getElem.1 hx
      exact hall i _ hi (List.getElem?_eq_getElem hi)
    obtain ⟨hm1,hm2⟩:=hmo hlp
    rw [List.take_length] at hm1
    rw [if_neg (by simpa using hz),hm1] at hw0
    (repeat' first|refine vw ?_ ?_<;>intro hq|refine vz ?_|simp -implicitDefEqProofs only [go_sem,g2,l2,hya])
    exact fin (b:=b) hw0
end Abs
end
