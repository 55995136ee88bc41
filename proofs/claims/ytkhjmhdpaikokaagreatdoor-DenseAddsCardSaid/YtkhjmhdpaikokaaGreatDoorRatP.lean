/-
  Functions of the program walked: each is shown to compute a plain function (RatP).
-/
import Derived.Test.YtkhjmhdpaikokaaGreatDoorTF
import Derived.Test.YtkhjmhdpaikokaaGreatDoorAbsRow
import Derived.Test.YtkhjmhdpaikokaaGreatDoorN1
set_option linter.unusedSimpArgs false
set_option linter.unusedVariables false
set_option maxRecDepth 100000
set_option maxHeartbeats 16000000
noncomputable section
namespace Abs
open Go Go.Proofs
def rA (x:Int×Int):AVal:=.agg [(.sc (.int .i64 (x.1))),(.sc (.int .i64 (x.2)))]
def validR (x:Int×Int):Bool:=decide (0 < x.2) && (decide (x.2<=2147483647) && (decide (x.1.natAbs<=2147483647) && decide (Nat.gcd x.1.natAbs x.2.natAbs=1)))
def makeR (n d:Int):(Int×Int)×Int:=
 if d=0 then ((0,0),2)
 else
  let g:=Nat.gcd n.natAbs d.natAbs
  let a:=n.natAbs / g
  let b:=d.natAbs / g
  if 2147483647 < a\/2147483647 < b then ((0,0),7)
  else ((if decide (n < 0)=decide (d < 0) then (a:Int) else -(a:Int),b),0)
def rE (r:(Int×Int)×Int):AVal:=.tuple [rA r.1,(.sc (.int .i64 (r.2)))]
def addR (x y:Int×Int):(Int×Int)×Int:=if validR x && validR y then makeR (x.1*y.2+y.1*x.2) (x.2*y.2) else ((0,0),2)
theorem gcd1 {p:Nat}:∀ (b a:Nat) (w:WD) (σ:AStore),a < 18446744073709551616->b < 18446744073709551616->σ.get p=some (.cells 1 [.func (.func 140) [] [.ptr p 0 0]])->
  ACalls (EE w) 140 [(AVal.sc (Value.int IntKind.u64 (a))),(AVal.sc (Value.int IntKind.u64 (b))),.ptr p 0 0] σ fun e σ'=>σ'=σ/\e=.ret (AVal.sc (Value.int IntKind.u64 (Nat.gcd a b))):=by
 intro b
 induction b using Nat.strongRecOn with
 | ind b ih=>
  intro a w σ ha hb hg
  refine of_140 rfl rfl rfl (by kernel_rfl) ?_
  simp -implicitDefEqProofs only [go_sem]
  (refine vif ?_ ?_<;>intro h)
  ·simp -implicitDefEqProofs only [go_sem]
   obtain rfl:b=0:=by omega
   rw [Nat.gcd_zero_right]
  ·simp -implicitDefEqProofs only [go_sem]
   have hb0:b≠0:=by omega
   have hrem:=sc_remU (a:=a) hb0
   ((try (refine Z_seq ?_; (try simp -implicitDefEqProofs only [go_sem]))); refine Z_draw (by kernel_rfl) [0,1,2,3,4,5,6] [(6,63),(5,31),(4,12),(3,0),(2,0),(1,0),(0,0)] (by kernel_rfl) (by kernel_rfl) ?_)
   simp -implicitDefEqProofs only [go_sem,hg,hrem]
   refine (ih (a % b) (Nat.mod_lt _ (by omega)) b _ σ hb (by have:=Nat.mod_lt a (show 0 < b by omega); omega) hg).use1D ?_
   simp -implicitDefEqProofs only [go_sem]
   rw [Nat.gcd_comm b,<-Nat.gcd_rec,Nat.gcd_comm]
theorem gcdC {w:WD} (a b:Nat) (ha:a < 18446744073709551616) (hb:b < 18446744073709551616):GivesV (EE w) 117 [(AVal.sc (Value.int IntKind.u64 (a))),(AVal.sc (Value.int IntKind.u64 (b)))] (AVal.sc (Value.int IntKind.u64 (Nat.gcd a b))):=by
 refine GivesV.of gWF (.cons _ _ (.sc _) (.cons _ _ (.sc _) .nil)) 1 ?_
 refine of_117 rfl rfl rfl (by kernel_rfl) ?_
 simp -implicitDefEqProofs only [go_sem]
 refine (gcd1 b a _ _ ha hb (by simp -implicitDefEqProofs only [go_sem])).use1 ?_
 simp -implicitDefEqProofs only [go_sem]
 exact ⟨_,rfl,rfl⟩
theorem absC {w:WD} (n:Int) (hn:in64 n):GivesV (EE w) 116 [(.sc (.int .i64 (n)))] (AVal.sc (Value.int IntKind.u64 (n.natAbs))):=by
 obtain ⟨h1,h2⟩:=hn
 refine GivesV.of gWF (.cons _ _ (.sc _) .nil) 1 ?_
 refine of_116 rfl rfl rfl (by kernel_rfl) ?_
 simp -implicitDefEqProofs only [go_sem]
 (refine vif ?_ ?_<;>intro h)
 ·have e1:IntKind.u64.wrap n=n+18446744073709551616:=by
   have key:IntKind.u64.wrap n=n % 2 ^ 64:=by simp [IntKind.wrap,IntKind.bits,IntKind.signed]
   rw [key]; omega
  have e2:IntKind.u64.wrap (0 - (n+18446744073709551616))=(n.natAbs:Int):=by
   have key:IntKind.u64.wrap (0 - (n+18446744073709551616))=(0 - (n+18446744073709551616)) % 2 ^ 64:=by simp [IntKind.wrap,IntKind.bits,IntKind.signed]
   rw [key]; omega
  simp -implicitDefEqProofs only [go_sem,e1,e2]
  exact ⟨_,rfl,rfl⟩
 ·have e1:IntKind.u64.wrap n=(n.natAbs:Int):=by rw [wrapU (by omega) (by omega)]; omega
  simp -implicitDefEqProofs only [go_sem,e1]
  exact ⟨_,rfl,rfl⟩
theorem wfR (x:Int×Int):WF 0 (rA x):=.agg _ (.cons _ _ (.sc _) (.cons _ _ (.sc _) .nil))
theorem ratvC {w:WD} (x:Int×Int) (h1:in64 x.1) (h2:in64 x.2):GivesV (EE w) 111 [rA x] (.sc (.bool (validR x))):=by
 refine GivesV.of gWF (.cons _ _ (wfR x) .nil) 1 ?_
 have hn:=h1
 obtain ⟨h3,h4⟩:=h2
 have e1:0 < x.2->IntKind.u64.wrap x.2=(x.2.natAbs:Int):=fun h=>by rw [wrapU (by omega) (by omega)]; omega
 have hb1:x.1.natAbs < 18446744073709551616:=by obtain ⟨h5,h6⟩:=h1; omega
 have hb2:x.2.natAbs < 18446744073709551616:=by omega
 refine of_111 rfl rfl rfl (by kernel_rfl) ?_
 simp -implicitDefEqProofs only [go_sem,rA]
 ((try (refine Z_seq ?_; (try simp -implicitDefEqProofs only [go_sem]))); refine Z_draw (by kernel_rfl) [0,1,2,3,4,5,6,7,8,9,10,11,12,13,14,15,16,18,19,20,17,21,22,23,24] [(24,16777215),(23,8388607),(22,4194303),(21,2097151),(17,131071),(20,819199),(19,294911),(18,32767),(16,65535),(15,32767),(14,16383),(13,8191),(12,4095),(11,2047),(10,1023),(9,511),(8,255),(7,127),(6,63),(5,31),(4,15),(3,7),(2,3),(1,1),(0,0)] (by kernel_rfl) (by kernel_rfl) ?_)
 by_cases c1:0 < x.2
 ·by_cases c2:x.2<=2147483647
  ·simp -implicitDefEqProofs only [go_sem,dct c1,dct c2]
   refine (absC x.1 hn).useD ?_
   by_cases c3:(x.1.natAbs:Int)<=2147483647
   ·have c3':x.1.natAbs<=2147483647:=by omega
    simp -implicitDefEqProofs only [go_sem,dct c3,e1 c1]
    refine (absC x.1 hn).useD ?_
    simp -implicitDefEqProofs only [go_sem]
    refine (gcdC _ _ hb1 hb2).useD ?_
    simp -implicitDefEqProofs only [go_sem]
    refine ⟨_,rfl,?_⟩
    have:decide (((Nat.gcd x.1.natAbs x.2.natAbs:Nat):Int)=1)=decide (Nat.gcd x.1.natAbs x.2.natAbs=1):=by
     by_cases h:Nat.gcd x.1.natAbs x.2.natAbs=1
     ·rw [dct h,dct (by omega)]
     ·rw [dcf h,dcf (by omega)]
    simp only [validR,dct c1,dct c2,dct c3',Bool.true_and,frz_sc,this]
   ·have c3':¬ x.1.natAbs<=2147483647:=by omega
    simp -implicitDefEqProofs only [go_sem,dcf c3]
    refine ⟨_,rfl,?_⟩
    simp only [validR,dcf c3',Bool.false_and,Bool.and_false,frz_sc]
  ·simp -implicitDefEqProofs only [go_sem,dct c1,dcf c2]
   refine ⟨_,rfl,?_⟩
   simp only [validR,dcf c2,Bool.false_and,Bool.and_false,frz_sc]
 ·simp -implicitDefEqProofs only [go_sem,dcf c1]
  refine ⟨_,rfl,?_⟩
  simp only [validR,dcf c1,Bool.false_and,frz_sc]
theorem validsC {w:WD} (x y:Int×Int) (h1:in64 x.1) (h2:in64 x.2) (h3:in64 y.1) (h4:in64 y.2):GivesV (EE w) 71 [rA x,rA y] (.sc (.bool (validR x && validR y))):=by
 refine GivesV.of gWF (.cons _ _ (wfR x) (.cons _ _ (wfR y) .nil)) 1 ?_
 have hx:(rA x).fit=true:=id rfl
 have hy:(rA y).fit=true:=id rfl
 have lx:loadCs true 2 0 (rA x).cells=some (rA x):=rfl
 have ly:loadCs true 2 0 (rA y).cells=some (rA y):=rfl
 have kx:(rA x).cells.length=2:=rfl
 have ky:(rA y).cells.length=2:=rfl
 refine of_71 rfl rfl rfl (by kernel_rfl) ?_
 simp -implicitDefEqProofs only [go_sem,hx,hy,lx,ly,kx,ky]
 refine (ratvC x h1 h2).use ?_
 cases hv:validR x with
 | true=>
  simp -implicitDefEqProofs only [go_sem,hx,hy,lx,ly,kx,ky]
  refine (ratvC y h3 h4).use ?_
  simp -implicitDefEqProofs only [go_sem]
  exact ⟨_,rfl,rfl⟩
 | false=>
  simp -implicitDefEqProofs only [go_sem,hx,hy,lx,ly,kx,ky]
  exact ⟨_,rfl,rfl⟩
theorem makeC {w:WD} (n d:Int) (hn:in64 n) (hd:in64 d):GivesV (EE w) 79 [(.sc (.int .i64 (n))),(.sc (.int .i64 (d)))] (rE (makeR n d)):=by
 refine GivesV.of gWF (.cons _ _ (.sc _) (.cons _ _ (.sc _) .nil)) 4 ?_
 have hb1:n.natAbs < 18446744073709551616:=by obtain ⟨h5,h6⟩:=hn; omega
 have hb2:d.natAbs < 18446744073709551616:=by obtain ⟨h5,h6⟩:=hd; omega
 refine of_79 rfl rfl rfl (by kernel_rfl) ?_
 simp -implicitDefEqProofs only [go_sem]
 (refine vif ?_ ?_<;>intro h)
 ·simp -implicitDefEqProofs only [go_sem]
  exact ⟨_,rfl,by simp only [makeR,if_pos h]; rfl⟩
 ·simp -implicitDefEqProofs only [go_sem]
  refine (absC n hn).use ?_
  simp -implicitDefEqProofs only [go_sem]
  refine (absC d hd).use ?_
  simp -implicitDefEqProofs only [go_sem]
  refine (gcdC _ _ hb1 hb2).use ?_
  simp -implicitDefEqProofs only [go_sem]
  have hg0:Nat.gcd n.natAbs d.natAbs≠0:=by
   intro h0
   have:=Nat.eq_zero_of_gcd_eq_zero_right h0
   omega
  have hmk:makeR n d=if 2147483647 < n.natAbs / Nat.gcd n.natAbs d.natAbs\/2147483647 < d.natAbs / Nat.gcd n.natAbs d.natAbs then ((0,0),7)
   else ((if decide (n < 0)=decide (d < 0) then ((n.natAbs / Nat.gcd n.natAbs d.natAbs:Nat):Int) else -((n.natAbs / Nat.gcd n.natAbs d.natAbs:Nat):Int),((d.natAbs / Nat.gcd n.natAbs d.natAbs:Nat):Int)),0):=by
   simp only [makeR,if_neg h]
  have q1:=sc_quoU (a:=n.natAbs) hg0 hb1
  have q2:=sc_quoU (a:=d.natAbs) hg0 hb2
  rw [hmk]
  generalize n.natAbs / Nat.gcd n.natAbs d.natAbs=a at*
  generalize d.natAbs / Nat.gcd n.natAbs d.natAbs=b at*
  clear hmk
  ((try (refine Z_seq ?_; (try simp -implicitDefEqProofs only [go_sem]))); refine Z_draw (by kernel_rfl) [0,1,2,3,4,5,6,7] [(7,127),(6,7),(5,24),(4,0),(3,0),(2,3),(1,0),(0,0)] (by kernel_rfl) (by kernel_rfl) ?_)
  simp -implicitDefEqProofs only [go_sem,q1,q2]
  by_cases c1:(2147483647:Int) < (a:Int)
  ·simp -implicitDefEqProofs only [go_sem,dct c1]
   refine vzt ?_
   simp -implicitDefEqProofs only [go_sem]
   exact ⟨_,rfl,by rw [if_pos (.inl (by omega))]; rfl⟩
  ·by_cases c2:(2147483647:Int) < (b:Int)
   ·simp -implicitDefEqProofs only [go_sem,dcf c1,dct c2]
    refine vzt ?_
    simp -implicitDefEqProofs only [go_sem]
    exact ⟨_,rfl,by rw [if_pos (.inr (by omega))]; rfl⟩
   ·have w1:IntKind.i64.wrap (a:Int)=a:=wrap64 (by omega) (by omega)
    have w2:IntKind.i64.wrap (b:Int)=b:=wrap64 (by omega) (by omega)
    have w3:IntKind.i64.wrap (0 - (a:Int))=-(a:Int):=by rw [wrap64 (by omega) (by omega)]; omega
    rw [if_neg (by omega)]
    simp -implicitDefEqProofs only [go_sem,dcf c1,dcf c2]
    refine vzf ?_
    by_cases d1:n < 0
    ·by_cases d2:d < 0
     ·simp -implicitDefEqProofs only [go_sem,dct d1,dct d2,w1,w2]
      refine vzf ?_
      simp -implicitDefEqProofs only [go_sem]
      exact ⟨_,rfl,by first|rfl|(rw [if_pos (by simp [d1,d2])]; rfl)⟩
     ·simp -implicitDefEqProofs only [go_sem,dct d1,dcf d2,w1,w2]
      refine vzt ?_
      simp -implicitDefEqProofs only [go_sem,w3]
      exact ⟨_,rfl,by first|rfl|(rw [if_neg (by simp [d1,d2])]; rfl)⟩
    ·by_cases d2:d < 0
     ·simp -implicitDefEqProofs only [go_sem,dcf d1,dct d2,w1,w2]
      refine vzt ?_
      simp -implicitDefEqProofs only [go_sem,w3]
      exact ⟨_,rfl,by first|rfl|(rw [if_neg (by simp [d1,d2])]; rfl)⟩
     ·simp -implicitDefEqProofs only [go_sem,dcf d1,dcf d2,w1,w2]
      refine vzf ?_
      simp -implicitDefEqProofs only [go_sem]
      exact ⟨_,rfl,by first|rfl|(rw [if_pos (by simp [d1,d2])]; rfl)⟩
theorem validR_bounds {x:Int×Int} (h:validR x=true):0 < x.2/\x.2<=2147483647/\-2147483647<=x.1/\x.1<=2147483647:=by
 simp only [validR,Bool.and_eq_true,decide_eq_true_eq] at h
 obtain ⟨h1,h2,h3,_⟩:=h
 omega
theorem addC {w:WD} (x y:Int×Int) (h1:in64 x.1) (h2:in64 x.2) (h3:in64 y.1) (h4:in64 y.2):GivesV (EE w) 39 [rA x,rA y] (rE (addR x y)):=by
 refine GivesV.of gWF (.cons _ _ (wfR x) (.cons _ _ (wfR y) .nil)) 4 ?_
 have hx:(rA x).fit=true:=id rfl
 have hy:(rA y).fit=true:=id rfl
 have lx:loadCs true 2 0 (rA x).cells=some (rA x):=rfl
 have ly:loadCs true 2 0 (rA y).cells=some (rA y):=rfl
 have kx:(rA x).cells.length=2:=rfl
 have ky:(rA y).cells.length=2:=rfl
 refine of_39 rfl rfl rfl (by kernel_rfl) ?_
 simp -implicitDefEqProofs only [go_sem,hx,hy,lx,ly,kx,ky]
 refine (validsC x y h1 h2 h3 h4).use ?_
 cases hv:validR x && validR y with
 | false=>
  simp -implicitDefEqProofs only [go_sem]
  refine vzt ?_
  simp -implicitDefEqProofs only [go_sem]
  exact ⟨_,rfl,by simp only [addR,hv]; rfl⟩
 | true=>
  have hv':=hv
  simp only [Bool.and_eq_true] at hv'
  obtain ⟨a1,a2,a3,a4⟩:=validR_bounds hv'.1
  obtain ⟨b1,b2,b3,b4⟩:=validR_bounds hv'.2
  have bd:∀ p q:Int,-2147483647<=p->p<=2147483647->0 < q->q<=2147483647->-4611686014132420609<=p*q/\p*q<=4611686014132420609:=by
   intro p q g1 g2 g3 g4
   constructor
   ·have:=Int.mul_le_mul_of_nonneg_right g1 (by omega:0<=q)
    omega
   ·have:=Int.mul_le_mul_of_nonneg_right g2 (by omega:0<=q)
    omega
  obtain ⟨p1,p2⟩:=bd x.1 y.2 a3 a4 b1 b2
  obtain ⟨p3,p4⟩:=bd y.1 x.2 b3 b4 a1 a2
  obtain ⟨p5,p6⟩:=bd x.2 y.2 (by omega) a2 b1 b2
  have w1:IntKind.i64.wrap (x.1*y.2)=x.1*y.2:=wrap64 (by omega) (by omega)
  have w2:IntKind.i64.wrap (y.1*x.2)=y.1*x.2:=wrap64 (by omega) (by omega)
  have w3:IntKind.i64.wrap (x.2*y.2)=x.2*y.2:=wrap64 (by omega) (by omega)
  have w4:IntKind.i64.wrap (x.1*y.2+y.1*x.2)=x.1*y.2+y.1*x.2:=wrap64 (by omega) (by omega)
  simp -implicitDefEqProofs only [go_sem]
  refine vzf ?_
  simp -implicitDefEqProofs only [go_sem,rA,w1,w2,w3,w4]
  refine (makeC _ _ ⟨vom,vom⟩ ⟨vom,vom⟩).use ?_
  simp -implicitDefEqProofs only [go_sem,rE,rA]
  refine ⟨_,rfl,?_⟩
  simp only [addR,hv,if_true,rE,rA]
  try rfl
theorem divisorC {w:WD} (a b:Nat) (ha:a < 18446744073709551616) (hb:b < 18446744073709551616):GivesV (EE w) 74 [(AVal.sc (Value.int IntKind.u64 (a))),(AVal.sc (Value.int IntKind.u64 (b)))] (AVal.sc (Value.int IntKind.u64 (Nat.gcd a b))):=by
 refine GivesV.of gWF (.cons _ _ (.sc _) (.cons _ _ (.sc _) .nil)) 1 ?_
 refine of_74 rfl rfl rfl (by kernel_rfl) ?_
 simp -implicitDefEqProofs only [go_sem]
 refine Z_seq_loop (ι:=Nat×Nat) (fun s=>[(0,(AVal.sc (Value.int IntKind.u64 (s.1)))),(1,(AVal.sc (Value.int IntKind.u64 (s.2))))]) (fun s _=>s.1 < 18446744073709551616/\s.2 < 18446744073709551616/\Nat.gcd s.1 s.2=Nat.gcd a b) (fun s=>s.2) (fun _=>rfl) (a,b) ?_ ⟨ha,hb,rfl⟩ ?_
 ·exact vsu
 rintro ⟨x,y⟩ σ ⟨hx,hy,hg⟩
 simp only at hx hy hg
 simp -implicitDefEqProofs only [go_sem]
 (refine vif ?_ ?_<;>intro h)
 ·have hy0:y≠0:=by omega
  have hrem:=sc_remU (a:=x) hy0
  (repeat' first|refine vw ?_ ?_<;>intro hq|refine vz ?_|simp -implicitDefEqProofs only [go_sem])
  ((try (refine Z_seq ?_; (try simp -implicitDefEqProofs only [go_sem]))); refine Z_draw (by kernel_rfl) [0,1,2,3,4,5] [(5,31),(4,3),(3,6),(2,0),(1,0),(0,0)] (by kernel_rfl) (by kernel_rfl) ?_)
  simp -implicitDefEqProofs only [go_sem,hrem]
  refine ⟨(y,x % y),Nat.mod_lt _ (by omega),⟨hy,by have:=Nat.mod_lt x (show 0 < y by omega); dsimp only; omega,?_⟩,?_⟩
  ·dsimp only
   rw [<-hg,Nat.gcd_comm y,<-Nat.gcd_rec,Nat.gcd_comm]
  ·exact vsu
 ·obtain rfl:y=0:=by omega
  simp -implicitDefEqProofs only [go_sem]
  rw [Nat.gcd_zero_right] at hg
  subst hg
  exact ⟨_,rfl,rfl⟩
theorem sizeC {w:WD} (n:Int) (hn:in64 n):GivesV (EE w) 75 [(.sc (.int .i64 (n)))] (AVal.sc (Value.int IntKind.u64 (n.natAbs))):=by
 obtain ⟨h1,h2⟩:=hn
 refine GivesV.of gWF (.cons _ _ (.sc _) .nil) 1 ?_
 refine of_75 rfl rfl rfl (by kernel_rfl) ?_
 simp -implicitDefEqProofs only [go_sem]
 (refine vif ?_ ?_<;>intro h)
 ·have e1:IntKind.i64.wrap (n+1)=n+1:=wrap64 (by omega) (by omega)
  have e2:IntKind.i64.wrap (0 - (n+1))=-(n+1):=by rw [wrap64 (by omega) (by omega)]; omega
  have e3:IntKind.u64.wrap (-(n+1))=-(n+1):=wrapU (by omega) (by omega)
  have e4:IntKind.u64.wrap (-(n+1)+1)=(n.natAbs:Int):=by rw [wrapU (by omega) (by omega)]; omega
  simp -implicitDefEqProofs only [go_sem,e1,e2,e3,e4]
  exact ⟨_,rfl,rfl⟩
 ·have e1:IntKind.u64.wrap n=(n.natAbs:Int):=by rw [wrapU (by omega) (by omega)]; omega
  simp -implicitDefEqProofs only [go_sem,e1]
  exact ⟨_,rfl,rfl⟩
theorem rvalidC {w:WD} (x:Int×Int) (h1:in64 x.1) (h2:in64 x.2):GivesV (EE w) 34 [rA x] (.sc (.bool (validR x))):=by
 refine GivesV.of gWF (.cons _ _ (wfR x) .nil) 1 ?_
 have hb1:x.1.natAbs < 18446744073709551616:=by obtain ⟨h5,h6⟩:=h1; omega
 have hb2:x.2.natAbs < 18446744073709551616:=by obtain ⟨h5,h6⟩:=h2; omega
 have key:validR x=(decide (1<=x.2) && (decide (x.2<=2147483647) && (decide (-2147483647<=x.1) && (decide (x.1<=2147483647) && decide (Nat.gcd x.1.natAbs x.2.natAbs=1))))):=by
  simp only [validR]
  rw [Bool.eq_iff_iff]
  simp only [Bool.and_eq_true,decide_eq_true_eq]
  omega
 rw [key]
 refine of_34 rfl rfl rfl (by kernel_rfl) ?_
 simp -implicitDefEqProofs only [go_sem,rA]
 ((try (refine Z_seq ?_; (try simp -implicitDefEqProofs only [go_sem]))); refine Z_draw (by kernel_rfl) [0,1,2,3,4,5,6,7,8,9,10,11,12,13,14,15,16,17,18,19,20,22,23,21,24,25,26,27,28] [(28,268435455),(27,134217727),(26,67108863),(25,33554431),(24,16777215),(21,2097151),(23,4718591),(22,524287),(20,1048575),(19,524287),(18,262143),(17,131071),(16,65535),(15,32767),(14,16383),(13,8191),(12,4095),(11,2047),(10,1023),(9,511),(8,255),(7,127),(6,63),(5,31),(4,15),(3,7),(2,3),(1,1),(0,0)] (by kernel_rfl) (by kernel_rfl) ?_)
 by_cases c1:1<=x.2
 ·by_cases c2:x.2<=2147483647
  ·by_cases c3:-2147483647<=x.1
   ·by_cases c4:x.1<=2147483647
    ·simp -implicitDefEqProofs only [go_sem,dct c1,dct c2,dct c3,dct c4]
     refine (sizeC x.1 h1).useD ?_
     simp -implicitDefEqProofs only [go_sem]
     refine (sizeC x.2 h2).useD ?_
     simp -implicitDefEqProofs only [go_sem]
     refine (divisorC _ _ hb1 hb2).useD ?_
     simp -implicitDefEqProofs only [go_sem]
     refine ⟨_,rfl,?_⟩
     have:decide (((Nat.gcd x.1.natAbs x.2.natAbs:Nat):Int)=1)=decide (Nat.gcd x.1.natAbs x.2.natAbs=1):=by
      by_cases h:Nat.gcd x.1.natAbs x.2.natAbs=1
      ·rw [dct h,dct (by omega)]
      ·rw [dcf h,dcf (by omega)]
     simp only [dct c1,dct c2,dct c3,dct c4,Bool.true_and,frz_sc,this]
    ·simp -implicitDefEqProofs only [go_sem,dct c1,dct c2,dct c3,dcf c4]
     refine ⟨_,rfl,?_⟩
     simp only [dcf c4,Bool.false_and,Bool.and_false,frz_sc]
   ·simp -implicitDefEqProofs only [go_sem,dct c1,dct c2,dcf c3]
    refine ⟨_,rfl,?_⟩
    simp only [dcf c3,Bool.false_and,Bool.and_false,frz_sc]
  ·simp -implicitDefEqProofs only [go_sem,dct c1,dcf c2]
   refine ⟨_,rfl,?_⟩
   simp only [dcf c2,Bool.false_and,Bool.and_false,frz_sc]
 ·simp -implicitDefEqProofs only [go_sem,dcf c1]
  refine ⟨_,rfl,?_⟩
  simp only [dcf c1,Bool.false_and,Bool.and_false,frz_sc]
theorem rmakeC {w:WD} (n d:Int) (hn:in64 n) (hd:in64 d):GivesV (EE w) 43 [(.sc (.int .i64 (n))),(.sc (.int .i64 (d)))] (rE (makeR n d)):=by
 refine GivesV.of gWF (.cons _ _ (.sc _) (.cons _ _ (.sc _) .nil)) 4 ?_
 have hb1:n.natAbs < 18446744073709551616:=by obtain ⟨h5,h6⟩:=hn; omega
 have hb2:d.natAbs < 18446744073709551616:=by obtain ⟨h5,h6⟩:=hd; omega
 refine of_43 rfl rfl rfl (by kernel_rfl) ?_
 simp -implicitDefEqProofs only [go_sem]
 (refine vif ?_ ?_<;>intro h)
 ·simp -implicitDefEqProofs only [go_sem]
  exact ⟨_,rfl,by simp only [makeR,if_pos h]; rfl⟩
 ·simp -implicitDefEqProofs only [go_sem]
  refine (sizeC n hn).use ?_
  simp -implicitDefEqProofs only [go_sem]
  refine (sizeC d hd).use ?_
  simp -implicitDefEqProofs only [go_sem]
  refine (divisorC _ _ hb1 hb2).use ?_
  have hg0:Nat.gcd n.natAbs d.natAbs≠0:=by
   intro h0
   have:=Nat.eq_zero_of_gcd_eq_zero_right h0
   omega
  have hmk:makeR n d=if 2147483647 < n.natAbs / Nat.gcd n.natAbs d.natAbs\/2147483647 < d.natAbs / Nat.gcd n.natAbs d.natAbs then ((0,0),7)
   else ((if decide (n < 0)=decide (d < 0) then ((n.natAbs / Nat.gcd n.natAbs d.natAbs:Nat):Int) else -((n.natAbs / Nat.gcd n.natAbs d.natAbs:Nat):Int),((d.natAbs / Nat.gcd n.natAbs d.natAbs:Nat):Int)),0):=by
   simp only [makeR,if_neg h]
  have q1:=sc_quoU (a:=n.natAbs) hg0 hb1
  have q2:=sc_quoU (a:=d.natAbs) hg0 hb2
  rw [hmk]
  generalize hga:n.natAbs / Nat.gcd n.natAbs d.natAbs=a at*
  generalize hgb:d.natAbs / Nat.gcd n.natAbs d.natAbs=b at*
  clear hmk
  simp -implicitDefEqProofs only [go_sem]
  ((try (refine Z_seq ?_; (try simp -implicitDefEqProofs only [go_sem]))); refine Z_draw (by kernel_rfl) [0,2,4,6,1,3,5,7,8,9] [(9,511),(8,63),(7,115),(5,19),(3,7),(1,1),(6,0),(4,0),(2,0),(0,0)] (by kernel_rfl) (by kernel_rfl) ?_)
  simp -implicitDefEqProofs only [go_sem]
  refine (sizeC n hn).useD ?_
  simp -implicitDefEqProofs only [go_sem,q1]
  refine (sizeC d hd).useD ?_
  simp -implicitDefEqProofs only [go_sem,q1,q2]
  by_cases c1:(2147483647:Int) < (a:Int)
  ·simp -implicitDefEqProofs only [go_sem,dct c1]
   refine vzt ?_
   simp -implicitDefEqProofs only [go_sem]
   exact ⟨_,rfl,by rw [if_pos (.inl (by omega))]; rfl⟩
  ·by_cases c2:(2147483647:Int) < (b:Int)
   ·simp -implicitDefEqProofs only [go_sem,dcf c1,dct c2]
    refine vzt ?_
    simp -implicitDefEqProofs only [go_sem]
    exact ⟨_,rfl,by rw [if_pos (.inr (by omega))]; rfl⟩
   ·have w1:IntKind.i64.wrap (a:Int)=a:=wrap64 (by omega) (by omega)
    have w2:IntKind.i64.wrap (b:Int)=b:=wrap64 (by omega) (by omega)
    have w3:IntKind.i64.wrap (0 - (a:Int))=-(a:Int):=by rw [wrap64 (by omega) (by omega)]; omega
    rw [if_neg (by omega)]
    simp -implicitDefEqProofs only [go_sem,dcf c1,dcf c2]
    refine vzf ?_
    by_cases d1:n < 0
    ·by_cases d2:d < 0
     ·simp -implicitDefEqProofs only [go_sem,dct d1,dct d2,w1,w2]
      refine vzf ?_
      simp -implicitDefEqProofs only [go_sem]
      exact ⟨_,rfl,by first|rfl|(rw [if_pos (by simp [d1,d2])]; rfl)⟩
     ·simp -implicitDefEqProofs only [go_sem,dct d1,dcf d2,w1,w2]
      refine vzt ?_
      simp -implicitDefEqProofs only [go_sem,w3]
      exact ⟨_,rfl,by first|rfl|(rw [if_neg (by simp [d1,d2])]; rfl)⟩
    ·by_cases d2:d < 0
     ·simp -implicitDefEqProofs only [go_sem,dcf d1,dct d2,w1,w2]
      refine vzt ?_
      simp -implicitDefEqProofs only [go_sem,w3]
      exact ⟨_,rfl,by first|rfl|(rw [if_neg (by simp [d1,d2])]; rfl)⟩
     ·simp -implicitDefEqProofs only [go_sem,dcf d1,dcf d2,w1,w2]
      refine vzf ?_
      simp -implicitDefEqProofs only [go_sem]
      exact ⟨_,rfl,by first|rfl|(rw [if_pos (by simp [d1,d2])]; rfl)⟩
theorem raddC {w:WD} (x y:Int×Int) (h1:in64 x.1) (h2:in64 x.2) (h3:in64 y.1) (h4:in64 y.2):GivesV (EE w) 18 [rA x,rA y] (rE (addR x y)):=by
 refine GivesV.of gWF (.cons _ _ (wfR x) (.cons _ _ (wfR y) .nil)) 4 ?_
 have hx:(rA x).fit=true:=id rfl
 have hy:(rA y).fit=true:=id rfl
 have lx:loadCs true 2 0 (rA x).cells=some (rA x):=rfl
 have ly:loadCs true 2 0 (rA y).cells=some (rA y):=rfl
 have kx:(rA x).cells.length=2:=rfl
 have ky:(rA y).cells.length=2:=rfl
 refine of_18 rfl rfl rfl (by kernel_rfl) ?_
 simp -implicitDefEqProofs only [go_sem,hx,hy,lx,ly,kx,ky]
 refine (rvalidC x h1 h2).use ?_
 have fin0:validR x=false\/validR y=false->addR x y=((0,0),2):=by
  intro h
  simp only [addR]
  rcases h with h|h<;>simp [h]
 cases hv:validR x with
 | false=>
  simp -implicitDefEqProofs only [go_sem]
  refine vzt ?_
  simp -implicitDefEqProofs only [go_sem]
  exact ⟨_,rfl,by rw [fin0 (.inl hv)]; rfl⟩
 | true=>
  simp -implicitDefEqProofs only [go_sem,hx,hy,lx,ly,kx,ky]
  refine (rvalidC y h3 h4).use ?_
  cases hv2:validR y with
  | false=>
   simp -implicitDefEqProofs only [go_sem]
   refine vzt ?_
   simp -implicitDefEqProofs only [go_sem]
   exact ⟨_,rfl,by rw [fin0 (.inr hv2)]; rfl⟩
  | true=>
   obtain ⟨a1,a2,a3,a4⟩:=validR_bounds hv
   obtain ⟨b1,b2,b3,b4⟩:=validR_bounds hv2
   have bd:∀ p q:Int,-2147483647<=p->p<=2147483647->0 < q->q<=2147483647->-4611686014132420609<=p*q/\p*q<=4611686014132420609:=by
    intro p q g1 g2 g3 g4
    constructor
    ·have:=Int.mul_le_mul_of_nonneg_right g1 (by omega:0<=q)
     omega
    ·have:=Int.mul_le_mul_of_nonneg_right g2 (by omega:0<=q)
     omega
   obtain ⟨p1,p2⟩:=bd x.1 y.2 a3 a4 b1 b2
   obtain ⟨p3,p4⟩:=bd y.1 x.2 b3 b4 a1 a2
   obtain ⟨p5,p6⟩:=bd x.2 y.2 (by omega) a2 b1 b2
   have w1:IntKind.i64.wrap (x.1*y.2)=x.1*y.2:=wrap64 (by omega) (by omega)
   have w2:IntKind.i64.wrap (y.1*x.2)=y.1*x.2:=wrap64 (by omega) (by omega)
   have w3:IntKind.i64.wrap (x.2*y.2)=x.2*y.2:=wrap64 (by omega) (by omega)
   have w4:IntKind.i64.wrap (x.1*y.2+y.1*x.2)=x.1*y.2+y.1*x.2:=wrap64 (by omega) (by omega)
   simp -implicitDefEqProofs only [go_sem]
   refine vzf ?_
   simp -implicitDefEqProofs only [go_sem,rA,w1,w2,w3,w4]
   refine (rmakeC _ _ ⟨vom,vom⟩ ⟨vom,vom⟩).use ?_
   simp -implicitDefEqProofs only [go_sem,rE,rA]
   refine ⟨_,rfl,?_⟩
   simp only [addR,hv,hv2,Bool.and_self,if_true,rE,rA]
   try rfl
def sgn (x y:Int×Int):Int:=if x.1*y.2 < y.1*x.2 then -1 else if x.1*y.2 > y.1*x.2 then 1 else 0
def cmpR (x y:Int×Int):Int×Int:=if validR x && validR y then (sgn x y,0) else (0,2)
theorem validR_b {x:Int×Int} (h:validR x=true):0 < x.2/\x.2<=2147483647/\-2147483647<=x.1/\x.1<=2147483647:=by
 simp only [validR,Bool.and_eq_true,decide_eq_true_eq] at h
 exact ⟨h.1,h.2.1,vom,vom⟩
theorem mul_in {a b:Int} (ha:-2147483647<=a) (ha2:a<=2147483647) (hb:0 < b) (hb2:b<=2147483647):-4611686014132420609<=a*b/\a*b<=4611686014132420609:=by
 have h1:a*b<=2147483647*b:=Int.mul_le_mul_of_nonneg_right ha2 (by omega)
 have h2:(-2147483647)*b<=a*b:=Int.mul_le_mul_of_nonneg_right ha (by omega)
 omega
theorem rcmpC {w:WD} (x y:Int×Int) (h1:in64 x.1) (h2:in64 x.2) (h3:in64 y.1) (h4:in64 y.2):GivesV (EE w) 19 [rA x,rA y] (.tuple [(.sc (.int .i64 ((cmpR x y).1))),(.sc (.int .i64 ((cmpR x y).2)))]):=by
 refine GivesV.of gWF (.cons _ _ (wfR x) (.cons _ _ (wfR y) .nil)) 4 ?_
 have hx:(rA x).fit=true:=id rfl
 have hy:(rA y).fit=true:=id rfl
 have lx:loadCs true 2 0 (rA x).cells=some (rA x):=rfl
 have ly:loadCs true 2 0 (rA y).cells=some (rA y):=rfl
 have kx:(rA x).cells.length=2:=rfl
 have ky:(rA y).cells.length=2:=rfl
 refine of_19 rfl rfl rfl (by kernel_rfl) ?_
 simp -implicitDefEqProofs only [go_sem,hx,hy,lx,ly,kx,ky]
 refine (rvalidC x h1 h2).use ?_
 cases hv:validR x with
 | false=>
  (repeat' first|refine vw ?_ ?_<;>intro hq|refine vz ?_|simp -implicitDefEqProofs only [go_sem,hx,hy,lx,ly,kx,ky])
  exact ⟨_,rfl,by simp only [cmpR,hv,Bool.false_and]; rfl⟩
 | true=>
  simp -implicitDefEqProofs only [go_sem,hx,hy,lx,ly,kx,ky]
  refine (rvalidC y h3 h4).use ?_
  cases hv2:validR y with
  | false=>
   (repeat' first|refine vw ?_ ?_<;>intro hq|refine vz ?_|simp -implicitDefEqProofs only [go_sem,hx,hy,lx,ly,kx,ky])
   exact ⟨_,rfl,by simp only [cmpR,hv,hv2,Bool.and_false]; rfl⟩
  | true=>
   have hc:cmpR x y=(sgn x y,0):=by simp only [cmpR,hv,hv2]; rfl
   rw [hc]
   obtain ⟨a1,a2,a3,a4⟩:=validR_b hv
   obtain ⟨b1,b2,b3,b4⟩:=validR_b hv2
   have w1:IntKind.i64.wrap (x.1*y.2)=x.1*y.2:=by have:=mul_in a3 a4 b1 b2; exact wrap64 (by omega) (by omega)
   have w2:IntKind.i64.wrap (y.1*x.2)=y.1*x.2:=by have:=mul_in b3 b4 a1 a2; exact wrap64 (by omega) (by omega)
   (repeat' first|refine vw ?_ ?_<;>intro hq|refine vz ?_|simp -implicitDefEqProofs only [go_sem,hx,hy,lx,ly,kx,ky])
   ((try (refine Z_seq ?_; (try simp -implicitDefEqProofs only [go_sem]))); refine Z_draw (by kernel_rfl) [0,1,2,3,4,5,6,7,8,9,10,11] [(11,2047),(10,31),(9,480),(8,128),(7,0),(6,32),(5,0),(4,15),(3,4),(2,0),(1,1),(0,0)] (by kernel_rfl) (by kernel_rfl) ?_)
   simp -implicitDefEqProofs only [go_sem,rA,w1,w2]
   unfold sgn
   by_cases c1:x.1*y.2 < y.1*x.2
   ·rw [if_pos c1]
    (repeat' first|refine vw ?_ ?_<;>intro hq|refine vz ?_|simp -implicitDefEqProofs only [go_sem,dct c1])
    exact ⟨_,rfl,rfl⟩
   ·rw [if_neg c1]
    by_cases c2:y.1*x.2 < x.1*y.2
    ·rw [if_pos c2]
     (repeat' first|refine vw ?_ ?_<;>intro hq|refine vz ?_|simp -implicitDefEqProofs only [go_sem,dcf c1,dct c2])
     exact ⟨_,rfl,rfl⟩
    ·rw [if_neg c2]
     (repeat' first|refine vw ?_ ?_<;>intro hq|refine vz ?_|simp -implicitDefEqProofs only [go_sem,dcf c1,dcf c2])
     exact ⟨_,rfl,rfl⟩
def meetsP (s:Int) (lower strict:Bool):Bool:=if lower then decide (0 < s) || (decide (s=0) && !strict) else decide (s < 0) || (decide (s=0) && !strict)
theorem wholePC {w:WD} (n:Int):GivesV (EE w) 27 [(.sc (.int .i64 (n)))] (rA (n,1)):=by
 refine GivesV.of gWF (.cons _ _ (.sc _) .nil) 4 ?_
 refine of_27 rfl rfl rfl (by kernel_rfl) ?_
 simp -implicitDefEqProofs only [go_sem,rA]
 exact ⟨_,rfl,rfl⟩
theorem cmpC {w:WD} (x y:Int×Int) (h1:in64 x.1) (h2:in64 x.2) (h3:in64 y.1) (h4:in64 y.2):GivesV (EE w) 31 [rA x,rA y] (.tuple [(.sc (.int .i64 ((cmpR x y).1))),(.sc (.int .i64 ((cmpR x y).2)))]):=by
 refine GivesV.of gWF (.cons _ _ (wfR x) (.cons _ _ (wfR y) .nil)) 4 ?_
 have hx:(rA x).fit=true:=id rfl
 have hy:(rA y).fit=true:=id rfl
 have lx:loadCs true 2 0 (rA x).cells=some (rA x):=rfl
 have ly:loadCs true 2 0 (rA y).cells=some (rA y):=rfl
 have kx:(rA x).cells.length=2:=rfl
 have ky:(rA y).cells.length=2:=rfl
 refine of_31 rfl rfl rfl (by kernel_rfl) ?_
 simp -implicitDefEqProofs only [go_sem,hx,hy,lx,ly,kx,ky]
 refine (validsC x y h1 h2 h3 h4).use ?_
 cases hv:(validR x && validR y) with
 | false=>
  (repeat' first|refine vw ?_ ?_<;>intro hq|refine vz ?_|simp -implicitDefEqProofs only [go_sem,hx,hy,lx,ly,kx,ky])
  exact ⟨_,rfl,by simp only [cmpR,hv]; rfl⟩
 | true=>
  have hc:cmpR x y=(sgn x y,0):=by simp only [cmpR,hv]; rfl
  rw [hc]
  rw [Bool.and_eq_true] at hv
  obtain ⟨a1,a2,a3,a4⟩:=validR_b hv.1
  obtain ⟨b1,b2,b3,b4⟩:=validR_b hv.2
  have m1:=mul_in a3 a4 b1 b2
  have m2:=mul_in b3 b4 a1 a2
  have w1:IntKind.i64.wrap (x.1*y.2)=x.1*y.2:=wrap64 (by omega) (by omega)
  have w2:IntKind.i64.wrap (y.1*x.2)=y.1*x.2:=wrap64 (by omega) (by omega)
  have w3:IntKind.i64.wrap (x.1*y.2 - y.1*x.2)=x.1*y.2 - y.1*x.2:=wrap64 (by omega) (by omega)
  simp -implicitDefEqProofs only [go_sem,rA,w1,w2,w3]
  unfold sgn
  by_cases c1:x.1*y.2 < y.1*x.2
  ·rw [if_pos c1]
   have d1:x.1*y.2 - y.1*x.2 < 0:=by omega
   (repeat' first|refine vw ?_ ?_<;>intro hq|refine vz ?_|simp -implicitDefEqProofs only [go_sem,rA,w1,w2,w3,dct d1])
   exact ⟨_,rfl,rfl⟩
  ·rw [if_neg c1]
   have d1:¬ x.1*y.2 - y.1*x.2 < 0:=by omega
   by_cases c2:y.1*x.2 < x.1*y.2
   ·rw [if_pos c2]
    have d2:0 < x.1*y.2 - y.1*x.2:=by omega
    (repeat' first|refine vw ?_ ?_<;>intro hq|refine vz ?_|simp -implicitDefEqProofs only [go_sem,rA,w1,w2,w3,dcf d1,dct d2])
    exact ⟨_,rfl,rfl⟩
   ·rw [if_neg c2]
    have d2:¬ 0 < x.1*y.2 - y.1*x.2:=by omega
    (repeat' first|refine vw ?_ ?_<;>intro hq|refine vz ?_|simp -implicitDefEqProofs only [go_sem,rA,w1,w2,w3,dcf d1,dcf d2])
    exact ⟨_,rfl,rfl⟩
def ckAt (cl:List (Int×Int)) (c:Cn):Int×Int:=(cl[(c.k - 1).toNat]?).getD (0,1)
def meB (cl:List (Int×Int)) (c:Cn):Bool:=meetsP (sgn (ckAt cl c) (c.c,1)) c.lo c.st
def holdsB (l:List Cn) (cl:List (Int×Int)):Bool:=l.all (meB cl)
theorem holds_bad {l:List Cn} {cl:List (Int×Int)} {i:Nat} {c:Cn} (h:l[i]?=some c) (hb:meB cl c=false):holdsB l cl=false:=by
 unfold holdsB
 rw [List.all_eq_false]
 exact ⟨c,List.mem_of_getElem? h,by simp [hb]⟩
theorem holds_good {l:List Cn} {cl:List (Int×Int)} (h:∀ (j:Nat) c,j < l.length->l[j]?=some c->meB cl c=true):holdsB l cl=true:=by
 unfold holdsB
 rw [List.all_eq_true]
 intro c hc
 obtain ⟨j,hj,rfl⟩:=List.mem_iff_getElem.1 hc
 exact h j _ hj (List.getElem?_eq_getElem hj)
theorem valid_whole {c:Int} (h0:0<=c) (h1:c<=1048576):validR (c,1)=true:=by
 simp only [validR,Bool.and_eq_true,decide_eq_true_eq]
 refine ⟨by decide,by decide,vom,?_⟩
 show Nat.gcd c.natAbs 1=1
 exact Nat.gcd_one_right _
/-- What is asked of clocks and constraints. -/
structure HoOk (l:List Cn) (cl:List (Int×Int)):Prop where
 v:∀ x∈cl,validR x=true
 k:∀ c∈l,(1<=c.k/\c.k<=cl.length)/\0<=c.c/\c.c<=1048576
theorem HoOk.at {l:List Cn} {cl:List (Int×Int)} (h:HoOk l cl) {c:Cn} (hc:c∈l):∃ (m:Nat) (x:Int×Int),c.k=(m:Int)+1/\cl[m]?=some x/\ckAt cl c=x/\validR x=true/\cmpR x (c.c,1)=(sgn x (c.c,1),0):=by
 obtain ⟨⟨h1,h2⟩,h3,h4⟩:=h.k c hc
 obtain ⟨m,hm⟩:∃ m:Nat,c.k=(m:Int)+1:=⟨(c.k - 1).toNat,vom⟩
 have hx:cl[m]?=some (cl[m]'(by omega)):=List.getElem?_eq_getElem (by omega)
 have hv:=h.v _ (List.getElem_mem (show m < cl.length by omega))
 refine ⟨m,_,hm,hx,?_,hv,?_⟩
 ·unfold ckAt
  rw [show (c.k - 1).toNat=m by omega,hx]; rfl
 ·unfold cmpR
  rw [hv,valid_whole h3 h4]; rfl
theorem in_of_valid {x:Int×Int} (h:validR x=true):in64 x.1/\in64 x.2:=by
 obtain ⟨a,b,c,d⟩:=validR_b h
 exact ⟨⟨vom,vom⟩,⟨vom,vom⟩⟩
theorem rs_n {CL:AVal} {cl:List (Int×Int)} (h:IsD 2 CL (cl.map rA)):∀ σ:AStore,aLen (.slice 0) CL σ=some (.sc (.int .i64 (cl.length))):=fun σ=>by have:=h.len (σ:=σ); rwa [List.length_map] at this
theorem cns_n {S:AVal} {l:List Cn} (h:IsD 4 S (l.map cnA)):∀ σ:AStore,aLen (.slice 0) S σ=some (.sc (.int .i64 (l.length))):=fun σ=>by have:=h.len (σ:=σ); rwa [List.length_map] at this
def cmB (j:Nat) (s:Int):Bool:=if j=0 then decide (s<=0) else if j=1 then decide (s < 0) else if j=2 then decide (0<=s) else decide (0 < s)
theorem cm0C {w:WD} (s:Int):GivesV (EE w) 218 [(.sc (.int .i64 (s)))] (.sc (.bool (decide (s<=0)))):=by
 refine GivesV.of gWF (.cons _ _ (.sc _) .nil) 1 ?_
 refine of_218 rfl rfl rfl (by kernel_rfl) ?_
 (repeat' first|refine vw ?_ ?_<;>intro hq|refine vz ?_|simp -implicitDefEqProofs only [go_sem])
 exact ret_bool rfl
theorem cm1C {w:WD} (s:Int):GivesV (EE w) 219 [(.sc (.int .i64 (s)))] (.sc (.bool (decide (s < 0)))):=by
 refine GivesV.of gWF (.cons _ _ (.sc _) .nil) 1 ?_
 refine of_219 rfl rfl rfl (by kernel_rfl) ?_
 (repeat' first|refine vw ?_ ?_<;>intro hq|refine vz ?_|simp -implicitDefEqProofs only [go_sem])
 exact ret_bool rfl
theorem cm2C {w:WD} (s:Int):GivesV (EE w) 220 [(.sc (.int .i64 (s)))] (.sc (.bool (decide (0<=s)))):=by
 refine GivesV.of gWF (.cons _ _ (.sc _) .nil) 1 ?_
 refine of_220 rfl rfl rfl (by kernel_rfl) ?_
 (repeat' first|refine vw ?_ ?_<;>intro hq|refine vz ?_|simp -implicitDefEqProofs only [go_sem])
 exact ret_bool rfl
theorem cm3C {w:WD} (s:Int):GivesV (EE w) 221 [(.sc (.int .i64 (s)))] (.sc (.bool (decide (0 < s)))):=by
 refine GivesV.of gWF (.cons _ _ (.sc _) .nil) 1 ?_
 refine of_221 rfl rfl rfl (by kernel_rfl) ?_
 (repeat' first|refine vw ?_ ?_<;>intro hq|refine vz ?_|simp -implicitDefEqProofs only [go_sem])
 exact ret_bool rfl
def cmL:List AVal:=[.agg [(.sc (.bool (false))),(.sc (.bool (false))),.func (.func 218) [] []],.agg [(.sc (.bool (false))),(.sc (.bool (true))),.func (.func 219) [] []],.agg [(.sc (.bool (true))),(.sc (.bool (false))),.func (.func 220) [] []],.agg [(.sc (.bool (true))),(.sc (.bool (true))),.func (.func 221) [] []]]
theorem gss {σ:AStore} {b:Nat} {x:ABlk} (h:b < σ.next):(σ.set b x).get b=some x:=by rw [AStore.get_set,if_pos ⟨rfl,h⟩]
def cmI (lo st:Bool):Nat:=(if lo=true then 2 else 0)+(if st=true then 1 else 0)
theorem meets_cm (s:Int) (lo st:Bool):meetsP s lo st=cmB (cmI lo st) s:=by
 cases lo<;>cases st<;>(rw [Bool.eq_iff_iff]; simp [meetsP,cmB,cmI])<;>omega
theorem cm_at {i:Nat} (h:i < 4) {w:WD}:∃ a b F,cmL[i]?=some (.agg [(.sc (.bool (a))),(.sc (.bool (b))),.func (.func F) [] []])/\cmI a b=i/\(EE w).fns F=true/\∀ s,GivesV (EE w) F [(.sc (.int .i64 (s)))] (.sc (.bool (cmB i s))):=by
 obtain rfl|rfl|rfl|rfl:i=0\/i=1\/i=2\/i=3:=by omega
 ·exact ⟨_,_,_,rfl,rfl,by kernel_rfl,fun s=>cm0C s⟩
 ·exact ⟨_,_,_,rfl,rfl,by kernel_rfl,fun s=>cm1C s⟩
 ·exact ⟨_,_,_,rfl,rfl,by kernel_rfl,fun s=>cm2C s⟩
 ·exact ⟨_,_,_,rfl,rfl,by kernel_rfl,fun s=>cm3C s⟩
theorem holdsC {w:WD} {l:List Cn} {S CL:AVal} {cl:List (Int×Int)} (hS:IsCns l S) (hC:IsD 2 CL (cl.map rA)) (hll:l.length<=1000000) (ho:HoOk l cl):GivesV (EE w) 33 [S,CL] (.sc (.bool (holdsB l cl))):=by
 refine GivesV.of gWF (.cons _ _ hS.wf (.cons _ _ (hC.wf (WFs.map fun x=>wfR x)) .nil)) 1 ?_
 have hSn:=cns_n hS.1
 refine of_33 rfl rfl rfl (by kernel_rfl) ?_
 simp -implicitDefEqProofs only [go_sem,hSn]
 refine vlp (ι:=Nat) (fun j=>[(1,CL),(11,S),(12,(.sc (.int .i64 (l.length)))),(13,(.sc (.int .i64 (j))))]) (fun j τ=>j<=l.length/\∀ (i:Nat) c,i < j->l[i]?=some c->meB cl c=true) (fun j=>l.length - j) (fun _=>rfl) 0 ?_ ?_ ?_
 ·exact vsu
 ·exact ⟨Nat.zero_le _,fun i c hi=>by omega⟩
 rintro j τ ⟨hj,hok⟩
 simp -implicitDefEqProofs only [go_sem]
 (refine vif ?_ ?_<;>intro hlt)
 ·obtain ⟨c,hc⟩:∃ c,l[j]?=some c:=⟨l[j]'(by omega),by simp⟩
  have hc':(l.map cnA)[j]?=some (cnA c):=by rw [List.getElem?_map,hc]; rfl
  have hm:=List.mem_of_getElem? hc
  obtain ⟨m,x,hk,hx,hat,hvx,hcmp⟩:=ho.at hm
  have hx':(cl.map rA)[m]?=some (rA x):=by rw [List.getElem?_map,hx]; rfl
  have hw:=wrapS (i:=j) (by omega)
  have hmb:=(List.getElem?_eq_some_iff.1 hx').1
  have hkw:IntKind.i64.wrap (c.k - 1)=((m:Nat):Int):=by rw [hk,Int.add_sub_cancel]; exact wrap64 (by omega) (by have:=(hS.2.2 c hm).1.2; omega)
  obtain ⟨i1,i2⟩:=in_of_valid hvx
  have hwh:=wholePC (w:=⟨w.w,[]⟩) c.c
  have hcm:=cmpC (w:=⟨w.w,[]⟩) x (c.c,1) i1 i2 (hS.2.2 c hm).2 ⟨vom,vom⟩
  rw [hcmp] at hcm
  have hB:meB cl c=cmB (cmI c.lo c.st) (sgn x (c.c,1)):=by unfold meB; rw [hat,meets_cm]
  generalize sgn x (c.c,1)=s at hB hcm
  have ix1:=fun σ:AStore=>hS.1.idx (σ:=σ) (k:=.i64) hc'
  have ix2:=fun σ:AStore=>hC.idx (σ:=σ) (k:=.i64) hx'
  have pc:(cnA c).cells=[(.sc (.int .i64 (c.k))),(.sc (.bool (c.lo))),(.sc (.bool (c.st))),(.sc (.int .i64 (c.c)))]:=rfl
  have px:(rA x).cells=[(.sc (.int .i64 (x.1))),(.sc (.int .i64 (x.2)))]:=rfl
  have pr:AVal.agg [(.sc (.int .i64 (x.1))),(.sc (.int .i64 (x.2)))]=rA x:=rfl
  (repeat' first|refine vw ?_ ?_<;>intro hq|refine vz ?_|simp -implicitDefEqProofs only [go_sem,ix1,pc])
  have gb:∀ a,((τ.alloc a).set τ.next (.cells 4 [.agg [(.sc (.int .i64 (c.k))),(.sc (.bool (c.lo))),(.sc (.bool (c.st))),(.sc (.int .i64 (c.c)))]])).get τ.next=some (.cells 4 [.agg [(.sc (.int .i64 (c.k))),(.sc (.bool (c.lo))),(.sc (.bool (c.st))),(.sc (.int .i64 (c.c)))]]):=fun a=>gss (by rw [alloc_next]; omega)
  have gb:=gb (.cells 4 [.agg [(.sc (.int .i64 (0))),(.sc (.bool (false))),(.sc (.bool (false))),(.sc (.int .i64 (0)))]])
  generalize (τ.alloc (.cells 4 [.agg [(.sc (.int .i64 (0))),(.sc (.bool (false))),(.sc (.bool (false))),(.sc (.int .i64 (0)))]])).set τ.next (.cells 4 [.agg [(.sc (.int .i64 (c.k))),(.sc (.bool (c.lo))),(.sc (.bool (c.st))),(.sc (.int .i64 (c.c)))]])=τ1 at gb ⊢
  ((try (refine Z_seq ?_; (try simp -implicitDefEqProofs only [go_sem]))); refine Z_draw (by kernel_rfl) [0,1,2,3,4,5,6,7,8,9,10,11,12,13,14] [(14,16383),(13,4095),(12,2047),(11,2047),(10,1023),(9,511),(8,192),(7,64),(6,0),(5,31),(4,15),(3,6),(2,2),(1,0),(0,0)] (by kernel_rfl) (by kernel_rfl) ?_)
  simp -implicitDefEqProofs only [go_sem,gb,ix2,hkw,px,pr]
  refine hwh.useD ?_
  simp -implicitDefEqProofs only [go_sem,gb,ix2,hkw,px,pr]
  refine hcm.useD ?_
  simp -implicitDefEqProofs only [go_sem]
  (repeat' first|refine vw ?_ ?_<;>intro hq|refine vz ?_|simp -implicitDefEqProofs only [go_sem])
  refine vlp (ι:=Nat) (fun i=>[(1,CL),(6,.ptr τ.next 0 0),(7,(.sc (.int .i64 (s)))),(11,S),(12,(.sc (.int .i64 (l.length)))),(13,(.sc (.int .i64 (j)))),(32,.data 3 false cmL),(33,(.sc (.int .i64 (4)))),(34,(.sc (.int .i64 (i))))]) (fun i μ=>i<=4/\μ.get τ.next=some (.cells 4 [.agg [(.sc (.int .i64 (c.k))),(.sc (.bool (c.lo))),(.sc (.bool (c.st))),(.sc (.int .i64 (c.c)))]])/\(cmI c.lo c.st < i->cmB (cmI c.lo c.st) s=true)) (fun i=>4 - i) (fun _=>rfl) 0 ?_ ?_ ?_
  ·exact vsu
  ·exact ⟨vom,gb,fun h=>by omega⟩
  clear gb
  rintro i μ ⟨hi,gb,hdone⟩
  have lb:=AStore.lt_of_get gb
  simp -implicitDefEqProofs only [go_sem]
  (refine vif ?_ ?_<;>intro hlt2)
  ·obtain ⟨a,b,F,hF,hab,hfn,hcl⟩:=cm_at (w:=⟨w.w,[]⟩) (i:=i) (by omega)
   have hix:=fun σ:AStore=>(show IsD 3 (.data 3 false cmL) cmL from .inr ⟨false,rfl⟩).idx (σ:=σ) (k:=.i64) hF
   have pF:(AVal.agg [(.sc (.bool (a))),(.sc (.bool (b))),.func (.func F) [] []]).cells=[(.sc (.bool (a))),(.sc (.bool (b))),.func (.func F) [] []]:=rfl
   have hwi:=wrapS (i:=i) (by omega)
   have gx:∀ y,((μ.alloc y).set μ.next (.cells 3 [.agg [(.sc (.bool (a))),(.sc (.bool (b))),.func (.func F) [] []]])).get μ.next=some (.cells 3 [.agg [(.sc (.bool (a))),(.sc (.bool (b))),.func (.func F) [] []]]):=fun y=>gss (by rw [alloc_next]; omega)
   have gb2:∀ y z,((μ.alloc y).set μ.next z).get τ.next=some (.cells 4 [.agg [(.sc (.int .i64 (c.k))),(.sc (.bool (c.lo))),(.sc (.bool (c.st))),(.sc (.int .i64 (c.c)))]]):=fun y z=>by rw [AStore.get_set,if_neg (by omega)]; exact get_alloc_old gb
   by_cases ha:a=c.lo
   ·subst ha
    by_cases hb:b=c.st
    ·subst hb
     subst hab
     (repeat' first|refine vw ?_ ?_<;>intro hq|refine vz ?_|simp -implicitDefEqProofs only [go_sem,hix,pF,gx,gb2,beq_self_eq_true,hfn])
     refine (hcl s).use ?_
     cases hcb:cmB (cmI c.lo c.st) s with
     | true=>
      (repeat' first|refine vw ?_ ?_<;>intro hq|refine vz ?_|simp -implicitDefEqProofs only [go_sem,hwi])
      exact ⟨cmI c.lo c.st+1,vom,⟨vom,gb2 _ _,fun _=>by first|exact hcb|trivial⟩,vsu⟩
     | false=>
      (repeat' first|refine vw ?_ ?_<;>intro hq|refine vz ?_|simp -implicitDefEqProofs only [go_sem])
      exact ret_bool (holds_bad hc (by rw [hB]; exact hcb)).symm
    ·have nb:(b==c.st)=false:=by simpa using hb
     (repeat' first|refine vw ?_ ?_<;>intro hq|refine vz ?_|simp -implicitDefEqProofs only [go_sem,hix,pF,gx,gb2,beq_self_eq_true,nb,hwi])
     exact ⟨i+1,vom,⟨vom,gb2 _ _,fun h=>hdone (by
      have:cmI c.lo c.st≠i:=by rintro h2; rw [<-h2] at hab; unfold cmI at hab; cases hl:c.lo<;>cases b<;>cases hs:c.st<;>simp_all
      omega)⟩,vsu⟩
   ·have na:(a==c.lo)=false:=by simpa using ha
    (repeat' first|refine vw ?_ ?_<;>intro hq|refine vz ?_|simp -implicitDefEqProofs only [go_sem,hix,pF,gx,gb2,na,hwi])
    exact ⟨i+1,vom,⟨vom,gb2 _ _,fun h=>hdone (by
     have:cmI c.lo c.st≠i:=by rintro h2; rw [<-h2] at hab; unfold cmI at hab; cases a<;>cases hl:c.lo<;>cases b<;>cases hs:c.st<;>simp_all
     omega)⟩,vsu⟩
  ·obtain rfl:i=4:=by omega
   have hci:cmI c.lo c.st < 4:=by unfold cmI; split<;>split<;>omega
   (repeat' first|refine vw ?_ ?_<;>intro hq|refine vz ?_|simp -implicitDefEqProofs only [go_sem,hw])
   refine ⟨j+1,vom,⟨vom,fun i' c' hi' hq'=>?_⟩,vsu⟩
   by_cases hij:i'=j
   ·subst hij
    rw [hc] at hq'
    cases hq'
    rw [hB]; exact hdone hci
   ·exact hok i' c' (by omega) hq'
 ·obtain rfl:j=l.length:=by omega
  (repeat' first|refine vw ?_ ?_<;>intro hq|refine vz ?_|simp -implicitDefEqProofs only [go_sem])
  exact ret_bool (holds_good hok).symm
end Abs
end
