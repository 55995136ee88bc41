/-
  Functions of the program walked: each is shown to compute a plain function (TXe).
-/
import Derived.Test.YtdbkkindfakbfaaGreatT1
set_option linter.unusedSimpArgs false
set_option linter.unusedVariables false
set_option maxRecDepth 100000
set_option maxHeartbeats 16000000
noncomputable section
namespace Abs
open Go Go.Proofs
theorem EE_of (w:World):EE ⟨w,[]⟩=Env.of Tryz.prog w:=rfl
theorem operator5' (w:World):ACalls (Env.of Tryz.prog w) 93 [.sc (.int .i64 5)] empty fun e _=>e=.ret (.tuple [.sc (.string ⟨#[43]⟩),.sc (.int .i64 4)]):=by
 rw [<-EE_of]
 refine (operatorC2 5 empty).mono ?_
 rintro _ σ' ⟨_,v,⟨s,rfl,h⟩,rfl⟩
 obtain ⟨r,hr⟩:=h (by decide)
 have hs:s=⟨#[43]⟩:=by
  unfold rkV at hr
  split at hr<;>simp at hr
  exact hr
 subst hs; rfl
theorem operator6' (w:World):ACalls (Env.of Tryz.prog w) 93 [.sc (.int .i64 6)] empty fun e _=>e=.ret (.tuple [.sc (.string ⟨#[45]⟩),.sc (.int .i64 4)]):=by
 rw [<-EE_of]
 refine (operatorC2 6 empty).mono ?_
 rintro _ σ' ⟨_,v,⟨s,rfl,h⟩,rfl⟩
 obtain ⟨r,hr⟩:=h (by decide)
 have hs:s=⟨#[45]⟩:=by
  unfold rkV at hr
  split at hr<;>simp at hr
  exact hr
 subst hs; rfl
theorem operator7' (w:World):ACalls (Env.of Tryz.prog w) 93 [.sc (.int .i64 7)] empty fun e _=>e=.ret (.tuple [.sc (.string ⟨#[42]⟩),.sc (.int .i64 5)]):=by
 rw [<-EE_of]
 refine (operatorC2 7 empty).mono ?_
 rintro _ σ' ⟨_,v,⟨s,rfl,h⟩,rfl⟩
 obtain ⟨r,hr⟩:=h (by decide)
 have hs:s=⟨#[42]⟩:=by
  unfold rkV at hr
  split at hr<;>simp at hr
  exact hr
 subst hs; rfl
theorem operator8' (w:World):ACalls (Env.of Tryz.prog w) 93 [.sc (.int .i64 8)] empty fun e _=>e=.ret (.tuple [.sc (.string ⟨#[47]⟩),.sc (.int .i64 5)]):=by
 rw [<-EE_of]
 refine (operatorC2 8 empty).mono ?_
 rintro _ σ' ⟨_,v,⟨s,rfl,h⟩,rfl⟩
 obtain ⟨r,hr⟩:=h (by decide)
 have hs:s=⟨#[47]⟩:=by
  unfold rkV at hr
  split at hr<;>simp at hr
  exact hr
 subst hs; rfl
theorem operator9' (w:World):ACalls (Env.of Tryz.prog w) 93 [.sc (.int .i64 9)] empty fun e _=>e=.ret (.tuple [.sc (.string ⟨#[37]⟩),.sc (.int .i64 5)]):=by
 rw [<-EE_of]
 refine (operatorC2 9 empty).mono ?_
 rintro _ σ' ⟨_,v,⟨s,rfl,h⟩,rfl⟩
 obtain ⟨r,hr⟩:=h (by decide)
 have hs:s=⟨#[37]⟩:=by
  unfold rkV at hr
  split at hr<;>simp at hr
  exact hr
 subst hs; rfl
theorem operator10' (w:World):ACalls (Env.of Tryz.prog w) 93 [.sc (.int .i64 10)] empty fun e _=>e=.ret (.tuple [.sc (.string ⟨#[60]⟩),.sc (.int .i64 3)]):=by
 rw [<-EE_of]
 refine (operatorC2 10 empty).mono ?_
 rintro _ σ' ⟨_,v,⟨s,rfl,h⟩,rfl⟩
 obtain ⟨r,hr⟩:=h (by decide)
 have hs:s=⟨#[60]⟩:=by
  unfold rkV at hr
  split at hr<;>simp at hr
  exact hr
 subst hs; rfl
theorem operator11' (w:World):ACalls (Env.of Tryz.prog w) 93 [.sc (.int .i64 11)] empty fun e _=>e=.ret (.tuple [.sc (.string ⟨#[60,61]⟩),.sc (.int .i64 3)]):=by
 rw [<-EE_of]
 refine (operatorC2 11 empty).mono ?_
 rintro _ σ' ⟨_,v,⟨s,rfl,h⟩,rfl⟩
 obtain ⟨r,hr⟩:=h (by decide)
 have hs:s=⟨#[60,61]⟩:=by
  unfold rkV at hr
  split at hr<;>simp at hr
  exact hr
 subst hs; rfl
theorem operator12' (w:World):ACalls (Env.of Tryz.prog w) 93 [.sc (.int .i64 12)] empty fun e _=>e=.ret (.tuple [.sc (.string ⟨#[61,61]⟩),.sc (.int .i64 3)]):=by
 rw [<-EE_of]
 refine (operatorC2 12 empty).mono ?_
 rintro _ σ' ⟨_,v,⟨s,rfl,h⟩,rfl⟩
 obtain ⟨r,hr⟩:=h (by decide)
 have hs:s=⟨#[61,61]⟩:=by
  unfold rkV at hr
  split at hr<;>simp at hr
  exact hr
 subst hs; rfl
theorem operator13' (w:World):ACalls (Env.of Tryz.prog w) 93 [.sc (.int .i64 13)] empty fun e _=>e=.ret (.tuple [.sc (.string ⟨#[33,61]⟩),.sc (.int .i64 3)]):=by
 rw [<-EE_of]
 refine (operatorC2 13 empty).mono ?_
 rintro _ σ' ⟨_,v,⟨s,rfl,h⟩,rfl⟩
 obtain ⟨r,hr⟩:=h (by decide)
 have hs:s=⟨#[33,61]⟩:=by
  unfold rkV at hr
  split at hr<;>simp at hr
  exact hr
 subst hs; rfl
theorem operator14' (w:World):ACalls (Env.of Tryz.prog w) 93 [.sc (.int .i64 14)] empty fun e _=>e=.ret (.tuple [.sc (.string ⟨#[62,61]⟩),.sc (.int .i64 3)]):=by
 rw [<-EE_of]
 refine (operatorC2 14 empty).mono ?_
 rintro _ σ' ⟨_,v,⟨s,rfl,h⟩,rfl⟩
 obtain ⟨r,hr⟩:=h (by decide)
 have hs:s=⟨#[62,61]⟩:=by
  unfold rkV at hr
  split at hr<;>simp at hr
  exact hr
 subst hs; rfl
theorem operator15' (w:World):ACalls (Env.of Tryz.prog w) 93 [.sc (.int .i64 15)] empty fun e _=>e=.ret (.tuple [.sc (.string ⟨#[62]⟩),.sc (.int .i64 3)]):=by
 rw [<-EE_of]
 refine (operatorC2 15 empty).mono ?_
 rintro _ σ' ⟨_,v,⟨s,rfl,h⟩,rfl⟩
 obtain ⟨r,hr⟩:=h (by decide)
 have hs:s=⟨#[62]⟩:=by
  unfold rkV at hr
  split at hr<;>simp at hr
  exact hr
 subst hs; rfl
theorem operator16' (w:World):ACalls (Env.of Tryz.prog w) 93 [.sc (.int .i64 16)] empty fun e _=>e=.ret (.tuple [.sc (.string ⟨#[38,38]⟩),.sc (.int .i64 2)]):=by
 rw [<-EE_of]
 refine (operatorC2 16 empty).mono ?_
 rintro _ σ' ⟨_,v,⟨s,rfl,h⟩,rfl⟩
 obtain ⟨r,hr⟩:=h (by decide)
 have hs:s=⟨#[38,38]⟩:=by
  unfold rkV at hr
  split at hr<;>simp at hr
  exact hr
 subst hs; rfl
theorem operator17' (w:World):ACalls (Env.of Tryz.prog w) 93 [.sc (.int .i64 17)] empty fun e _=>e=.ret (.tuple [.sc (.string ⟨#[124,124]⟩),.sc (.int .i64 1)]):=by
 rw [<-EE_of]
 refine (operatorC2 17 empty).mono ?_
 rintro _ σ' ⟨_,v,⟨s,rfl,h⟩,rfl⟩
 obtain ⟨r,hr⟩:=h (by decide)
 have hs:s=⟨#[124,124]⟩:=by
  unfold rkV at hr
  split at hr<;>simp at hr
  exact hr
 subst hs; rfl
end Abs
end
