/- The scalar functions of two numbers: there is a definite result (numbers bear no labels). -/
import Derived.Test.YtnnipocjapblkaaGreatK17
import Derived.Test.YtnnipocjapblkaaGreatK07
set_option maxRecDepth 10000
set_option maxHeartbeats 4000000
namespace Go.Proofs.YtnnipocjapblkaaGreat
set_option linter.unusedVariables false
open Go.RowKit
def truN (b:Bool):Num:=ofZ (if b then 1 else 0)
theorem ofZ_q (z:Int):ofZ z=qN z 1:=by rw [qN,limbs_one]; exact rfl
theorem truN_R (b:Bool):NumR (truN b):=by
 refine .inr ⟨if b then 1 else 0,1,ofZ_q _,by omega,?_,by rw [limbs_one]; simp⟩
 cases b
 ·rw [if_neg (by decide),szZ_zero]; omega
 ·rw [if_pos rfl]; exact szZ_one
theorem NumR.len {r:Num} (h:NumR r):r.top.length≤32∧r.bot.length≤32:=by
 rcases h with rfl|⟨z,q,rfl,_,h1,h2⟩
 ·exact ⟨Nat.zero_le _,Nat.zero_le _⟩
 ·exact ⟨h1,h2⟩
theorem stru_a (b:Bool):ACalls Tryz.prog 184 [.lit (.bool b)] (.agg (numV (truN b))):=by
 cases b
 ·have c1:=rofG_a 0 (by omega) (by omega)
  refine acalls_of code_scalar_truth (by simp [fn_scalar_truth]) fun C hC => ?_
  refine wk5 ?_
  exact fin
 ·have c1:=rofG_a 1 (by omega) (by omega)
  refine acalls_of code_scalar_truth (by simp [fn_scalar_truth]) fun C hC => ?_
  refine wk5 ?_
  exact fin
theorem limOK.num {n:Num} (h1:limOK n.top) (h2:limOK n.bot) (l1:n.top.length≤100000) (l2:n.bot.length≤100000):numOK n:=by
 have e1:IntKind.u32.min=0:=by decide
 have e2:IntKind.u32.max=4294967295:=by decide
 have key:∀ z:Int,0≤z∧z<4294967296→(Lit.int .u32 z).wf=true:=fun z hz=>by
  have h':IntKind.u32.min≤z∧z≤IntKind.u32.max:=by omega
  simpa [Lit.wf] using h'
 exact ⟨fun z hz=>key z (h1 z hz),fun z hz=>key z (h2 z hz),Nat.le_trans l1 (by decide),Nat.le_trans l2 (by decide)⟩
theorem qN_ok (y:Int) (b:Nat) (ly:szZ y≤32) (lb:(limbs b).length≤32):numOK (qN y b) :=
 limOK.num (limbs_ok _) (limbs_ok _) (Nat.le_trans ly (by omega)) (Nat.le_trans lb (by omega))
theorem rsmall_q (y:Int) (b:Nat) (ly:szZ y≤32) (lb:(limbs b).length≤32):∃ (k:Int) (ok:Bool),(-9223372036854775808≤k∧k≤9223372036854775807)∧ACalls Tryz.prog 124 [.agg (numV (qN y b))] (.tup [nA k,.lit (.bool ok)]):=by
 refine ⟨_,_,?_,ratSmall_a (qN y b) (qN_ok y b ly lb) (show szZ y≤1000000000 by omega)⟩
 unfold smallN
 split
 ·exact smallV_range _ _
 ·simp
theorem scomp_a (f:Int) (x:Int) (a:Nat) (y:Int) (b:Nat) (lx:szZ x≤20000) (la:(limbs a).length≤20000) (ly:szZ y≤20000) (lb:(limbs b).length≤20000) :
 ∃ r e,NumR r∧ACalls Tryz.prog 221 [nA f,.agg (numV (qN x a)),.agg (numV (qN y b))] (.tup [.agg (numV r),nA e]):=by
 have c1:=rcmp_a x a y b lx la ly lb
 generalize cmpZ (x * b) (y * a)=k at c1
 by_cases h60:f=60
 ·subst h60
  by_cases hk:k<0
  ·have c2:=stru_a true
   refine ⟨_,0,truN_R true,?_⟩
   refine acalls_of code_scalar_compared (by simp [fn_scalar_compared]) fun C hC => ?_
   refine wk5 ?_
   exact fin
  ·have c2:=stru_a false
   refine ⟨_,0,truN_R false,?_⟩
   refine acalls_of code_scalar_compared (by simp [fn_scalar_compared]) fun C hC => ?_
   refine wk5 ?_
   exact fin
 by_cases h8804:f=8804
 ·subst h8804
  by_cases hk:k≤0
  ·have c2:=stru_a true
   refine ⟨_,0,truN_R true,?_⟩
   refine acalls_of code_scalar_compared (by simp [fn_scalar_compared]) fun C hC => ?_
   refine wk5 ?_
   exact fin
  ·have c2:=stru_a false
   refine ⟨_,0,truN_R false,?_⟩
   refine acalls_of code_scalar_compared (by simp [fn_scalar_compared]) fun C hC => ?_
   refine wk5 ?_
   exact fin
 by_cases h61:f=61
 ·subst h61
  by_cases hk:k=0
  ·have c2:=stru_a true
   refine ⟨_,0,truN_R true,?_⟩
   refine acalls_of code_scalar_compared (by simp [fn_scalar_compared]) fun C hC => ?_
   refine wk5 ?_
   exact fin
  ·have c2:=stru_a false
   refine ⟨_,0,truN_R false,?_⟩
   refine acalls_of code_scalar_compared (by simp [fn_scalar_compared]) fun C hC => ?_
   refine wk5 ?_
   exact fin
 by_cases h8805:f=8805
 ·subst h8805
  by_cases hk:0≤k
  ·have c2:=stru_a true
   refine ⟨_,0,truN_R true,?_⟩
   refine acalls_of code_scalar_compared (by simp [fn_scalar_compared]) fun C hC => ?_
   refine wk5 ?_
   exact fin
  ·have c2:=stru_a false
   refine ⟨_,0,truN_R false,?_⟩
   refine acalls_of code_scalar_compared (by simp [fn_scalar_compared]) fun C hC => ?_
   refine wk5 ?_
   exact fin
 by_cases h62:f=62
 ·subst h62
  by_cases hk:0<k
  ·have c2:=stru_a true
   refine ⟨_,0,truN_R true,?_⟩
   refine acalls_of code_scalar_compared (by simp [fn_scalar_compared]) fun C hC => ?_
   refine wk5 ?_
   exact fin
  ·have c2:=stru_a false
   refine ⟨_,0,truN_R false,?_⟩
   refine acalls_of code_scalar_compared (by simp [fn_scalar_compared]) fun C hC => ?_
   refine wk5 ?_
   exact fin
 by_cases h8800:f=8800
 ·subst h8800
  by_cases hk:k≠0
  ·have c2:=stru_a true
   refine ⟨_,0,truN_R true,?_⟩
   refine acalls_of code_scalar_compared (by simp [fn_scalar_compared]) fun C hC => ?_
   refine wk5 ?_
   exact fin
  ·have c2:=stru_a false
   refine ⟨_,0,truN_R false,?_⟩
   refine acalls_of code_scalar_compared (by simp [fn_scalar_compared]) fun C hC => ?_
   refine wk5 ?_
   exact fin
 refine ⟨zN,8,.inl rfl,?_⟩
 have zn:numV zN=[.lit (.bool false),.sl 1 [],.sl 1 []]:=rfl
 refine acalls_of code_scalar_compared (by simp [fn_scalar_compared]) fun C hC => ?_
 refine wk5 ?_
 exact fin
theorem numA_a (n:Num) (h1:n.top.length≤maxB) (h2:n.bot.length≤maxB):ACalls Tryz.prog 197 [.agg (numV n)] (.agg (cellV (.mk 0 0 n 0 []))):=by
 have c1:=own_a (.mk 0 0 n 0 []) h1 h2 (Nat.zero_le _)
 refine acalls_of code_array_Num (by simp [fn_array_Num]) fun C hC => ?_
 refine wk5 ?_
 exact fin
theorem snums_a (f:Int) (x:Int) (a:Nat) (y:Int) (b:Nat) (ha:a≠0) (hb:b≠0) (lx:szZ x≤32) (la:(limbs a).length≤32) (ly:szZ y≤32) (lb:(limbs b).length≤32) :
 ∃ r e,NumR r∧ACalls Tryz.prog 183 [nA f,.agg (numV (qN x a)),.agg (numV (qN y b))] (.tup [.agg (numV r),nA e]):=by
 have zn:numV zN=[.lit (.bool false),.sl 1 [],.sl 1 []]:=rfl
 have hB:maxB=1000000000:=rfl
 by_cases h43:f=43
 ·subst h43
  have c1:=radd_a x a y b (by omega) (by omega) (by omega) (by omega)
  refine ⟨_,(mkQ (x * b+y * a) (a * b:Int)).2,mkQ_R (x * b+y * a) (a * b:Int),?_⟩
  refine acalls_of code_scalar_Numbers (by simp [fn_scalar_Numbers]) fun C hC => ?_
  refine wk5 ?_
  exact fin
 by_cases h45:f=45
 ·subst h45
  have c1:=rsub_a x a y b (by omega) (by omega) (by omega) (by omega)
  refine ⟨_,(mkQ (x * b+(-y) * a) (a * b:Int)).2,mkQ_R (x * b+(-y) * a) (a * b:Int),?_⟩
  refine acalls_of code_scalar_Numbers (by simp [fn_scalar_Numbers]) fun C hC => ?_
  refine wk5 ?_
  exact fin
 by_cases h215:f=215
 ·subst h215
  have c1:=rmul_a x a y b (by omega) (by omega) (by omega) (by omega)
  refine ⟨_,(mkQ (x * y) (a * b:Int)).2,mkQ_R (x * y) (a * b:Int),?_⟩
  refine acalls_of code_scalar_Numbers (by simp [fn_scalar_Numbers]) fun C hC => ?_
  refine wk5 ?_
  exact fin
 by_cases h247:f=247
 ·subst h247
  have c1:=rdiv_a x a y b (by omega) (by omega) (by omega) (by omega)
  refine ⟨_,(mkQ (x * b) (a * y:Int)).2,mkQ_R (x * b) (a * y:Int),?_⟩
  refine acalls_of code_scalar_Numbers (by simp [fn_scalar_Numbers]) fun C hC => ?_
  refine wk5 ?_
  exact fin
 by_cases h8968:f=8968
 ·subst h8968
  have c1:=rcmp_a x a y b (by omega) (by omega) (by omega) (by omega)
  have R1:NumR (qN x a):=.inr ⟨x,a,rfl,ha,lx,la⟩
  have R2:NumR (qN y b):=.inr ⟨y,b,rfl,hb,ly,lb⟩
  have c2:=numA_a (qN x a) (by have:=R1.len; omega) (by have:=R1.len; omega)
  have c3:=numA_a (qN y b) (by have:=R2.len; omega) (by have:=R2.len; omega)
  have d1:decide ((8968:Int)=8968)=true:=rfl
  generalize cmpZ (x * b) (y * a)=k at c1
  by_cases hk:k<0
  ·have d2:decide (k<0)=true:=decide_eq_true hk
   refine ⟨_,0,R2,?_⟩
   refine acalls_of code_scalar_Numbers (by simp [fn_scalar_Numbers]) fun C hC => ?_
   refine wk5 ?_
   exact fin
  ·have d2:decide (k<0)=false:=decide_eq_false hk
   refine ⟨_,0,R1,?_⟩
   refine acalls_of code_scalar_Numbers (by simp [fn_scalar_Numbers]) fun C hC => ?_
   refine wk5 ?_
   exact fin
 by_cases h8970:f=8970
 ·subst h8970
  have c1:=rcmp_a x a y b (by omega) (by omega) (by omega) (by omega)
  have R1:NumR (qN x a):=.inr ⟨x,a,rfl,ha,lx,la⟩
  have R2:NumR (qN y b):=.inr ⟨y,b,rfl,hb,ly,lb⟩
  have c2:=numA_a (qN x a) (by have:=R1.len; omega) (by have:=R1.len; omega)
  have c3:=numA_a (qN y b) (by have:=R2.len; omega) (by have:=R2.len; omega)
  have d1:decide ((8970:Int)=8968)=false:=rfl
  generalize cmpZ (x * b) (y * a)=k at c1
  by_cases hk:k<0
  ·have d2:decide (k<0)=true:=decide_eq_true hk
   refine ⟨_,0,R1,?_⟩
   refine acalls_of code_scalar_Numbers (by simp [fn_scalar_Numbers]) fun C hC => ?_
   refine wk5 ?_
   exact fin
  ·have d2:decide (k<0)=false:=decide_eq_false hk
   refine ⟨_,0,R2,?_⟩
   refine acalls_of code_scalar_Numbers (by simp [fn_scalar_Numbers]) fun C hC => ?_
   refine wk5 ?_
   exact fin
 by_cases h124:f=124
 ·subst h124
  obtain ⟨r,e,hR,c1⟩:=rmod_a x a y b ha hb lx la ly lb
  refine ⟨r,e,hR,?_⟩
  refine acalls_of code_scalar_Numbers (by simp [fn_scalar_Numbers]) fun C hC => ?_
  refine wk5 ?_
  exact fin
 by_cases h42:f=42
 ·subst h42
  obtain ⟨k,ok,hk,c1⟩:∃ (k:Int) (ok:Bool),(-9223372036854775808≤k∧k≤9223372036854775807)∧ACalls Tryz.prog 124 [.agg (numV (qN y b))] (.tup [nA k,.lit (.bool ok)]):=rsmall_q y b (by omega) (by omega)
  cases ok
  ·refine ⟨zN,8,.inl rfl,?_⟩
   refine acalls_of code_scalar_Numbers (by simp [fn_scalar_Numbers]) fun C hC => ?_
   refine wk5 ?_
   exact fin
  ·obtain ⟨r,e,hR,c2⟩:=rpow_a x a k hk.1 hk.2 lx la
   refine ⟨r,e,hR,?_⟩
   refine acalls_of code_scalar_Numbers (by simp [fn_scalar_Numbers]) fun C hC => ?_
   refine wk5 ?_
   exact fin
 by_cases h8743:f=8743
 ·subst h8743
  obtain ⟨r,e,hR,c1⟩:=rlcm_a x a y b ha hb lx la ly lb
  refine ⟨r,e,hR,?_⟩
  refine acalls_of code_scalar_Numbers (by simp [fn_scalar_Numbers]) fun C hC => ?_
  refine wk5 ?_
  exact fin
 by_cases h8744:f=8744
 ·subst h8744
  have c1:=rgcd_a x a y b lx ly
  have hG:szZ (Nat.gcd x.natAbs y.natAbs:Nat)≤32:=by
   by_cases h:x.natAbs=0
   ·rw [h,Nat.gcd_zero_left]; exact ly
   ·exact Nat.le_trans (limbs_len_mono (Nat.gcd_le_left _ (Nat.pos_of_ne_zero h))) lx
  have hR:NumR (if a=1∧b=1 then qN (Nat.gcd x.natAbs y.natAbs) 1 else zN):=by
   split
   ·exact .inr ⟨_,1,rfl,by omega,hG,by rw [limbs_one]; simp⟩
   ·exact .inl rfl
  refine ⟨_,(if a=1∧b=1 then 0 else 3),hR,?_⟩
  refine acalls_of code_scalar_Numbers (by simp [fn_scalar_Numbers]) fun C hC => ?_
  refine wk5 ?_
  exact fin
 obtain ⟨r,e,hR,c1⟩:=scomp_a f x a y b (by omega) (by omega) (by omega) (by omega)
 refine ⟨r,e,hR,?_⟩
 refine acalls_of code_scalar_Numbers (by simp [fn_scalar_Numbers]) fun C hC => ?_
 refine wk5 ?_
 exact fin
end Go.Proofs.YtnnipocjapblkaaGreat
