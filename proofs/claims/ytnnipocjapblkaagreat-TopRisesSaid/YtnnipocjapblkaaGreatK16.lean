/- Ratios of the program: sums, differences, products, quotients, by their values. -/
import Derived.Test.YtnnipocjapblkaaGreatK15
set_option maxRecDepth 10000
set_option maxHeartbeats 2000000
namespace Go.Proofs.YtnnipocjapblkaaGreat
set_option linter.unusedVariables false
open Go.RowKit
theorem qN_neg (z:Int) (q:Nat):qN (-z) q=⟨sgn (!decide (z<0)) (limbs z.natAbs),limbs z.natAbs,limbs q⟩:=by
 have:=sg_neg (!decide (z<0)) z.natAbs
 have e:sg (!decide (z<0)) z.natAbs = -z:=by
  unfold sg
  by_cases h:z<0
  ·simp [h]; omega
  ·simp [h]; omega
 rw [e] at this
 rw [qN,this,Int.natAbs_neg]
theorem rcopied_a (g:Bool) (b:Bool) (X q:Nat) (lz:(limbs X).length≤100000) (lq:(limbs q).length≤100000) :
 ACalls Tryz.prog 228 [.lit (.bool g),.agg (numV ⟨b,limbs X,limbs q⟩)] (.agg (numV ⟨sgn g (limbs X),limbs X,limbs q⟩)):=by
 have c1:=nnorm_l X lz
 have c2:=nnorm_l q lq
 have l1:=intsA_len .u32 (limbs X)
 refine acalls_of code_ratio_copied (by simp [fn_ratio_copied]) fun C hC => ?_
 by_cases h:(limbs X).length=0
 ·rw [h] at l1
  rw [sgn,if_pos h]
  cases g<;>(refine wk5 ?_; exact fin)
 ·have hp:=Nat.pos_of_ne_zero h
  rw [sgn,if_neg h]
  cases g<;>(refine wk5 ?_; exact fin)
theorem rneg_a (z:Int) (q:Nat) (lz:szZ z≤100000) (lq:(limbs q).length≤100000) :
 ACalls Tryz.prog 198 [.agg (numV (qN z q))] (.agg (numV (qN (-z) q))):=by
 have c1:=rcopied_a (!decide (z<0)) (decide (z<0)) z.natAbs q lz lq
 rw [qN_neg]
 refine acalls_of code_ratio_Neg (by simp [fn_ratio_Neg]) fun C hC => ?_
 rw [qN]
 cases h:decide (z<0)<;>rw [h] at c1<;>(refine wk5 ?_; exact fin)
theorem rsign_a (z:Int) (q:Nat):ACalls Tryz.prog 199 [.agg (numV (qN z q))] (.lit (.int .i64 z.sign)):=by
 have c1:=rtop_a z q
 have c2:=wsign_z z
 refine acalls_of code_ratio_Sign (by simp [fn_ratio_Sign]) fun C hC => ?_
 refine wk5 ?_
 exact fin
theorem radd_a (x:Int) (a:Nat) (y:Int) (b:Nat) (lx:szZ x≤20000) (la:(limbs a).length≤20000) (ly:szZ y≤20000) (lb:(limbs b).length≤20000) :
 ACalls Tryz.prog 214 [.agg (numV (qN x a)),.agg (numV (qN y b))] (.tup [.agg (numV (mkQ (x * b+y * a) (a * b:Int)).1),nA (mkQ (x * b+y * a) (a * b:Int)).2]):=by
 have c1:=rtop_a x a
 have c2:=rbot_a x a
 have c3:=rtop_a y b
 have c4:=rbot_a y b
 rw [← zV_nat] at c2 c4
 have s1:=szZ_mul x b
 have s2:=szZ_mul y a
 have s3:=szZ_mul a b
 have s4:=szZ_add (x * b) (y * a)
 rw [szZ_nat] at s1 s2 s3
 have c5:=wmul_z x b (show szZ x≤100000 by omega) (show (limbs b).length≤100000 by omega)
 have c6:=wmul_z y a (show szZ y≤100000 by omega) (show (limbs a).length≤100000 by omega)
 have c7:=wmul_z a b (show (limbs a).length≤100000 by omega) (show (limbs b).length≤100000 by omega)
 have c8:=wadd_z (x * b) (y * a) (show szZ (x * b)≤100000 by omega) (show szZ (y * a)≤100000 by omega)
 have c9:=rmake_a (x * b+y * a) (a * b) (by omega) (by rw [szZ_nat] at s3; omega)
 refine acalls_of code_ratio_Add (by simp [fn_ratio_Add]) fun C hC => ?_
 refine wk5 ?_
 exact fin
theorem rmul_a (x:Int) (a:Nat) (y:Int) (b:Nat) (lx:szZ x≤20000) (la:(limbs a).length≤20000) (ly:szZ y≤20000) (lb:(limbs b).length≤20000) :
 ACalls Tryz.prog 216 [.agg (numV (qN x a)),.agg (numV (qN y b))] (.tup [.agg (numV (mkQ (x * y) (a * b:Int)).1),nA (mkQ (x * y) (a * b:Int)).2]):=by
 have c1:=rtop_a x a
 have c2:=rbot_a x a
 have c3:=rtop_a y b
 have c4:=rbot_a y b
 rw [← zV_nat] at c2 c4
 have s1:=szZ_mul x y
 have s3:=szZ_mul a b
 rw [szZ_nat,szZ_nat] at s3
 have c5:=wmul_z x y (show szZ x≤100000 by omega) (show szZ y≤100000 by omega)
 have c7:=wmul_z a b (show (limbs a).length≤100000 by omega) (show (limbs b).length≤100000 by omega)
 have c9:=rmake_a (x * y) (a * b) (by omega) (by omega)
 refine acalls_of code_ratio_Mul (by simp [fn_ratio_Mul]) fun C hC => ?_
 refine wk5 ?_
 exact fin
theorem rdiv_a (x:Int) (a:Nat) (y:Int) (b:Nat) (lx:szZ x≤20000) (la:(limbs a).length≤20000) (ly:szZ y≤20000) (lb:(limbs b).length≤20000) :
 ACalls Tryz.prog 200 [.agg (numV (qN x a)),.agg (numV (qN y b))] (.tup [.agg (numV (mkQ (x * b) (a * y:Int)).1),nA (mkQ (x * b) (a * y:Int)).2]):=by
 have c1:=rtop_a x a
 have c2:=rbot_a x a
 have c3:=rtop_a y b
 have c4:=rbot_a y b
 rw [← zV_nat] at c2 c4
 have s1:=szZ_mul x b
 have s3:=szZ_mul a y
 rw [szZ_nat] at s1 s3
 have c5:=wmul_z x b (show szZ x≤100000 by omega) (show (limbs b).length≤100000 by omega)
 have c7:=wmul_z a y (show (limbs a).length≤100000 by omega) (show szZ y≤100000 by omega)
 have c9:=rmake_a (x * b) (a * y) (by omega) (by omega)
 refine acalls_of code_ratio_Div (by simp [fn_ratio_Div]) fun C hC => ?_
 refine wk5 ?_
 exact fin
theorem limbs_one:limbs 1=[1]:=by rw [limbs_pos (by omega),show 1 / 4294967296=0 from rfl,limbs_zero]; rfl
theorem rwhole_z (z:Int) (h:szZ z≤32):ACalls Tryz.prog 185 [.agg (zV z)] (.agg (numV (qN z 1))):=by
 have:=whole_a (decide (z<0)) (limbs z.natAbs) (show (limbs z.natAbs).length≤1000000000 by unfold szZ at h; omega) (by rw [trimI_self]; exact h)
 rw [oneN,trimI_self,← sg_neg,sg_self] at this
 rw [qN,limbs_one]
 exact this
theorem rcmp_a (x:Int) (a:Nat) (y:Int) (b:Nat) (lx:szZ x≤20000) (la:(limbs a).length≤20000) (ly:szZ y≤20000) (lb:(limbs b).length≤20000) :
 ACalls Tryz.prog 163 [.agg (numV (qN x a)),.agg (numV (qN y b))] (.lit (.int .i64 (cmpZ (x * b) (y * a)))):=by
 have c1:=rtop_a x a
 have c2:=rbot_a x a
 have c3:=rtop_a y b
 have c4:=rbot_a y b
 have o1:=rone_a a
 have o2:=rone_a b
 rw [← zV_nat] at c2 c4
 have c5:=wmul_z x b (show szZ x≤100000 by omega) (show (limbs b).length≤100000 by omega)
 have c6:=wmul_z y a (show szZ y≤100000 by omega) (show (limbs a).length≤100000 by omega)
 have c7:=wcmp_z (x * b) (y * a)
 refine acalls_of code_ratio_Cmp (by simp [fn_ratio_Cmp]) fun C hC => ?_
 by_cases h1:a=1
 ·rw [decide_eq_true h1] at o1
  by_cases h2:b=1
  ·rw [decide_eq_true h2] at o2
   have c8:=wcmp_z x y
   rw [show x * (b:Int)=x from by rw [h2]; exact Int.mul_one x,show y * (a:Int)=y from by rw [h1]; exact Int.mul_one y]
   refine wk5 ?_
   exact fin
  ·rw [decide_eq_false h2] at o2
   refine wk5 ?_
   exact fin
 ·rw [decide_eq_false h1] at o1
  refine wk5 ?_
  exact fin
theorem rsub_a (x:Int) (a:Nat) (y:Int) (b:Nat) (lx:szZ x≤20000) (la:(limbs a).length≤20000) (ly:szZ y≤20000) (lb:(limbs b).length≤20000) :
 ACalls Tryz.prog 215 [.agg (numV (qN x a)),.agg (numV (qN y b))] (.tup [.agg (numV (mkQ (x * b+(-y) * a) (a * b:Int)).1),nA (mkQ (x * b+(-y) * a) (a * b:Int)).2]):=by
 have c1:=rneg_a y b (by omega) (by omega)
 have c2:=radd_a x a (-y) b lx la (by rw [szZ_neg]; exact ly) lb
 refine acalls_of code_ratio_Sub (by simp [fn_ratio_Sub]) fun C hC => ?_
 refine wk5 ?_
 exact fin
theorem szZ_div (x:Int) (a:Nat) (ha:a≠0):szZ (x / a)≤szZ x:=by
 refine limbs_len_mono ?_
 rcases Int.lt_or_le x 0 with hx|hx
 ·have h0:=Int.mul_nonneg (show 0 ≤ -x by omega) (show 0≤(a:Int) - 1 by omega)
  rw [Int.neg_mul,Int.mul_sub,Int.mul_one] at h0
  have h1:=Int.le_ediv_of_mul_le (a:=x) (b:=x) (c:=a) (by omega) (by omega)
  have h2:=Int.ediv_lt_of_lt_mul (a:=x) (b:=0) (c:=a) (by omega) (by omega)
  omega
 ·have h1:=Int.ediv_nonneg hx (show (0:Int)≤a by omega)
  have h2:=Int.ediv_le_self (a:=x) (a:Int) hx
  omega
theorem rfloor_a (x:Int) (a:Nat) (ha:a≠0) (lx:szZ x≤32) (la:(limbs a).length≤20000) :
 ACalls Tryz.prog 202 [.agg (numV (qN x a))] (.agg (numV (qN (x / a) 1))):=by
 have c1:=rtop_a x a
 have c2:=rbot_a x a
 have c3:=wdiv_a (decide (x<0)) x.natAbs a (show szZ x≤90000 by omega) (by omega) ha
 rw [sg_self] at c3
 have c4:=rwhole_z (x / a) (Nat.le_trans (szZ_div x a ha) lx)
 refine acalls_of code_ratio_Floor (by simp [fn_ratio_Floor]) fun C hC => ?_
 refine wk5 ?_
 exact fin
theorem mkQ_cases (p q:Int):(∃ e:Int,e≠0∧mkQ p q=(zN,e))∨∃ (z:Int) (r:Nat),mkQ p q=(qN z r,0)∧r≠0∧szZ z≤32∧(limbs r).length≤32:=by
 unfold mkQ mkR
 by_cases h:q.natAbs=0
 ·exact .inl ⟨3,by omega,if_pos h⟩
 ·rw [if_neg h]
  by_cases h2:32<(limbs (p.natAbs / Nat.gcd p.natAbs q.natAbs)).length∨32<(limbs (q.natAbs / Nat.gcd p.natAbs q.natAbs)).length
  ·exact .inl ⟨7,by omega,if_pos h2⟩
  ·rw [if_neg h2]
   refine .inr ⟨_,_,rfl,?_,?_,?_⟩
   ·exact Nat.ne_of_gt (Nat.div_pos (Nat.le_of_dvd (Nat.pos_of_ne_zero h) (Nat.gcd_dvd_right _ _)) (Nat.gcd_pos_of_pos_right _ (Nat.pos_of_ne_zero h)))
   ·unfold szZ; rw [sg_abs]; omega
   ·omega
theorem rgcd_a (x:Int) (a:Nat) (y:Int) (b:Nat) (lx:szZ x≤32) (ly:szZ y≤32) :
 ACalls Tryz.prog 220 [.agg (numV (qN x a)),.agg (numV (qN y b))]
  (.tup [.agg (numV (if a=1∧b=1 then qN (Nat.gcd x.natAbs y.natAbs) 1 else zN)),nA (if a=1∧b=1 then 0 else 3)]):=by
 have o1:=rone_a a
 have o2:=rone_a b
 have zn:numV zN=[.lit (.bool false),.sl 1 [],.sl 1 []]:=rfl
 refine acalls_of code_ratio_Gcd (by simp [fn_ratio_Gcd]) fun C hC => ?_
 by_cases h1:a=1
 ·rw [decide_eq_true h1] at o1
  by_cases h2:b=1
  ·rw [decide_eq_true h2] at o2
   rw [if_pos ⟨h1,h2⟩,if_pos ⟨h1,h2⟩]
   have c1:=ngcd_a (limbs x.natAbs) (limbs y.natAbs) (limbs_ok _) (limbs_ok _) (show szZ x≤90000 by omega) (show szZ y≤90000 by omega)
   rw [valL_limbs,valL_limbs] at c1
   have hG:szZ (Nat.gcd x.natAbs y.natAbs:Nat)≤32:=by
    by_cases h:x.natAbs=0
    ·rw [h,Nat.gcd_zero_left]; exact ly
    ·exact Nat.le_trans (limbs_len_mono (Nat.gcd_le_left _ (Nat.pos_of_ne_zero h))) lx
   have c2:=rwhole_z (Nat.gcd x.natAbs y.natAbs:Nat) hG
   rw [zV_nat] at c2
   refine wk5 ?_
   exact fin
  ·rw [decide_eq_false h2] at o2
   rw [if_neg (fun h=>h2 h.2),if_neg (fun h=>h2 h.2)]
   refine wk5 ?_
   exact fin
 ·rw [decide_eq_false h1] at o1
  rw [if_neg (fun h=>h1 h.1),if_neg (fun h=>h1 h.1)]
  refine wk5 ?_
  exact fin
def NumR (r:Num):Prop:=r=zN∨∃ (z:Int) (q:Nat),r=qN z q∧q≠0∧szZ z≤32∧(limbs q).length≤32
theorem mkQ_R (p q:Int):NumR (mkQ p q).1:=by
 rcases mkQ_cases p q with ⟨e,_,h⟩|⟨z,r,h,h1⟩
 ·rw [h]; exact .inl rfl
 ·rw [h]; exact .inr ⟨z,r,rfl,h1⟩
theorem rmod_a (x:Int) (a:Nat) (y:Int) (b:Nat) (ha:a≠0) (hb:b≠0) (lx:szZ x≤32) (la:(limbs a).length≤32) (ly:szZ y≤32) (lb:(limbs b).length≤32) :
 ∃ r e,NumR r∧ACalls Tryz.prog 217 [.agg (numV (qN x a)),.agg (numV (qN y b))] (.tup [.agg (numV r),nA e]):=by
 have zn:numV zN=[.lit (.bool false),.sl 1 [],.sl 1 []]:=rfl
 have c1:=rsign_a x a
 by_cases h:x=0
 ·rw [Int.sign_eq_zero_iff_zero.2 h] at c1
  have c2:=rcopied_a (decide (y<0)) (decide (y<0)) y.natAbs b (show szZ y≤100000 by omega) (by omega)
  rw [← sg_neg,sg_self] at c2
  refine ⟨qN y b,0,.inr ⟨y,b,rfl,hb,ly,lb⟩,?_⟩
  refine acalls_of code_ratio_Mod (by simp [fn_ratio_Mod]) fun C hC => ?_
  refine wk5 ?_
  exact fin
 have hs:∃ s:Int,s≠0∧ACalls Tryz.prog 199 [.agg (numV (qN x a))] (.lit (.int .i64 s)):=⟨x.sign,fun hc=>h (Int.sign_eq_zero_iff_zero.1 hc),c1⟩
 clear c1
 obtain ⟨s,s0,c1⟩:=hs
 have c2:=rdiv_a y b x a (by omega) (by omega) (by omega) (by omega)
 rcases mkQ_cases (y * a) (b * x:Int) with ⟨e,e0,hq⟩|⟨z,q,hq,q0,lz,lq⟩
 ·rw [hq] at c2
  refine ⟨zN,e,.inl rfl,?_⟩
  refine acalls_of code_ratio_Mod (by simp [fn_ratio_Mod]) fun C hC => ?_
  refine wk5 ?_
  exact fin
 rw [hq] at c2
 have c3:=rfloor_a z q q0 lz (by omega)
 have lf:=Nat.le_trans (szZ_div z q q0) lz
 have c4:=rmul_a x a (z / q) 1 (by omega) (by omega) (by omega) (by rw [limbs_one]; simp)
 rcases mkQ_cases (x * (z / q)) (a * (1:Nat):Int) with ⟨e,e0,hp⟩|⟨w,p,hp,p0,lw,lp⟩
 ·rw [hp] at c4
  refine ⟨zN,e,.inl rfl,?_⟩
  refine acalls_of code_ratio_Mod (by simp [fn_ratio_Mod]) fun C hC => ?_
  refine wk5 ?_
  exact fin
 rw [hp] at c4
 have c5:=rsub_a y b w p (by omega) (by omega) (by omega) (by omega)
 refine ⟨_,(mkQ (y * p+(-w) * b) (b * p:Int)).2,mkQ_R (y * p+(-w) * b) (b * p:Int),?_⟩
 refine acalls_of code_ratio_Mod (by simp [fn_ratio_Mod]) fun C hC => ?_
 refine wk5 ?_
 exact fin
theorem rlcm_a (x:Int) (a:Nat) (y:Int) (b:Nat) (ha:a≠0) (hb:b≠0) (lx:szZ x≤32) (la:(limbs a).length≤32) (ly:szZ y≤32) (lb:(limbs b).length≤32) :
 ∃ r e,NumR r∧ACalls Tryz.prog 219 [.agg (numV (qN x a)),.agg (numV (qN y b))] (.tup [.agg (numV r),nA e]):=by
 have zn:numV zN=[.lit (.bool false),.sl 1 [],.sl 1 []]:=rfl
 have c1:=rgcd_a x a y b lx ly
 by_cases h:a=1∧b=1
 ·rw [if_pos h,if_pos h] at c1
  have hG:szZ (Nat.gcd x.natAbs y.natAbs:Nat)≤32:=by
   by_cases h:x.natAbs=0
   ·rw [h,Nat.gcd_zero_left]; exact ly
   ·exact Nat.le_trans (limbs_len_mono (Nat.gcd_le_left _ (Nat.pos_of_ne_zero h))) lx
  generalize Nat.gcd x.natAbs y.natAbs=G at *
  have c2:=rsign_a G 1
  by_cases g0:G=0
  ·rw [g0,show ((0:Nat):Int).sign=0 from rfl] at c2
   rw [g0] at c1
   have c3:=rofG_a 0 (by omega) (by omega)
   refine ⟨_,0,.inr ⟨0,1,(by rw [qN,limbs_one]; exact rfl:ofZ 0=qN 0 1),by omega,by rw [szZ,show (0:Int).natAbs=0 from rfl,limbs_zero]; simp,by rw [limbs_one]; simp⟩,?_⟩
   refine acalls_of code_ratio_Lcm (by simp [fn_ratio_Lcm]) fun C hC => ?_
   refine wk5 ?_
   exact fin
  ·rw [Int.sign_eq_one_of_pos (by omega)] at c2
   have c3:=rdiv_a x a G 1 (by omega) (by omega) (by omega) (by rw [limbs_one]; simp)
   rcases mkQ_cases (x * (1:Nat)) (a * G:Int) with ⟨e,e0,hq⟩|⟨z,q,hq,q0,lz,lq⟩
   ·rw [hq] at c3
    refine ⟨zN,e,.inl rfl,?_⟩
    refine acalls_of code_ratio_Lcm (by simp [fn_ratio_Lcm]) fun C hC => ?_
    refine wk5 ?_
    exact fin
   ·rw [hq] at c3
    have c4:=rmul_a z q y b (by omega) (by omega) (by omega) (by omega)
    refine ⟨_,(mkQ (z * y) (q * b:Int)).2,mkQ_R (z * y) (q * b:Int),?_⟩
    refine acalls_of code_ratio_Lcm (by simp [fn_ratio_Lcm]) fun C hC => ?_
    refine wk5 ?_
    exact fin
 ·rw [if_neg h,if_neg h] at c1
  refine ⟨zN,3,.inl rfl,?_⟩
  refine acalls_of code_ratio_Lcm (by simp [fn_ratio_Lcm]) fun C hC => ?_
  refine wk5 ?_
  exact fin
end Go.Proofs.YtnnipocjapblkaaGreat
