/- Ratios of the program: sums, differences, products, quotients, by their values. -/
import Derived.Test.YtjcolpcfcdkckaaGreatK25
import Derived.Test.YtjcolpcfcdkckaaGreatK30
set_option maxRecDepth 10000
set_option maxHeartbeats 2000000
namespace Go.Proofs.YtjcolpcfcdkckaaGreat
set_option linter.unusedVariables false
open Go.RowKit
theorem Amm (z:Int) (q:Nat):qN (-z) q=⟨sgn (!decide (z<0)) (limbs z.natAbs),limbs z.natAbs,limbs q⟩:=by
 have:=Rv (!decide (z<0)) z.natAbs
 have e:sg (!decide (z<0)) z.natAbs = -z:=by
  unfold sg;by_cases h:z<0
  ·simp [h]; omega
  ·simp [h]; omega
 rw [e] at this;rw [qN,this,Int.natAbs_neg]
theorem Rx (g:Bool) (b:Bool) (X q:Nat) (lz:(limbs X).length≤100000) (lq:(limbs q).length≤100000) :
 Ae Tryz.prog 221 [.lit (.bool g),.agg (AY ⟨b,limbs X,limbs q⟩)] (.agg (AY ⟨sgn g (limbs X),limbs X,limbs q⟩)):=by
 have c1:=Th X lz;have c2:=Th q lq;have l1:=Ac .u32 (limbs X);refine Aa PP fun C hC => ?_;by_cases h:(limbs X).length=0
 ·rw [h] at l1
  rw [sgn,if_pos h];cases g<;>(refine Aj ?_; exact Am)
 ·have hp:=Nat.pos_of_ne_zero h
  rw [sgn,if_neg h];cases g<;>(refine Aj ?_; exact Am)
theorem ZM (z:Int) (q:Nat) (lz:Cx z≤100000) (lq:(limbs q).length≤100000) :
 Ae Tryz.prog 186 [.agg (AY (qN z q))] (.agg (AY (qN (-z) q))):=by
 have c1:=Rx (!decide (z<0)) (decide (z<0)) z.natAbs q lz lq;rw [Amm];refine Aa Vg fun C hC => ?_;rw [qN];cases h:decide (z<0)<;>rw [h] at c1<;>(refine Aj ?_; exact Am)
theorem Tm (z:Int) (q:Nat):Ae Tryz.prog 187 [.agg (AY (qN z q))] (.lit (.int .i64 z.sign)):=by
 have c1:=Fk z q;have c2:=ZI z;refine Aa SS fun C hC => ?_;refine Aj ?_;exact Am
theorem Adw (x:Int) (a:Nat) (y:Int) (b:Nat) (lx:Cx x≤20000) (la:(limbs a).length≤20000) (ly:Cx y≤20000) (lb:(limbs b).length≤20000) :
 Ae Tryz.prog 207 [.agg (AY (qN x a)),.agg (AY (qN y b))] (.tup [.agg (AY (Qr (x * b+y * a) (a * b:Int)).1),nA (Qr (x * b+y * a) (a * b:Int)).2]):=by
 have c1:=Fk x a;have c2:=Gr x a;have c3:=Fk y b;have c4:=Gr y b;rw [← Oj] at c2 c4;have s1:=H9 x b;have s2:=H9 y a;have s3:=H9 a b;have s4:=AkH (x * b) (y * a);rw [PW] at s1 s2 s3;have c5:=Fp x b (show Cx x≤100000 by omega) (show (limbs b).length≤100000 by omega);have c6:=Fp y a (show Cx y≤100000 by omega) (show (limbs a).length≤100000 by omega);have c7:=Fp a b (show (limbs a).length≤100000 by omega) (show (limbs b).length≤100000 by omega);have c8:=Aml (x * b) (y * a) (show Cx (x * b)≤100000 by omega) (show Cx (y * a)≤100000 by omega);have c9:=PX (x * b+y * a) (a * b) (by omega) (by rw [PW] at s3; omega);refine Aa Vj fun C hC => ?_;refine Aj ?_;exact Am
theorem Adx (x:Int) (a:Nat) (y:Int) (b:Nat) (lx:Cx x≤20000) (la:(limbs a).length≤20000) (ly:Cx y≤20000) (lb:(limbs b).length≤20000) :
 Ae Tryz.prog 209 [.agg (AY (qN x a)),.agg (AY (qN y b))] (.tup [.agg (AY (Qr (x * y) (a * b:Int)).1),nA (Qr (x * y) (a * b:Int)).2]):=by
 have c1:=Fk x a;have c2:=Gr x a;have c3:=Fk y b;have c4:=Gr y b;rw [← Oj] at c2 c4;have s1:=H9 x y;have s3:=H9 a b;rw [PW,PW] at s3;have c5:=Fp x y (show Cx x≤100000 by omega) (show Cx y≤100000 by omega);have c7:=Fp a b (show (limbs a).length≤100000 by omega) (show (limbs b).length≤100000 by omega);have c9:=PX (x * y) (a * b) (by omega) (by omega);refine Aa Vl fun C hC => ?_;refine Aj ?_;exact Am
theorem ZN (x:Int) (a:Nat) (y:Int) (b:Nat) (lx:Cx x≤20000) (la:(limbs a).length≤20000) (ly:Cx y≤20000) (lb:(limbs b).length≤20000) :
 Ae Tryz.prog 188 [.agg (AY (qN x a)),.agg (AY (qN y b))] (.tup [.agg (AY (Qr (x * b) (a * y:Int)).1),nA (Qr (x * b) (a * y:Int)).2]):=by
 have c1:=Fk x a;have c2:=Gr x a;have c3:=Fk y b;have c4:=Gr y b;rw [← Oj] at c2 c4;have s1:=H9 x b;have s3:=H9 a y;rw [PW] at s1 s3;have c5:=Fp x b (show Cx x≤100000 by omega) (show (limbs b).length≤100000 by omega);have c7:=Fp a y (show (limbs a).length≤100000 by omega) (show Cx y≤100000 by omega);have c9:=PX (x * b) (a * y) (by omega) (by omega);refine Aa Vm fun C hC => ?_;refine Aj ?_;exact Am
theorem BC:limbs 1=[1]:=by rw [Bf (by omega),show 1 / 4294967296=0 from rfl,AC]; rfl
theorem VE (z:Int) (h:Cx z≤32):Ae Tryz.prog 173 [.agg (zV z)] (.agg (AY (qN z 1))):=by
 have:=Ael (decide (z<0)) (limbs z.natAbs) (show (limbs z.natAbs).length≤1000000000 by unfold Cx at h; omega) (by rw [FD]; exact h)
 rw [Aj7,FD,← Rv,DS] at this;rw [qN,BC];exact this
theorem ZO (x:Int) (a:Nat) (y:Int) (b:Nat) (lx:Cx x≤20000) (la:(limbs a).length≤20000) (ly:Cx y≤20000) (lb:(limbs b).length≤20000) :
 Ae Tryz.prog 149 [.agg (AY (qN x a)),.agg (AY (qN y b))] (.lit (.int .i64 (PV (x * b) (y * a)))):=by
 have c1:=Fk x a;have c2:=Gr x a;have c3:=Fk y b;have c4:=Gr y b;have o1:=Oi a;have o2:=Oi b;rw [← Oj] at c2 c4;have c5:=Fp x b (show Cx x≤100000 by omega) (show (limbs b).length≤100000 by omega);have c6:=Fp y a (show Cx y≤100000 by omega) (show (limbs a).length≤100000 by omega);have c7:=AiC (x * b) (y * a);refine Aa Vi fun C hC => ?_;by_cases h1:a=1
 ·rw [decide_eq_true h1] at o1
  by_cases h2:b=1
  ·rw [decide_eq_true h2] at o2
   have c8:=AiC x y;rw [show x * (b:Int)=x from by rw [h2]; exact Int.mul_one x,show y * (a:Int)=y from by rw [h1]; exact Int.mul_one y];refine Aj ?_;exact Am
  ·rw [decide_eq_false h2] at o2
   refine Aj ?_;exact Am
 ·rw [decide_eq_false h1] at o1
  refine Aj ?_;exact Am
theorem AiG (x:Int) (a:Nat) (y:Int) (b:Nat) (lx:Cx x≤20000) (la:(limbs a).length≤20000) (ly:Cx y≤20000) (lb:(limbs b).length≤20000) :
 Ae Tryz.prog 208 [.agg (AY (qN x a)),.agg (AY (qN y b))] (.tup [.agg (AY (Qr (x * b+(-y) * a) (a * b:Int)).1),nA (Qr (x * b+(-y) * a) (a * b:Int)).2]):=by
 have c1:=ZM y b (by omega) (by omega);have c2:=Adw x a (-y) b lx la (by rw [AkI]; exact ly) lb;refine Aa Vk fun C hC => ?_;refine Aj ?_;exact Am
theorem Tn (x:Int) (a:Nat) (ha:a≠0):Cx (x / a)≤Cx x:=by
 refine Bj ?_;rcases Int.lt_or_le x 0 with hx|hx
 ·have h0:=Int.mul_nonneg (show 0 ≤ -x by omega) (show 0≤(a:Int) - 1 by omega)
  rw [Int.neg_mul,Int.mul_sub,Int.mul_one] at h0;have h1:=Int.le_ediv_of_mul_le (a:=x) (b:=x) (c:=a) (by omega) (by omega);have h2:=Int.ediv_lt_of_lt_mul (a:=x) (b:=0) (c:=a) (by omega) (by omega);omega
 ·have h1:=Int.ediv_nonneg hx (show (0:Int)≤a by omega)
  have h2:=Int.ediv_le_self (a:=x) (a:Int) hx;omega
theorem VF (x:Int) (a:Nat) (ha:a≠0) (lx:Cx x≤32) (la:(limbs a).length≤20000) :
 Ae Tryz.prog 190 [.agg (AY (qN x a))] (.agg (AY (qN (x / a) 1))):=by
 have c1:=Fk x a;have c2:=Gr x a;have c3:=Amf (decide (x<0)) x.natAbs a (show Cx x≤90000 by omega) (by omega) ha;rw [DS] at c3;have c4:=VE (x / a) (Nat.le_trans (Tn x a ha) lx);refine Aa Rq fun C hC => ?_;refine Aj ?_;exact Am
theorem L7 (p q:Int):(∃ e:Int,e≠0∧Qr p q=(zN,e))∨∃ (z:Int) (r:Nat),Qr p q=(qN z r,0)∧r≠0∧Cx z≤32∧(limbs r).length≤32:=by
 unfold Qr mkR;by_cases h:q.natAbs=0
 ·exact .inl ⟨3,by omega,if_pos h⟩
 ·rw [if_neg h]
  by_cases h2:32<(limbs (p.natAbs / Nat.gcd p.natAbs q.natAbs)).length∨32<(limbs (q.natAbs / Nat.gcd p.natAbs q.natAbs)).length
  ·exact .inl ⟨7,by omega,if_pos h2⟩
  ·rw [if_neg h2]
   refine .inr ⟨_,_,rfl,?_,?_,?_⟩
   ·exact Nat.ne_of_gt (Nat.div_pos (Nat.le_of_dvd (Nat.pos_of_ne_zero h) (Nat.gcd_dvd_right _ _)) (Nat.gcd_pos_of_pos_right _ (Nat.pos_of_ne_zero h)))
   ·unfold Cx; rw [Oh]; omega
   ·omega
theorem AiH (x:Int) (a:Nat) (y:Int) (b:Nat) (lx:Cx x≤32) (ly:Cx y≤32) :
 Ae Tryz.prog 213 [.agg (AY (qN x a)),.agg (AY (qN y b))]
  (.tup [.agg (AY (if a=1∧b=1 then qN (Nat.gcd x.natAbs y.natAbs) 1 else zN)),nA (if a=1∧b=1 then 0 else 3)]):=by
 have o1:=Oi a;have o2:=Oi b;have zn:AY zN=[.lit (.bool false),.sl 1 [],.sl 1 []]:=rfl;refine Aa Vo fun C hC => ?_;by_cases h1:a=1
 ·rw [decide_eq_true h1] at o1
  by_cases h2:b=1
  ·rw [decide_eq_true h2] at o2
   rw [if_pos ⟨h1,h2⟩,if_pos ⟨h1,h2⟩];have c1:=Aio (limbs x.natAbs) (limbs y.natAbs) (Ar _) (Ar _) (show Cx x≤90000 by omega) (show Cx y≤90000 by omega);rw [Aq,Aq] at c1
   have hG:Cx (Nat.gcd x.natAbs y.natAbs:Nat)≤32:=by
    by_cases h:x.natAbs=0
    ·rw [h,Nat.gcd_zero_left]; exact ly
    ·exact Nat.le_trans (Bj (Nat.gcd_le_left _ (Nat.pos_of_ne_zero h))) lx
   have c2:=VE (Nat.gcd x.natAbs y.natAbs:Nat) hG;rw [Oj] at c2;refine Aj ?_;exact Am
  ·rw [decide_eq_false h2] at o2
   rw [if_neg (fun h=>h2 h.2),if_neg (fun h=>h2 h.2)];refine Aj ?_;exact Am
 ·rw [decide_eq_false h1] at o1
  rw [if_neg (fun h=>h1 h.1),if_neg (fun h=>h1 h.1)];refine Aj ?_;exact Am
def DH (r:Fx):Prop:=r=zN∨∃ (z:Int) (q:Nat),r=qN z q∧q≠0∧Cx z≤32∧(limbs q).length≤32
theorem P7 (p q:Int):DH (Qr p q).1:=by
 rcases L7 p q with ⟨e,_,h⟩|⟨z,r,h,h1⟩
 ·rw [h]; exact .inl rfl
 ·rw [h]; exact .inr ⟨z,r,rfl,h1⟩
theorem Amn (x:Int) (a:Nat) (y:Int) (b:Nat) (ha:a≠0) (hb:b≠0) (lx:Cx x≤32) (la:(limbs a).length≤32) (ly:Cx y≤32) (lb:(limbs b).length≤32) :
 ∃ r e,DH r∧Ae Tryz.prog 210 [.agg (AY (qN x a)),.agg (AY (qN y b))] (.tup [.agg (AY r),nA e]):=by
 have zn:AY zN=[.lit (.bool false),.sl 1 [],.sl 1 []]:=rfl;have c1:=Tm x a;by_cases h:x=0
 ·rw [Int.sign_eq_zero_iff_zero.2 h] at c1
  have c2:=Rx (decide (y<0)) (decide (y<0)) y.natAbs b (show Cx y≤100000 by omega) (by omega);rw [← Rv,DS] at c2;refine ⟨qN y b,0,.inr ⟨y,b,rfl,hb,ly,lb⟩,?_⟩;refine Aa Fi fun C hC => ?_;refine Aj ?_;exact Am
 have hs:∃ s:Int,s≠0∧Ae Tryz.prog 187 [.agg (AY (qN x a))] (.lit (.int .i64 s)):=⟨x.sign,fun hc=>h (Int.sign_eq_zero_iff_zero.1 hc),c1⟩;clear c1;obtain ⟨s,s0,c1⟩:=hs;have c2:=ZN y b x a (by omega) (by omega) (by omega) (by omega);rcases L7 (y * a) (b * x:Int) with ⟨e,e0,hq⟩|⟨z,q,hq,q0,lz,lq⟩
 ·rw [hq] at c2
  refine ⟨zN,e,.inl rfl,?_⟩;refine Aa Fi fun C hC => ?_;refine Aj ?_;exact Am
 rw [hq] at c2;have c3:=VF z q q0 lz (by omega);have lf:=Nat.le_trans (Tn z q q0) lz;have c4:=Adx x a (z / q) 1 (by omega) (by omega) (by omega) (by rw [BC]; simp);rcases L7 (x * (z / q)) (a * (1:Nat):Int) with ⟨e,e0,hp⟩|⟨w,p,hp,p0,lw,lp⟩
 ·rw [hp] at c4
  refine ⟨zN,e,.inl rfl,?_⟩;refine Aa Fi fun C hC => ?_;refine Aj ?_;exact Am
 rw [hp] at c4;have c5:=AiG y b w p (by omega) (by omega) (by omega) (by omega);refine ⟨_,(Qr (y * p+(-w) * b) (b * p:Int)).2,P7 (y * p+(-w) * b) (b * p:Int),?_⟩;refine Aa Fi fun C hC => ?_;refine Aj ?_;exact Am
theorem Amo (x:Int) (a:Nat) (y:Int) (b:Nat) (ha:a≠0) (hb:b≠0) (lx:Cx x≤32) (la:(limbs a).length≤32) (ly:Cx y≤32) (lb:(limbs b).length≤32) :
 ∃ r e,DH r∧Ae Tryz.prog 212 [.agg (AY (qN x a)),.agg (AY (qN y b))] (.tup [.agg (AY r),nA e]):=by
 have zn:AY zN=[.lit (.bool false),.sl 1 [],.sl 1 []]:=rfl;have c1:=AiH x a y b lx ly;by_cases h:a=1∧b=1
 ·rw [if_pos h,if_pos h] at c1
  have hG:Cx (Nat.gcd x.natAbs y.natAbs:Nat)≤32:=by
   by_cases h:x.natAbs=0
   ·rw [h,Nat.gcd_zero_left]; exact ly
   ·exact Nat.le_trans (Bj (Nat.gcd_le_left _ (Nat.pos_of_ne_zero h))) lx
  generalize Nat.gcd x.natAbs y.natAbs=G at *;have c2:=Tm G 1;by_cases g0:G=0
  ·rw [g0,show ((0:Nat):Int).sign=0 from rfl] at c2
   rw [g0] at c1;have c3:=LA 0 (by omega) (by omega);refine ⟨_,0,.inr ⟨0,1,(by rw [qN,BC]; exact rfl:HH 0=qN 0 1),by omega,by rw [Cx,show (0:Int).natAbs=0 from rfl,AC]; simp,by rw [BC]; simp⟩,?_⟩;refine Aa Fj fun C hC => ?_;refine Aj ?_;exact Am
  ·rw [Int.sign_eq_one_of_pos (by omega)] at c2
   have c3:=ZN x a G 1 (by omega) (by omega) (by omega) (by rw [BC]; simp);rcases L7 (x * (1:Nat)) (a * G:Int) with ⟨e,e0,hq⟩|⟨z,q,hq,q0,lz,lq⟩
   ·rw [hq] at c3
    refine ⟨zN,e,.inl rfl,?_⟩;refine Aa Fj fun C hC => ?_;refine Aj ?_;exact Am
   ·rw [hq] at c3
    have c4:=Adx z q y b (by omega) (by omega) (by omega) (by omega);refine ⟨_,(Qr (z * y) (q * b:Int)).2,P7 (z * y) (q * b:Int),?_⟩;refine Aa Fj fun C hC => ?_;refine Aj ?_;exact Am
 ·rw [if_neg h,if_neg h] at c1
  refine ⟨zN,3,.inl rfl,?_⟩;refine Aa Fj fun C hC => ?_;refine Aj ?_;exact Am
end Go.Proofs.YtjcolpcfcdkckaaGreat
