/- The scalar functions of one number. -/
import Derived.Test.YtjcolpcfcdkckaaGreatK33
set_option maxRecDepth 10000
set_option maxHeartbeats 4000000
namespace Go.Proofs.YtjcolpcfcdkckaaGreat
set_option linter.unusedVariables false
open Go.RowKit
theorem JY.R {n:Fx} (h:JY n):DH n:=.inr h
theorem Ala (z:Int) (q:Nat) (hq:q≠0) (lz:Cx z≤32) (lq:(limbs q).length≤32):∃ r,DH r∧Ae Tryz.prog 189 [.agg (AY (qN z q))] (.agg (AY r)):=by
 have hz:Cx (-z)≤32:=by unfold Cx at *; rw [Int.natAbs_neg]; exact lz
 have c1:=ZM z q (by omega) (by omega);have c2:=VF (-z) q hq hz (by omega);have hd:Cx (-z / q)≤32:=Nat.le_trans (Tn (-z) q hq) hz;have hd2:Cx (-(-z / q))≤32:=by unfold Cx at *; rw [Int.natAbs_neg]; exact hd
 have c3:=ZM (-z / q) 1 (by omega) (by rw [BC]; simp);refine ⟨qN (-(-z / q)) 1,.inr ⟨_,1,rfl,by omega,hd2,by rw [BC]; simp⟩,?_⟩;generalize qN (-(-z / q)) 1=r3 at *;generalize qN (-z / q) 1=r2 at *;generalize qN (-z) q=r1 at *;refine Aa ST fun C hC => ?_;refine Aj ?_;exact Am
theorem AmB (z:Int) (q:Nat) (hq:q≠0) (lz:Cx z≤32) (lq:(limbs q).length≤32):∃ r,DH r∧Ae Tryz.prog 191 [.agg (AY (qN z q))] (.agg (AY r)):=by
 have c1:=Rx false (decide (z<0)) z.natAbs q (by unfold Cx at lz; omega) (by omega)
 have e:(⟨sgn false (limbs z.natAbs),limbs z.natAbs,limbs q⟩:Fx)=qN (z.natAbs:Int) q:=by
  unfold qN;have h1:sgn false (limbs z.natAbs)=false:=by unfold sgn; split<;>rfl
  have h2:decide ((z.natAbs:Int)<0)=false:=by simp
  rw [h1,h2,Int.natAbs_natCast]
 rw [e] at c1;have hs:Cx (z.natAbs:Int)≤32:=by unfold Cx at *; rw [Int.natAbs_natCast]; exact lz
 refine ⟨qN (z.natAbs:Int) q,.inr ⟨_,q,rfl,hq,hs,lq⟩,?_⟩;clear e;generalize hr:qN (z.natAbs:Int) q=r at *;show Ae _ _ [.agg (AY ⟨decide (z<0),limbs z.natAbs,limbs q⟩)] _;generalize (⟨decide (z<0),limbs z.natAbs,limbs q⟩:Fx)=m at *;refine Aa Vh fun C hC => ?_;refine Aj ?_;exact Am
theorem AmC (z:Int) (q:Nat) (lz:Cx z≤32):Ae Tryz.prog 224 [.agg (AY (qN z q))] (.tup [.agg (if q=1 then zV z else zV 0),.lit (.bool (decide (q=1)))]):=by
 have c1:=Oi q;have c2:=Fk z q;have c3:=AeP z (by unfold Cx at lz; omega);by_cases h:q=1
 ·rw [if_pos h]
  rw [decide_eq_true h] at c1 ⊢;clear h;refine Aa Lq fun C hC => ?_;refine Aj ?_;exact Am
 ·rw [if_neg h,Tj]
  rw [decide_eq_false h] at c1 ⊢;have e:Cs false []=[.lit (.bool false),.sl 1 []]:=rfl;rw [e];clear h c2 c3;refine Aa Lq fun C hC => ?_;refine Aj ?_;exact Am
def KF:Nat→Int
 | 0=>1
 | n+1=>KF n * ((n:Int)+2)
theorem Aaa:∀ n:Nat,n≤1000→Cx (KF n)≤n+1
 | 0,_=>by show Cx 1≤1; rw [Cx,show (1:Int).natAbs=1 from rfl,BC]; simp
 | n+1,h=>by
   have h1:=Aaa n (by omega);have h2:=H9 (KF n) ((n:Int)+2)
   have h3:Cx ((n:Int)+2)≤1:=by
    unfold Cx;rw [show ((n:Int)+2).natAbs=n+2 from by omega,Bf (by omega),show (n+2) / 4294967296=0 from by omega,AC]; simp
   unfold KF;omega
theorem Alz (z:Int):zV z=Cs (decide (z<0)) (limbs z.natAbs):=rfl
theorem AmD (z:Int) (q:Nat) (hq:q≠0) (lz:Cx z≤32) (lq:(limbs q).length≤32):∃ r e,DH r∧Ae Tryz.prog 192 [.agg (AY (qN z q))] (.tup [.agg (AY r),nA e]):=by
 have zn:AY zN=[.lit (.bool false),.sl 1 [],.sl 1 []]:=rfl;have c1:=AmC z q lz;have c2:=Tm z q;obtain ⟨k,ok,hk,c3⟩:∃ (k:Int) (ok:Bool),(-9223372036854775808≤k∧k≤9223372036854775807)∧Ae Tryz.prog 111 [.agg (AY (qN z q))] (.tup [nA k,.lit (.bool ok)]):=VG z q lz lq;by_cases h1:q=1
 ·rw [if_pos h1,decide_eq_true h1] at c1
  by_cases h2:z.sign<0
  ·refine ⟨zN,3,.inl rfl,?_⟩
   refine Aa BU fun C hC => ?_;refine Aj ?_;exact Am
  ·cases ok
   ·refine ⟨zN,7,.inl rfl,?_⟩
    refine Aa BU fun C hC => ?_;refine Aj ?_;exact Am
   ·by_cases h3:k > 200
    ·refine ⟨zN,7,.inl rfl,?_⟩
     refine Aa BU fun C hC => ?_;refine Aj ?_;exact Am
    ·have c4:=Ro 1 (by omega) (by omega)
     have e1:Cs (decide ((1:Int)<0)) (limbs (1:Int).natAbs)=zV (KF 0):=rfl;rw [e1] at c4;obtain ⟨m,hm⟩:∃ m:Nat,m=k.toNat:=⟨_,rfl⟩;have hm2:m≤200:=by omega
     by_cases hbig:Cx (KF (m - 1)) > 32
     ·refine ⟨zN,7,.inl rfl,?_⟩
      refine Aa BU fun C hC => ?_;refine Aj ?_
      refine Ai [1,2,3,6,8] [0,1,2] (fun i:Nat=>[(9,nA ((i:Int)+2))]) (fun i=>[(3,some ⟨false,false,153,2,[zV (KF i)]⟩)]) 4
       (fun i=>i≤m - 1) (fun i=>m - 1 - i) 0 (Nat.zero_le _) ?_
      intro i hi;dsimp only [List.cons_append,List.nil_append] at hi ⊢;clear c1 c2 c3 c4;by_cases hlt:i<m - 1
      ·have c5:=Ro ((i:Int)+2) (by omega) (by omega)
       have c6:=Fp (KF i) ((i:Int)+2) (by have:=Aaa i (by omega); unfold Cx at this; omega) (by rw [show ((i:Int)+2).natAbs=i+2 from by omega,Bf (by omega),show (i+2) / 4294967296=0 from by omega,AC]; simp);rw [show KF i * ((i:Int)+2)=KF (i+1) from rfl] at c6;rw [← Alz] at c5;refine Aj ?_;exact ⟨i+1,by omega,by omega,BI hC.m []⟩
      ·obtain rfl:i=m - 1:=by omega
       have ll:=Ac .u32 (limbs (KF (m - 1)).natAbs);unfold Cx at hbig;refine Aj ?_;exact Am
     ·have c7:=VE (KF (m - 1)) (by omega)
      refine ⟨qN (KF (m - 1)) 1,0,.inr ⟨_,1,rfl,by omega,by omega,by rw [BC]; simp⟩,?_⟩;refine Aa BU fun C hC => ?_;refine Aj ?_
      refine Ai [1,2,3,6,8] [0,1,2] (fun i:Nat=>[(9,nA ((i:Int)+2))]) (fun i=>[(3,some ⟨false,false,153,2,[zV (KF i)]⟩)]) 4
       (fun i=>i≤m - 1) (fun i=>m - 1 - i) 0 (Nat.zero_le _) ?_
      intro i hi;dsimp only [List.cons_append,List.nil_append] at hi ⊢;clear c1 c2 c3 c4;by_cases hlt:i<m - 1
      ·have c5:=Ro ((i:Int)+2) (by omega) (by omega)
       have c6:=Fp (KF i) ((i:Int)+2) (by have:=Aaa i (by omega); unfold Cx at this; omega) (by rw [show ((i:Int)+2).natAbs=i+2 from by omega,Bf (by omega),show (i+2) / 4294967296=0 from by omega,AC]; simp);rw [show KF i * ((i:Int)+2)=KF (i+1) from rfl] at c6;rw [← Alz] at c5;clear c7;refine Aj ?_;exact ⟨i+1,by omega,by omega,BI hC.m []⟩
      ·obtain rfl:i=m - 1:=by omega
       have ll:=Ac .u32 (limbs (KF (m - 1)).natAbs);unfold Cx at hbig;refine Aj ?_;exact Am
 ·rw [if_neg h1,decide_eq_false h1,Tj] at c1
  refine ⟨zN,3,.inl rfl,?_⟩;refine Aa BU fun C hC => ?_;refine Aj ?_;exact Am
theorem AmE (f:Int) (z:Int) (q:Nat) (hq:q≠0) (lz:Cx z≤32) (lq:(limbs q).length≤32):∃ r e,DH r∧Ae Tryz.prog 151 [nA f,.agg (AY (qN z q))] (.tup [.agg (AY r),nA e]):=by
 have zn:AY zN=[.lit (.bool false),.sl 1 [],.sl 1 []]:=rfl;have hB:A2=1000000000:=rfl;have R1:DH (qN z q):=.inr ⟨z,q,rfl,hq,lz,lq⟩
 have intR:∀ y:Int,y.natAbs<4294967296→DH (HH y):=fun y hy=>.inr ⟨y,1,P9 y,by omega,by
  unfold Cx;by_cases h:y.natAbs=0
  ·rw [h,AC]; simp
  ·rw [Bf h,show y.natAbs / 4294967296=0 from by omega,AC]; simp,by rw [BC]; simp⟩
 by_cases h43:f=43
 ·subst h43
  have c1:=VH (qN z q) (by have:=R1.len; omega) (by have:=R1.len; omega);refine ⟨qN z q,0,R1,?_⟩;refine Aa Ba fun C hC => ?_;refine Aj ?_;exact Am
 by_cases h45:f=45
 ·subst h45
  have c1:=ZM z q (by omega) (by omega);have hz:Cx (-z)≤32:=by unfold Cx at *; rw [Int.natAbs_neg]; exact lz
  refine ⟨qN (-z) q,0,.inr ⟨_,q,rfl,hq,hz,lq⟩,?_⟩;refine Aa Ba fun C hC => ?_;refine Aj ?_;exact Am
 by_cases h215:f=215
 ·subst h215
  have c1:=Tm z q
  have hs : -1≤z.sign∧z.sign≤1:=by
   rcases Int.lt_trichotomy z 0 with h|h|h
   ·rw [Int.sign_eq_neg_one_of_neg h]; omega
   ·subst h; simp
   ·rw [Int.sign_eq_one_of_pos h]; omega
  have c2:=LA z.sign (by omega) (by omega);refine ⟨HH z.sign,0,intR _ (by omega),?_⟩;refine Aa Ba fun C hC => ?_;refine Aj ?_;exact Am
 by_cases h247:f=247
 ·subst h247
  have c1:=LA 1 (by omega) (by omega);have c2:=ZN 1 1 z q (by have:=L8; omega) (by rw [BC]; simp) (by omega) (by omega);rw [← P9] at c2;have hR:=P7 (1 * (q:Int)) (((1:Nat):Int) * z);generalize Qr (1 * (q:Int)) (((1:Nat):Int) * z)=M at c2 hR;refine ⟨M.1,M.2,hR,?_⟩;refine Aa Ba fun C hC => ?_;refine Aj ?_;exact Am
 by_cases h8968:f=8968
 ·subst h8968
  obtain ⟨r,hR,c1⟩:=Ala z q hq lz lq;refine ⟨r,0,hR,?_⟩;refine Aa Ba fun C hC => ?_;refine Aj ?_;exact Am
 by_cases h8970:f=8970
 ·subst h8970
  have c1:=VF z q hq lz (by omega);refine ⟨_,0,.inr ⟨_,1,rfl,by omega,Nat.le_trans (Tn z q hq) lz,by rw [BC]; simp⟩,?_⟩;refine Aa Ba fun C hC => ?_;refine Aj ?_;exact Am
 by_cases h124:f=124
 ·subst h124
  obtain ⟨r,hR,c1⟩:=AmB z q hq lz lq;refine ⟨r,0,hR,?_⟩;refine Aa Ba fun C hC => ?_;refine Aj ?_;exact Am
 by_cases h126:f=126
 ·subst h126
  obtain ⟨k,ok,hk,c1⟩:∃ (k:Int) (ok:Bool),(-9223372036854775808≤k∧k≤9223372036854775807)∧Ae Tryz.prog 111 [.agg (AY (qN z q))] (.tup [nA k,.lit (.bool ok)]):=VG z q lz lq;cases ok
  ·refine ⟨zN,3,.inl rfl,?_⟩
   refine Aa Ba fun C hC => ?_;refine Aj ?_;exact Am
  ·by_cases k0:k=0
   ·subst k0
    have c2:=LA 1 (by omega) (by omega);refine ⟨HH 1,0,intR _ (by omega),?_⟩;refine Aa Ba fun C hC => ?_;refine Aj ?_;exact Am
   ·by_cases k1:k=1
    ·subst k1
     have c2:=LA 0 (by omega) (by omega);refine ⟨HH 0,0,intR _ (by omega),?_⟩;refine Aa Ba fun C hC => ?_;refine Aj ?_;exact Am
    ·refine ⟨zN,3,.inl rfl,?_⟩
     refine Aa Ba fun C hC => ?_;refine Aj ?_;exact Am
 by_cases h33:f=33
 ·subst h33
  obtain ⟨r,e,hR,c1⟩:=AmD z q hq lz lq;refine ⟨r,e,hR,?_⟩;refine Aa Ba fun C hC => ?_;refine Aj ?_;exact Am
 refine ⟨zN,8,.inl rfl,?_⟩;refine Aa Ba fun C hC => ?_;refine Aj ?_;exact Am
end Go.Proofs.YtjcolpcfcdkckaaGreat
