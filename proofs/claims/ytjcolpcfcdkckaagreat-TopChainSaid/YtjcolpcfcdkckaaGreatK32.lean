/- Ratios of the program: powers. -/
import Derived.Test.YtjcolpcfcdkckaaGreatK31
set_option maxRecDepth 10000
set_option maxHeartbeats 2000000
namespace Go.Proofs.YtjcolpcfcdkckaaGreat
set_option linter.unusedVariables false
open Go.RowKit
theorem LE:∀ (k n:Nat) (out f:Int),(FN k n out f).2=0∨FN k n out f=(0,7)
 | 0,_,_,_=>.inl rfl
 | k+1,n,out,f=>by
   rw [FN];by_cases h1:n=0
   ·rw [if_pos h1]; exact .inl rfl
   ·rw [if_neg h1]
    by_cases h2:32<(limbs f.natAbs).length
    ·rw [if_pos h2]; exact .inr rfl
    ·rw [if_neg h2]
     dsimp only;generalize (if n % 2=1 then out * f else out)=o';by_cases h3:32<(limbs o'.natAbs).length
     ·rw [if_pos h3]; exact .inr rfl
     ·rw [if_neg h3]; exact LE k _ _ _
theorem LF:Cx 0=0:=by rw [Cx,show (0:Int).natAbs=0 from rfl,AC]; rfl
theorem P8:∀ (k n:Nat) (out f:Int),Cx out≤32→Cx (FN k n out f).1≤32
 | 0,_,_,_,h=>h
 | k+1,n,out,f,h=>by
   rw [FN];by_cases h1:n=0
   ·rw [if_pos h1]; exact h
   ·rw [if_neg h1]
    by_cases h2:32<(limbs f.natAbs).length
    ·rw [if_pos h2]; dsimp only; rw [LF]; omega
    ·rw [if_neg h2]
     dsimp only;generalize (if n % 2=1 then out * f else out)=o';by_cases h3:32<(limbs o'.natAbs).length
     ·rw [if_pos h3]; dsimp only; rw [LF]; omega
     ·rw [if_neg h3]; exact P8 k _ _ _ (Nat.le_of_not_lt h3)
theorem L8:Cx 1≤32:=by rw [Cx,Bf (by decide)]; simp [AC]
theorem AiI (z:Int) (q n:Nat) (hn:n<9223372036854775808) (lz:Cx z≤32) (lq:(limbs q).length≤32) :
 ∃ r e,DH r∧Ae Tryz.prog 211 [.agg (AY (qN z q)),nA n] (.tup [.agg (AY r),nA e]):=by
 have zn:AY zN=[.lit (.bool false),.sl 1 [],.sl 1 []]:=rfl;have o1:=Fk z q;have o2:=Gr z q;rw [← Oj] at o2;have c1:=ZJ z n hn (Nat.le_trans lz (by omega));have s1:=P8 n n 1 z L8;rcases LE n n 1 z with e1|e1
 ·rw [e1] at c1
  have c2:=ZJ q n hn (Nat.le_trans (show (limbs (q:Int).natAbs).length≤32 from lq) (by omega));have s2:=P8 n n 1 q L8;rcases LE n n 1 q with e2|e2
  ·rw [e2] at c2
   generalize (FN n n 1 z).1=P at *;generalize (FN n n 1 q).1=Q at *;have c3:=PX P Q (by omega) (by omega);refine ⟨_,(Qr P Q).2,P7 P Q,?_⟩;refine Aa B6 fun C hC => ?_;refine Aj ?_;exact Am
  ·rw [e2] at c2
   generalize (FN n n 1 z).1=P at *;refine ⟨zN,7,.inl rfl,?_⟩;refine Aa B6 fun C hC => ?_;refine Aj ?_;exact Am
 ·rw [e1] at c1
  refine ⟨zN,7,.inl rfl,?_⟩;refine Aa B6 fun C hC => ?_;refine Aj ?_;exact Am
theorem AiJ (z:Int) (q n:Nat) (h0:0<n) (hn:n<9223372036854775808) (lz:Cx z≤32) (lq:(limbs q).length≤32) :
 ∃ r e,DH r∧Ae Tryz.prog 211 [.agg (AY (qN z q)),nA (-(n:Int))] (.tup [.agg (AY r),nA e]):=by
 have zn:AY zN=[.lit (.bool false),.sl 1 [],.sl 1 []]:=rfl;have o1:=Fk z q;have o2:=Gr z q;have c0:=ZI z;by_cases hz:z=0
 ·rw [Int.sign_eq_zero_iff_zero.2 hz] at c0
  refine ⟨zN,3,.inl rfl,?_⟩;refine Aa B6 fun C hC => ?_;refine Aj ?_;exact Am
 have hs:∃ s:Int,s≠0∧Ae Tryz.prog 218 [.agg (zV z)] (.lit (.int .i64 s)):=⟨z.sign,fun hc=>hz (Int.sign_eq_zero_iff_zero.1 hc),c0⟩;clear c0;obtain ⟨s,s0,c0⟩:=hs;rw [← Oj] at o2;have c1:=ZJ q n hn (Nat.le_trans (show (limbs (q:Int).natAbs).length≤32 from lq) (by omega));have hnn : - -(n:Int)=n:=by omega
 rw [← hnn] at c1;have s1:=P8 n n 1 q L8;rcases LE n n 1 q with e1|e1
 ·rw [e1] at c1
  have c2:=ZJ z n hn (Nat.le_trans lz (by omega));rw [← hnn] at c2;clear hnn;have s2:=P8 n n 1 z L8;rcases LE n n 1 z with e2|e2
  ·rw [e2] at c2
   generalize (FN n n 1 z).1=P at *;generalize (FN n n 1 q).1=Q at *;have c3:=PX Q P (by omega) (by omega);refine ⟨_,(Qr Q P).2,P7 Q P,?_⟩;refine Aa B6 fun C hC => ?_;refine Aj ?_;exact Am
  ·rw [e2] at c2
   generalize (FN n n 1 q).1=P at *;refine ⟨zN,7,.inl rfl,?_⟩;refine Aa B6 fun C hC => ?_;refine Aj ?_;exact Am
 ·rw [e1] at c1
  clear hnn;refine ⟨zN,7,.inl rfl,?_⟩;refine Aa B6 fun C hC => ?_;refine Aj ?_;exact Am
theorem AiK (z:Int) (q:Nat) :
 Ae Tryz.prog 211 [.agg (AY (qN z q)),nA (-9223372036854775808)] (.tup [.agg (AY zN),nA 3]):=by
 have zn:AY zN=[.lit (.bool false),.sl 1 [],.sl 1 []]:=rfl;have o1:=Fk z q;have o2:=Gr z q;have c0:=ZI z;by_cases hz:z=0
 ·rw [Int.sign_eq_zero_iff_zero.2 hz] at c0
  refine Aa B6 fun C hC => ?_;refine Aj ?_;exact Am
 have hs:∃ s:Int,s≠0∧Ae Tryz.prog 218 [.agg (zV z)] (.lit (.int .i64 s)):=⟨z.sign,fun hc=>hz (Int.sign_eq_zero_iff_zero.1 hc),c0⟩;clear c0;obtain ⟨s,s0,c0⟩:=hs;refine Aa B6 fun C hC => ?_;refine Aj ?_;exact Am
theorem Amp (z:Int) (q:Nat) (n:Int) (h1 : -9223372036854775808≤n) (h2:n≤9223372036854775807) (lz:Cx z≤32) (lq:(limbs q).length≤32) :
 ∃ r e,DH r∧Ae Tryz.prog 211 [.agg (AY (qN z q)),nA n] (.tup [.agg (AY r),nA e]):=by
 by_cases h:0≤n
 ·obtain ⟨m,rfl⟩:=Int.eq_ofNat_of_zero_le h
  exact AiI z q m (by omega) lz lq
 ·by_cases h3:n = -9223372036854775808
  ·subst h3; exact ⟨zN,3,.inl rfl,AiK z q⟩
  obtain ⟨m,hm⟩:=Int.eq_ofNat_of_zero_le (show 0 ≤ -n by omega);obtain rfl:n = -(m:Int):=by omega
  exact AiJ z q m (by omega) (by omega) lz lq
end Go.Proofs.YtjcolpcfcdkckaaGreat
