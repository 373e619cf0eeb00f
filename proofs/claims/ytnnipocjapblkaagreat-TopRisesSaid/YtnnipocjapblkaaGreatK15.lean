/- Ratios of the program, by their values. -/
import Derived.Test.YtnnipocjapblkaaGreatK14
set_option maxRecDepth 10000
set_option maxHeartbeats 8000000
namespace Go.Proofs.YtnnipocjapblkaaGreat
set_option linter.unusedVariables false
open Go.RowKit
theorem limbs_mul_len (X Y:Nat):(limbs (X * Y)).length≤(limbs X).length+(limbs Y).length:=by
 refine limbs_len_lt ?_
 have h1:=limbs_lt X
 have h2:=limbs_lt Y
 rw [BB_add,Int.natCast_mul]
 by_cases h:Y=0
 ·subst h
  rw [show ((0:Nat):Int)=0 from rfl,Int.mul_zero]
  exact Int.mul_pos (BB_pos _) (BB_pos _)
 ·exact Int.lt_of_lt_of_le (Int.mul_lt_mul_of_pos_right h1 (by omega)) (Int.mul_le_mul_of_nonneg_left (Int.le_of_lt h2) (Int.le_of_lt (BB_pos _)))
theorem limbs_add_len (X Y:Nat):(limbs (X+Y)).length≤(limbs X).length+(limbs Y).length+1:=by
 refine limbs_len_lt ?_
 have h1:=limbs_lt X
 have h2:=limbs_lt Y
 have h3:=BB_mono (show (limbs X).length≤(limbs X).length+(limbs Y).length by omega)
 have h4:=BB_mono (show (limbs Y).length≤(limbs X).length+(limbs Y).length by omega)
 rw [BB_succ]
 omega
def szZ (z:Int):Nat:=(limbs z.natAbs).length
theorem szZ_mul (x y:Int):szZ (x * y)≤szZ x+szZ y:=by unfold szZ; rw [Int.natAbs_mul]; exact limbs_mul_len _ _
theorem szZ_add (x y:Int):szZ (x+y)≤szZ x+szZ y+1:=Nat.le_trans (limbs_len_mono (Int.natAbs_add_le x y)) (limbs_add_len _ _)
theorem szZ_nat (n:Nat):szZ n=(limbs n).length:=rfl
theorem szZ_neg (x:Int):szZ (-x)=szZ x:=by unfold szZ; rw [Int.natAbs_neg]
def zN:Num:=⟨false,[],[]⟩
def qN (z:Int) (q:Nat):Num:=⟨decide (z<0),limbs z.natAbs,limbs q⟩
def mkR (g h:Bool) (X Y:Nat):Num × Int :=
 if Y=0 then (zN,3) else
  if 32<(limbs (X / Nat.gcd X Y)).length∨32<(limbs (Y / Nat.gcd X Y)).length then (zN,7) else
   (qN (sg (g != h) (X / Nat.gcd X Y)) (Y / Nat.gcd X Y),0)
def mkQ (p q:Int):Num × Int:=mkR (decide (p<0)) (decide (q<0)) p.natAbs q.natAbs
theorem isOneB_limbs (n:Nat):isOneB (limbs n)=decide (n=1):=by
 by_cases h0:n=0
 ·subst h0; rw [limbs_zero]; rfl
 ·rw [limbs_pos h0]
  by_cases h1:n / 4294967296=0
  ·rw [h1,limbs_zero]
   by_cases h:n=1
   ·subst h; rfl
   ·rw [decide_eq_false h]
    simp [isOneB]
    omega
  ·rw [limbs_pos h1,decide_eq_false (by omega)]
   rfl
theorem rone_a (n:Nat):ACalls Tryz.prog 175 [.sl 1 (intsA .u32 (limbs n))] (.lit (.bool (decide (n=1)))):=by
 have:=ratOne_a (limbs n) (limbs_ok n)
 rwa [isOneB_limbs] at this
theorem nnorm_l (n:Nat) (h:(limbs n).length≤100000):ACalls Tryz.prog 223 [.sl 1 (intsA .u32 (limbs n))] (.sl 1 (intsA .u32 (limbs n))):=by
 have:=norm_of (limbs_ok n) (show (limbs n).length≤1000000000 by omega)
 rwa [valL_limbs] at this
theorem rtop_a (z:Int) (q:Nat):ACalls Tryz.prog 177 [.agg (numV (qN z q))] (.agg (zV z)):=ratTop_a (qN z q)
theorem rbot_a (z:Int) (q:Nat):ACalls Tryz.prog 195 [.agg (numV (qN z q))] (.agg (intV false (limbs q))):=by
 refine acalls_of code_ratio_bot (by simp [fn_ratio_bot]) fun C hC => ?_
 refine wk5 ?_
 exact fin
theorem zV_nat (q:Nat):zV q=intV false (limbs q):=by rw [zV,decide_eq_false (by omega)]; rfl
theorem qN1 (g:Bool) {X Q:Nat} (h:X≠0):qN (sg g X) Q=⟨g,limbs X,limbs Q⟩:=by
 rw [qN,sg_abs,sg_neg,sgn_limbs,sgnV,if_neg h]
theorem qN0 {X Q:Nat} (h:X=0):qN 0 Q=⟨false,limbs X,limbs Q⟩:=by subst h; rfl
theorem rmakeR_a (g h:Bool) (X Y:Nat) (lp:(limbs X).length≤90000) (lq:(limbs Y).length≤90000) :
 ACalls Tryz.prog 229 [.agg (intV g (limbs X)),.agg (intV h (limbs Y))] (.tup [.agg (numV (mkR g h X Y).1),nA (mkR g h X Y).2]):=by
 have c1:=nnorm_l X (Nat.le_trans lp (by omega))
 have c2:=nnorm_l Y (Nat.le_trans lq (by omega))
 have l1:=intsA_len .u32 (limbs X)
 have l2:=intsA_len .u32 (limbs Y)
 refine acalls_of code_ratio_Make (by simp [fn_ratio_Make]) fun C hC => ?_
 by_cases q0:Y=0
 ·subst q0
  rw [show mkR g h X 0=(zN,3) from rfl]
  rw [limbs_zero] at c2 l2
  rw [limbs_zero]
  refine wk5 ?_
  exact fin
 have hq:0<(limbs Y).length:=Nat.pos_of_ne_zero fun hc=>q0 (limbs_nil.1 (List.eq_nil_of_length_eq_zero hc))
 have c3:=rone_a Y
 rw [mkR,if_neg q0]
 by_cases a1:Y=1
 ·rw [decide_eq_true a1] at c3
  have eG:Nat.gcd X Y=1:=by rw [a1,Nat.gcd_one_right]
  rw [eG,Nat.div_one,Nat.div_one]
  by_cases b1:32<(limbs X).length
  ·rw [if_pos (Or.inl b1)]
   refine wk5 ?_
   exact fin
  by_cases b2:32<(limbs Y).length
  ·rw [if_pos (Or.inr b2)]
   refine wk5 ?_
   exact fin
  rw [if_neg (fun hc=>hc.elim b1 b2)]
  by_cases b3:X=0
  ·have lP0:(limbs X).length=0:=by rw [b3,limbs_zero]; rfl
   rw [show sg (g != h) X=0 from by rw [b3]; cases g<;>cases h<;>rfl,qN0 b3]
   refine wk5 ?_
   exact fin
  ·have hP:0<(limbs X).length:=Nat.pos_of_ne_zero fun hc=>b3 (limbs_nil.1 (List.eq_nil_of_length_eq_zero hc))
   rw [qN1 _ b3]
   cases g<;>cases h<;>(refine wk5 ?_; exact fin)
 rw [decide_eq_false a1] at c3
 have c4:=ngcd_a (limbs X) (limbs Y) (limbs_ok X) (limbs_ok Y) lp lq
 rw [valL_limbs,valL_limbs] at c4
 have hG:Nat.gcd X Y≠0:=fun hc=>q0 (Nat.gcd_eq_zero_iff.1 hc).2
 generalize Nat.gcd X Y=G at *
 have c5:=rone_a G
 by_cases a2:G=1
 ·rw [decide_eq_true a2] at c5
  rw [a2,Nat.div_one,Nat.div_one]
  by_cases b1:32<(limbs X).length
  ·rw [if_pos (Or.inl b1)]
   refine wk5 ?_
   exact fin
  by_cases b2:32<(limbs Y).length
  ·rw [if_pos (Or.inr b2)]
   refine wk5 ?_
   exact fin
  rw [if_neg (fun hc=>hc.elim b1 b2)]
  by_cases b3:X=0
  ·have lP0:(limbs X).length=0:=by rw [b3,limbs_zero]; rfl
   rw [show sg (g != h) X=0 from by rw [b3]; cases g<;>cases h<;>rfl,qN0 b3]
   refine wk5 ?_
   exact fin
  ·have hP:0<(limbs X).length:=Nat.pos_of_ne_zero fun hc=>b3 (limbs_nil.1 (List.eq_nil_of_length_eq_zero hc))
   rw [qN1 _ b3]
   cases g<;>cases h<;>(refine wk5 ?_; exact fin)
 rw [decide_eq_false a2] at c5
 have c6:=ndiv_a (limbs X) (limbs G) (limbs_ok X) (limbs_ok G) lp (by rw [valL_limbs]; exact hG)
 rw [valL_limbs,valL_limbs] at c6
 have c7:=ndiv_a (limbs Y) (limbs G) (limbs_ok Y) (limbs_ok G) lq (by rw [valL_limbs]; exact hG)
 rw [valL_limbs,valL_limbs] at c7
 generalize X / G=P at *
 generalize Y / G=Q at *
 have l3:=intsA_len .u32 (limbs P)
 have l4:=intsA_len .u32 (limbs Q)
 by_cases b1:32<(limbs P).length
 ·rw [if_pos (Or.inl b1)]
  refine wk5 ?_
  exact fin
 by_cases b2:32<(limbs Q).length
 ·rw [if_pos (Or.inr b2)]
  refine wk5 ?_
  exact fin
 rw [if_neg (fun hc=>hc.elim b1 b2)]
 by_cases b3:P=0
 ·have lP0:(limbs P).length=0:=by rw [b3,limbs_zero]; rfl
  rw [show sg (g != h) P=0 from by rw [b3]; cases g<;>cases h<;>rfl,qN0 b3]
  refine wk5 ?_
  exact fin
 ·have hP:0<(limbs P).length:=Nat.pos_of_ne_zero fun hc=>b3 (limbs_nil.1 (List.eq_nil_of_length_eq_zero hc))
  rw [qN1 _ b3]
  cases g<;>cases h<;>(refine wk5 ?_; exact fin)
theorem rmake_a (p q:Int) (lp:szZ p≤90000) (lq:szZ q≤90000) :
 ACalls Tryz.prog 229 [.agg (zV p),.agg (zV q)] (.tup [.agg (numV (mkQ p q).1),nA (mkQ p q).2]):=rmakeR_a _ _ _ _ lp lq
end Go.Proofs.YtnnipocjapblkaaGreat
