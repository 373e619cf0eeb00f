/- Ratios of the program, by their values. -/
import Derived.Test.YtjcolpcfcdkckaaGreatK24
set_option maxRecDepth 10000
set_option maxHeartbeats 8000000
namespace Go.Proofs.YtjcolpcfcdkckaaGreat
set_option linter.unusedVariables false
open Go.RowKit
theorem WO (X Y:Nat):(limbs (X * Y)).length≤(limbs X).length+(limbs Y).length:=by
 refine Fe ?_;have h1:=I9 X;have h2:=I9 Y;rw [UP,Int.natCast_mul];by_cases h:Y=0
 ·subst h
  rw [show ((0:Nat):Int)=0 from rfl,Int.mul_zero];exact Int.mul_pos (EL _) (EL _)
 ·exact Int.lt_of_lt_of_le (Int.mul_lt_mul_of_pos_right h1 (by omega)) (Int.mul_le_mul_of_nonneg_left (Int.le_of_lt h2) (Int.le_of_lt (EL _)))
theorem WP (X Y:Nat):(limbs (X+Y)).length≤(limbs X).length+(limbs Y).length+1:=by
 refine Fe ?_;have h1:=I9 X;have h2:=I9 Y;have h3:=YX (show (limbs X).length≤(limbs X).length+(limbs Y).length by omega);have h4:=YX (show (limbs Y).length≤(limbs X).length+(limbs Y).length by omega);rw [BX];omega
def Cx (z:Int):Nat:=(limbs z.natAbs).length
theorem H9 (x y:Int):Cx (x * y)≤Cx x+Cx y:=by unfold Cx; rw [Int.natAbs_mul]; exact WO _ _
theorem AkH (x y:Int):Cx (x+y)≤Cx x+Cx y+1:=Nat.le_trans (Bj (Int.natAbs_add_le x y)) (WP _ _)
theorem PW (n:Nat):Cx n=(limbs n).length:=rfl
theorem AkI (x:Int):Cx (-x)=Cx x:=by unfold Cx; rw [Int.natAbs_neg]
def zN:Fx:=⟨false,[],[]⟩
def qN (z:Int) (q:Nat):Fx:=⟨decide (z<0),limbs z.natAbs,limbs q⟩
def mkR (g h:Bool) (X Y:Nat):Fx × Int :=
 if Y=0 then (zN,3) else
  if 32<(limbs (X / Nat.gcd X Y)).length∨32<(limbs (Y / Nat.gcd X Y)).length then (zN,7) else
   (qN (sg (g != h) (X / Nat.gcd X Y)) (Y / Nat.gcd X Y),0)
def Qr (p q:Int):Fx × Int:=mkR (decide (p<0)) (decide (q<0)) p.natAbs q.natAbs
theorem Zz (n:Nat):EM (limbs n)=decide (n=1):=by
 by_cases h0:n=0
 ·subst h0; rw [AC]; rfl
 ·rw [Bf h0]
  by_cases h1:n / 4294967296=0
  ·rw [h1,AC]
   by_cases h:n=1
   ·subst h; rfl
   ·rw [decide_eq_false h]
    simp [EM];omega
  ·rw [Bf h1,decide_eq_false (by omega)]
   rfl
theorem Oi (n:Nat):Ae Tryz.prog 161 [.sl 1 (Ab .u32 (limbs n))] (.lit (.bool (decide (n=1)))):=by
 have:=AbH (limbs n) (Ar n)
 rwa [Zz] at this
theorem Th (n:Nat) (h:(limbs n).length≤100000):Ae Tryz.prog 216 [.sl 1 (Ab .u32 (limbs n))] (.sl 1 (Ab .u32 (limbs n))):=by
 have:=Y8 (Ar n) (show (limbs n).length≤1000000000 by omega)
 rwa [Aq] at this
theorem Fk (z:Int) (q:Nat):Ae Tryz.prog 163 [.agg (AY (qN z q))] (.agg (zV z)):=AbI (qN z q)
theorem Gr (z:Int) (q:Nat):Ae Tryz.prog 183 [.agg (AY (qN z q))] (.agg (Cs false (limbs q))):=by
 refine Aa Vf fun C hC => ?_;refine Aj ?_;exact Am
theorem Oj (q:Nat):zV q=Cs false (limbs q):=by rw [zV,decide_eq_false (by omega)]; rfl
theorem qN1 (g:Bool) {X Q:Nat} (h:X≠0):qN (sg g X) Q=⟨g,limbs X,limbs Q⟩:=by
 rw [qN,Oh,Rv,GW,Cu,if_neg h]
theorem qN0 {X Q:Nat} (h:X=0):qN 0 Q=⟨false,limbs X,limbs Q⟩:=by subst h; rfl
theorem Aip (g h:Bool) (X Y:Nat) (lp:(limbs X).length≤90000) (lq:(limbs Y).length≤90000) :
 Ae Tryz.prog 222 [.agg (Cs g (limbs X)),.agg (Cs h (limbs Y))] (.tup [.agg (AY (mkR g h X Y).1),nA (mkR g h X Y).2]):=by
 have c1:=Th X (Nat.le_trans lp (by omega));have c2:=Th Y (Nat.le_trans lq (by omega));have l1:=Ac .u32 (limbs X);have l2:=Ac .u32 (limbs Y);refine Aa SQ fun C hC => ?_;by_cases q0:Y=0
 ·subst q0
  rw [show mkR g h X 0=(zN,3) from rfl];rw [AC] at c2 l2;rw [AC];refine Aj ?_;exact Am
 have hq:0<(limbs Y).length:=Nat.pos_of_ne_zero fun hc=>q0 (Cj.1 (List.eq_nil_of_length_eq_zero hc));have c3:=Oi Y;rw [mkR,if_neg q0];by_cases a1:Y=1
 ·rw [decide_eq_true a1] at c3
  have eG:Nat.gcd X Y=1:=by rw [a1,Nat.gcd_one_right]
  rw [eG,Nat.div_one,Nat.div_one];by_cases b1:32<(limbs X).length
  ·rw [if_pos (Or.inl b1)]
   refine Aj ?_;exact Am
  by_cases b2:32<(limbs Y).length
  ·rw [if_pos (Or.inr b2)]
   refine Aj ?_;exact Am
  rw [if_neg (fun hc=>hc.elim b1 b2)];by_cases b3:X=0
  ·have lP0:(limbs X).length=0:=by rw [b3,AC]; rfl
   rw [show sg (g != h) X=0 from by rw [b3]; cases g<;>cases h<;>rfl,qN0 b3];refine Aj ?_;exact Am
  ·have hP:0<(limbs X).length:=Nat.pos_of_ne_zero fun hc=>b3 (Cj.1 (List.eq_nil_of_length_eq_zero hc))
   rw [qN1 _ b3];cases g<;>cases h<;>(refine Aj ?_; exact Am)
 rw [decide_eq_false a1] at c3;have c4:=Aio (limbs X) (limbs Y) (Ar X) (Ar Y) lp lq;rw [Aq,Aq] at c4;have hG:Nat.gcd X Y≠0:=fun hc=>q0 (Nat.gcd_eq_zero_iff.1 hc).2;generalize Nat.gcd X Y=G at *;have c5:=Oi G;by_cases a2:G=1
 ·rw [decide_eq_true a2] at c5
  rw [a2,Nat.div_one,Nat.div_one];by_cases b1:32<(limbs X).length
  ·rw [if_pos (Or.inl b1)]
   refine Aj ?_;exact Am
  by_cases b2:32<(limbs Y).length
  ·rw [if_pos (Or.inr b2)]
   refine Aj ?_;exact Am
  rw [if_neg (fun hc=>hc.elim b1 b2)];by_cases b3:X=0
  ·have lP0:(limbs X).length=0:=by rw [b3,AC]; rfl
   rw [show sg (g != h) X=0 from by rw [b3]; cases g<;>cases h<;>rfl,qN0 b3];refine Aj ?_;exact Am
  ·have hP:0<(limbs X).length:=Nat.pos_of_ne_zero fun hc=>b3 (Cj.1 (List.eq_nil_of_length_eq_zero hc))
   rw [qN1 _ b3];cases g<;>cases h<;>(refine Aj ?_; exact Am)
 rw [decide_eq_false a2] at c5;have c6:=Zw (limbs X) (limbs G) (Ar X) (Ar G) lp (by rw [Aq]; exact hG);rw [Aq,Aq] at c6;have c7:=Zw (limbs Y) (limbs G) (Ar Y) (Ar G) lq (by rw [Aq]; exact hG);rw [Aq,Aq] at c7;generalize X / G=P at *;generalize Y / G=Q at *;have l3:=Ac .u32 (limbs P);have l4:=Ac .u32 (limbs Q);by_cases b1:32<(limbs P).length
 ·rw [if_pos (Or.inl b1)]
  refine Aj ?_;exact Am
 by_cases b2:32<(limbs Q).length
 ·rw [if_pos (Or.inr b2)]
  refine Aj ?_;exact Am
 rw [if_neg (fun hc=>hc.elim b1 b2)];by_cases b3:P=0
 ·have lP0:(limbs P).length=0:=by rw [b3,AC]; rfl
  rw [show sg (g != h) P=0 from by rw [b3]; cases g<;>cases h<;>rfl,qN0 b3];refine Aj ?_;exact Am
 ·have hP:0<(limbs P).length:=Nat.pos_of_ne_zero fun hc=>b3 (Cj.1 (List.eq_nil_of_length_eq_zero hc))
  rw [qN1 _ b3];cases g<;>cases h<;>(refine Aj ?_; exact Am)
theorem PX (p q:Int) (lp:Cx p≤90000) (lq:Cx q≤90000) :
 Ae Tryz.prog 222 [.agg (zV p),.agg (zV q)] (.tup [.agg (AY (Qr p q).1),nA (Qr p q).2]):=Aip _ _ _ _ lp lq
end Go.Proofs.YtjcolpcfcdkckaaGreat
