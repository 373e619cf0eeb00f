/- Natural numbers of the program: division, and the greatest number that divides both. -/
import Derived.Test.YtjcolpcfcdkckaaGreatK21
import Derived.Test.YtjcolpcfcdkckaaGreatK22
import Derived.Test.YtjcolpcfcdkckaaGreatK23
set_option maxRecDepth 10000
set_option maxHeartbeats 4000000
namespace Go.Proofs.YtjcolpcfcdkckaaGreat
set_option linter.unusedVariables false
open Go.RowKit
theorem JT {X:Nat} (h:(limbs X).length≤2):X<18446744073709551616:=by
 have h1:=I9 X;have h2:=YX h;have h3:BB 2=18446744073709551616:=by rw [BX,BX,JN]; rfl
 omega
theorem AbK {X Y:Nat} (h:Y≤X):(limbs Y).length≤(limbs X).length:=Bj h
theorem Zw (xs ys:List Int) (hx:AD xs) (hy:AD ys) (lx:xs.length≤90000) (h:AF ys≠0) :
 Ae Tryz.prog 237 [.sl 1 (Ab .u32 xs),.sl 1 (Ab .u32 ys)] (.tup [.sl 1 (Ab .u32 (limbs (AF xs / AF ys))),.sl 1 (Ab .u32 (limbs (AF xs % AF ys))),.lit (.bool true)]):=by
 have c1:=EF hx;have c2:=EF hy;have lt:=BT xs;rw [A0 hx] at lt;generalize AF xs=X at *;generalize AF ys=Y at *;have lX:=Ac .u32 (limbs X);have lY:=Ac .u32 (limbs Y);have c3:=U8 (limbs X) (limbs Y) (Ar X) (Ar Y);rw [Aq,Aq] at c3;obtain ⟨n,hn⟩:∃ n,(limbs Y).length=n:=⟨_,rfl⟩;have n0:n≠0:=fun hc=>h (Cj.1 (List.eq_nil_of_length_eq_zero (hn.trans hc)));rw [hn] at lY;by_cases hlt:X<Y
 ·rw [DK,if_pos hlt] at c3
  have c4:=Y8 (Ar X) (show (limbs X).length≤1000000000 by omega);rw [Aq] at c4;rw [Nat.div_eq_of_lt hlt,Nat.mod_eq_of_lt hlt,AC];refine Aa Gl fun C hC => ?_;refine Aj ?_;exact Am
 have c3':∃ z:Int,0≤z∧Ae Tryz.prog 219 [.sl 1 (Ab .u32 (limbs X)),.sl 1 (Ab .u32 (limbs Y))] (.lit (.int .i64 z)):=⟨DK X Y,by unfold DK; split<;>(try split)<;>omega,c3⟩;obtain ⟨z,z0,c3⟩:=c3';by_cases h1:n=1
 ·subst h1
  obtain ⟨y,hy1⟩:=List.length_eq_one_iff.1 hn
  have vy:y=(Y:Int):=by
   have:=B1 Y
   rw [hy1] at this;simpa [vI] using this
  have oy:=Ar Y y (by rw [hy1]; simp);subst vy;have hyk:(Ab .u32 (limbs Y))[(0:Int).toNat]? = some [B0 (Y:Int)]:=by rw [hy1]; rfl
  have cn:=Aie (limbs X) (Ar X) (by omega);rw [Aq] at cn;have cs:=AfY (limbs X) (Y:Int) (Ar X) (by omega) oy (by omega);rw [B1] at cs
  have hv:=Fg (limbs X).length ((X:Int) / (Y:Int)) (Int.ediv_nonneg (by omega) (by omega)) (by
   have:=I9 X
   have:=Int.ediv_le_self (a:=(X:Int)) (Y:Int) (by omega)
   omega)
  have ct:=Lh (DA (limbs X).length ((X:Int) / (Y:Int)));rw [F6 (V:=X / Y) (GS _ _) (by rw [hv]; rfl)] at ct
  have hm:(X:Int) % (Y:Int)<4294967296:=by
   have:=Int.emod_lt_of_pos (X:Int) (b:=(Y:Int)) (by omega)
   have:=oy.2
   omega
  refine Aa Gl fun C hC => ?_;refine Aj ?_;refine Cw [] cn ?_;refine A5 ?_;refine Ak ⟨rfl,?_⟩;refine Aj ?_;refine Bn [(0,0)] cs ?_;refine A5 ?_;refine Ak ⟨rfl,?_⟩;have cr:=QW [(X:Int) % (Y:Int)] (by show 1≤1000000000; omega);rw [F6 (V:=X % Y) (fun z hz=>by simp only [List.mem_cons,List.not_mem_nil,or_false] at hz; subst hz; omega) (by simp only [vI]; omega)] at cr;refine Aj ?_;exact Am
 ·have cl:=Amb X Y n (limbs X).length hn rfl (by omega) (by rw [← hn]; exact AbK (by omega)) (by omega)
  refine Aa Gl fun C hC => ?_;refine Aj ?_;exact Am
theorem Aio (xs ys:List Int) (hx:AD xs) (hy:AD ys) (lx:xs.length≤90000) (ly:ys.length≤90000) :
 Ae Tryz.prog 234 [.sl 1 (Ab .u32 xs),.sl 1 (Ab .u32 ys)] (.sl 1 (Ab .u32 (limbs (Nat.gcd (AF xs) (AF ys))))):=by
 have c1:=EF hx;have c2:=EF hy;have lt:=BT xs;rw [A0 hx] at lt;have lt2:=BT ys;rw [A0 hy] at lt2;generalize AF xs=X0 at *;generalize AF ys=Y0 at *;refine Aa YC fun C hC => ?_;refine Aj ?_;refine Ai [4] [] (fun x:Nat × Nat=>[(0,.sl 1 (Ab .u32 (limbs x.1))),(1,.sl 1 (Ab .u32 (limbs x.2)))]) (fun _=>[]) 0 (fun x=>(limbs x.1).length≤90000∧(limbs x.2).length≤90000∧Nat.gcd x.1 x.2=Nat.gcd X0 Y0) (fun x=>x.2) (X0,Y0) ⟨Nat.le_trans lt lx,Nat.le_trans lt2 ly,rfl⟩ ?_;rintro ⟨X,Y⟩ ⟨bx,bY,hg⟩;dsimp only [List.cons_append,List.nil_append] at bx bY hg ⊢;rw [← hg];have lX:=Ac .u32 (limbs X);have lY:=Ac .u32 (limbs Y);by_cases h:Y=0
 ·subst h
  rw [AC] at lY ⊢;rw [Nat.gcd_zero_right];have c4:=Y8 (Ar X) (show (limbs X).length≤1000000000 by omega);rw [Aq] at c4;have lY0:((Ab .u32 []).length:Int)=0:=rfl;refine Aj ?_;exact Am
 ·have hpos:0<(limbs Y).length:=Nat.pos_of_ne_zero fun hc=>h (Cj.1 (List.eq_nil_of_length_eq_zero hc))
  have hgt:decide (((limbs Y).length:Int) > 0)=true:=decide_eq_true (by omega);have hm:=Nat.mod_lt X (Nat.pos_of_ne_zero h);by_cases h2:(limbs X).length≤2∧(limbs Y).length≤2
  ·obtain ⟨h2,h3⟩:=h2
   have w1:=Aig X (JT h2);have w2:=Aig Y (JT h3);have sm:=Aky X Y (JT h2) (JT h3);refine Aj ?_;exact Am
  ·have cd:=Zw (limbs X) (limbs Y) (Ar X) (Ar Y) bx (by rw [Aq]; exact h)
   rw [Aq,Aq] at cd;have next:∀ C':Prop,((limbs (Y,X % Y).1).length≤90000∧(limbs (Y,X % Y).2).length≤90000∧Nat.gcd (Y,X % Y).1 (Y,X % Y).2=Nat.gcd X Y→C')→C':=fun _ f=>f ⟨bY,Nat.le_trans (Bj (Nat.le_of_lt hm)) bY,by dsimp only; exact (Nat.gcd_comm _ _).trans ((Nat.gcd_rec Y X).symm.trans (Nat.gcd_comm _ _))⟩;by_cases h3:(limbs X).length≤2
   ·have h4:¬ (limbs Y).length≤2:=fun hc=>h2 ⟨h3,hc⟩
    refine Aj ?_;exact ⟨(Y,X % Y),by dsimp only; exact hm,next _ fun h=>h,BI hC.m []⟩
   ·refine Aj ?_
    exact ⟨(Y,X % Y),by dsimp only; exact hm,next _ fun h=>h,BI hC.m []⟩
def sg (g:Bool) (X:Nat):Int:=if g then -(X:Int) else X
def zV (z:Int):List AV:=Cs (decide (z<0)) (limbs z.natAbs)
theorem Oh (g:Bool) (X:Nat):(sg g X).natAbs=X:=by cases g<;>simp [sg]
theorem DS (z:Int):sg (decide (z<0)) z.natAbs=z:=by
 unfold sg;by_cases h:z<0
 ·rw [decide_eq_true h,if_pos rfl]; omega
 ·rw [decide_eq_false h,if_neg (by simp)]; omega
theorem Rv (g:Bool) (X:Nat):decide (sg g X<0)=sgn g (limbs X):=by
 rw [GW];unfold sg Cu;by_cases h:X=0
 ·subst h; cases g<;>rfl
 ·rw [if_neg h]
  cases g
  ·exact decide_eq_false (by simp only [Bool.false_eq_true,if_false]; omega)
  ·exact decide_eq_true (by simp only [if_true]; omega)
theorem Ane (g:Bool) (X:Nat):zV (sg g X)=Cs (sgn g (limbs X)) (limbs X):=by rw [zV,Rv,Oh]
theorem G0 (g:Bool) (X:Nat):Ae Tryz.prog 215 [.lit (.bool g),.sl 1 (Ab .u32 (limbs X))] (.agg (zV (sg g X))):=by
 rw [Ane]; exact Pr g (limbs X)
theorem Adm (g h:Bool) (X Y:Nat) (lx:(limbs X).length≤100000) (ly:(limbs Y).length≤100000) :
 Ae Tryz.prog 232 [.agg (Cs g (limbs X)),.agg (Cs h (limbs Y))] (.agg (zV (sg g X+sg h Y))):=by
 by_cases e:g=h
 ·subst e
  have c1:=Al6 _ _ (Ar X) (Ar Y) lx ly;rw [Aq,Aq] at c1;have c2:=G0 g (X+Y);rw [show sg g X+sg g Y=sg g (X+Y) from by cases g<;>simp [sg]<;>omega];refine Aa Hy fun C hC => ?_;cases g <;>
  ·refine Aj ?_
   exact Am
 ·have c1:=Aif _ _ (Ar X) (Ar Y) lx ly
  rw [Aq,Aq] at c1;by_cases hYX:Y≤X
  ·rw [decide_eq_true hYX] at c1
   have c2:=G0 g (X - Y);rw [show sg g X+sg h Y=sg g (X - Y) from by cases g<;>cases h<;>simp [sg] at e ⊢<;>omega];refine Aa Hy fun C hC => ?_;cases g<;>cases h<;>first|exact absurd rfl e|(refine Aj ?_; exact Am)
  ·rw [decide_eq_false hYX] at c1
   have c3:=Aif _ _ (Ar Y) (Ar X) ly lx;rw [Aq,Aq,decide_eq_true (by omega)] at c3;have c2:=G0 h (Y - X);rw [show sg g X+sg h Y=sg h (Y - X) from by cases g<;>cases h<;>simp [sg] at e ⊢<;>omega];refine Aa Hy fun C hC => ?_;cases g<;>cases h<;>first|exact absurd rfl e|(refine Aj ?_; exact Am)
theorem Amc (g h:Bool) (X Y:Nat) (lx:(limbs X).length≤100000) (ly:(limbs Y).length≤100000) :
 Ae Tryz.prog 182 [.agg (Cs g (limbs X)),.agg (Cs h (limbs Y))] (.agg (zV (sg g X * sg h Y))):=by
 have c1:=Al7 _ _ (Ar X) (Ar Y) lx ly;rw [Aq,Aq] at c1;have c2:=G0 (g != h) (X * Y);rw [show sg g X * sg h Y=sg (g != h) (X * Y) from by cases g<;>cases h<;>simp [sg,Int.mul_neg,Int.neg_mul]];refine Aa Vd fun C hC => ?_;cases g<;>cases h<;>(refine Aj ?_; exact Am)
theorem Amd (g h:Bool) (X Y:Nat) (lx:(limbs X).length≤100000) (ly:(limbs Y).length≤100000) :
 Ae Tryz.prog 238 [.agg (Cs g (limbs X)),.agg (Cs h (limbs Y))] (.agg (zV (sg g X - sg h Y))):=by
 have c1:=Adm g (!h) X Y lx ly;rw [show sg g X+sg (!h) Y=sg g X - sg h Y from by cases g<;>cases h<;>simp [sg]<;>omega] at c1;refine Aa Vc fun C hC => ?_;cases g<;>cases h<;>(refine Aj ?_; exact Am)
theorem Zx (g:Bool) (X:Nat):Ae Tryz.prog 218 [.agg (Cs g (limbs X))] (.lit (.int .i64 (sg g X).sign)):=by
 have c1:=U8 (limbs X) [] (Ar X) AD.nil;rw [Aq,show AF []=0 from rfl] at c1;refine Aa SO fun C hC => ?_;by_cases h:X=0
 ·subst h
  rw [show (sg g 0).sign=0 from by cases g<;>rfl];rw [show DK 0 0=0 from rfl] at c1;refine Aj ?_;exact Am
 ·rw [show DK X 0=1 from by simp [DK]; omega] at c1
  cases g
  ·rw [show (sg false X).sign=1 from Int.sign_eq_one_of_pos (by simp [sg]; omega)]
   refine Aj ?_;exact Am
  ·rw [show (sg true X).sign = -1 from Int.sign_eq_neg_one_of_neg (by simp [sg]; omega)]
   refine Aj ?_;exact Am
def PV (x y:Int):Int:=if x<y then -1 else if y<x then 1 else 0
theorem Ame (g h:Bool) (X Y:Nat):Ae Tryz.prog 181 [.agg (Cs g (limbs X)),.agg (Cs h (limbs Y))] (.lit (.int .i64 (PV (sg g X) (sg h Y)))):=by
 have c1:=Zx g X;have c2:=Zx h Y;have c3:=U8 (limbs X) (limbs Y) (Ar X) (Ar Y);have c4:=U8 (limbs Y) (limbs X) (Ar Y) (Ar X);rw [Aq,Aq] at c3 c4;have k1:∀ x y:Int,x<y→PV x y = -1:=fun x y h=>if_pos h;have k2:∀ x y:Int,y<x→PV x y=1:=fun x y h=>(if_neg (by omega)).trans (if_pos h);have k3:g=false→h=false→PV (sg g X) (sg h Y)=DK X Y:=fun e1 e2=>by subst e1 e2; simp only [PV,DK,sg]; simp
 have k4:g=true→h=true→PV (sg g X) (sg h Y)=DK Y X:=fun e1 e2=>by subst e1 e2; simp only [PV,DK,sg]; simp
 have k5:sg g X=0→sg h Y=0→PV (sg g X) (sg h Y)=DK X Y:=fun e1 e2=>by
  have:X=0:=by have:=Oh g X; omega
  have:Y=0:=by have:=Oh h Y; omega
  subst X Y; rw [e1,e2]; rfl
 have f1:sg g X<0→g=true:=fun a=>by cases g<;>simp [sg] at a ⊢; omega
 have f2:sg h Y<0→h=true:=fun a=>by cases h<;>simp [sg] at a ⊢; omega
 have f3:0<sg g X→g=false:=fun a=>by cases g<;>simp [sg] at a ⊢; omega
 have f4:0<sg h Y→h=false:=fun a=>by cases h<;>simp [sg] at a ⊢; omega
 generalize sg g X=x at *;generalize sg h Y=y at *;refine Aa Vb fun C hC => ?_;rcases Int.lt_trichotomy x 0 with a|a|a<;>rcases Int.lt_trichotomy y 0 with b|b|b
 ·rw [Int.sign_eq_neg_one_of_neg a] at c1
  rw [Int.sign_eq_neg_one_of_neg b] at c2;rw [k4 (f1 a) (f2 b)];refine Aj ?_;exact Am
 ·rw [Int.sign_eq_neg_one_of_neg a] at c1
  rw [Int.sign_eq_zero_iff_zero.2 b] at c2;rw [k1 x y (by omega)];refine Aj ?_;exact Am
 ·rw [Int.sign_eq_neg_one_of_neg a] at c1
  rw [Int.sign_eq_one_of_pos b] at c2;rw [k1 x y (by omega)];refine Aj ?_;exact Am
 ·rw [Int.sign_eq_zero_iff_zero.2 a] at c1
  rw [Int.sign_eq_neg_one_of_neg b] at c2;rw [k2 x y (by omega)];refine Aj ?_;exact Am
 ·rw [Int.sign_eq_zero_iff_zero.2 a] at c1
  rw [Int.sign_eq_zero_iff_zero.2 b] at c2;rw [k5 a b];refine Aj ?_;exact Am
 ·rw [Int.sign_eq_zero_iff_zero.2 a] at c1
  rw [Int.sign_eq_one_of_pos b] at c2;rw [k1 x y (by omega)];refine Aj ?_;exact Am
 ·rw [Int.sign_eq_one_of_pos a] at c1
  rw [Int.sign_eq_neg_one_of_neg b] at c2;rw [k2 x y (by omega)];refine Aj ?_;exact Am
 ·rw [Int.sign_eq_one_of_pos a] at c1
  rw [Int.sign_eq_zero_iff_zero.2 b] at c2;rw [k2 x y (by omega)];refine Aj ?_;exact Am
 ·rw [Int.sign_eq_one_of_pos a] at c1
  rw [Int.sign_eq_one_of_pos b] at c2;rw [k3 (f3 a) (f4 b)];refine Aj ?_;exact Am
theorem Zy (g:Bool) {X Y:Nat} (hY:Y≠0) (h:g=false∨X % Y=0):sg g X / (Y:Int)=sg g (X / Y)∧sg g X % (Y:Int)=sg g (X % Y):=by
 have hdm:(Y:Int) * ((X / Y:Nat):Int)+((X % Y:Nat):Int)=X:=by rw [← Int.natCast_mul,← Int.natCast_add,Nat.div_add_mod]
 have hm:=Nat.mod_lt X (Nat.pos_of_ne_zero hY);refine (Int.ediv_emod_unique (by omega)).2 ?_;cases g
 ·simp only [sg,Bool.false_eq_true,if_false]
  generalize ((X / Y:Nat):Int)=q at *;omega
 ·rcases h with h|h
  ·cases h
  ·simp only [sg,if_true,h]
   rw [h] at hdm;rw [Int.mul_neg];generalize ((X / Y:Nat):Int)=q at *;omega
theorem AkG {X Y:Nat} (hY:Y≠0) (h:X % Y≠0):sg true X / (Y:Int)=sg true (X / Y) - 1∧sg true X % (Y:Int)=sg true (X % Y)+sg false Y:=by
 have hdm:(Y:Int) * ((X / Y:Nat):Int)+((X % Y:Nat):Int)=X:=by rw [← Int.natCast_mul,← Int.natCast_add,Nat.div_add_mod]
 have hm:=Nat.mod_lt X (Nat.pos_of_ne_zero hY);refine (Int.ediv_emod_unique (by omega)).2 ?_;simp only [sg,if_true,Bool.false_eq_true,if_false];rw [Int.mul_sub,Int.mul_neg,Int.mul_one];generalize ((X / Y:Nat):Int)=q at *;omega
theorem Amf (g:Bool) (X Y:Nat) (lx:(limbs X).length≤90000) (ly:(limbs Y).length≤90000) (hY:Y≠0) :
 Ae Tryz.prog 223 [.agg (Cs g (limbs X)),.agg (Cs false (limbs Y))] (.tup [.agg (zV (sg g X / Y)),.agg (zV (sg g X % Y)),.lit (.bool true)]):=by
 have c1:=Zw (limbs X) (limbs Y) (Ar X) (Ar Y) lx (by rw [Aq]; exact hY);rw [Aq,Aq] at c1;have c2:=G0 g (X / Y);have c3:=G0 g (X % Y);have lm:=Ac .u32 (limbs (X % Y));have hm:=Nat.mod_lt X (Nat.pos_of_ne_zero hY);have lm2:=Nat.le_trans (Bj (Nat.le_of_lt hm)) ly;have ld2:=Nat.le_trans (Bj (Nat.div_le_self X Y)) lx;have eY:(Y:Int)≠0:=by omega
 have hdm:=Nat.div_add_mod X Y;refine Aa PO fun C hC => ?_;by_cases hz:X % Y=0
 ·have el:(limbs (X % Y)).length=0:=by rw [hz,AC]; rfl
  rw [el] at lm;obtain ⟨e1,e2⟩:=Zy g hY (.inr hz);rw [e1,e2];cases g
  ·refine Aj ?_
   exact Am
  ·refine Aj ?_
   exact Am
 ·have el:0<(limbs (X % Y)).length:=Nat.pos_of_ne_zero fun hc=>hz (Cj.1 (List.eq_nil_of_length_eq_zero hc))
  cases g
  ·rw [(Zy false hY (.inl rfl)).1,(Zy false hY (.inl rfl)).2]
   refine Aj ?_;exact Am
  ·have c4:=Ro 1 (by omega) (by omega)
   have c5:=Amd (decide (sg true (X / Y)<0)) (decide ((1:Int)<0)) (sg true (X / Y)).natAbs (1:Int).natAbs (by rw [Oh]; omega) (by rw [Bf (by decide)]; simp [AC]);have c6:=Adm (decide (sg true (X % Y)<0)) false (sg true (X % Y)).natAbs Y (by rw [Oh]; omega) (by omega);rw [DS,DS] at c5;rw [DS] at c6;obtain ⟨e1,e2⟩:=AkG hY hz;rw [e1,e2];refine Aj ?_;exact Am
def FN:Nat→Nat→Int→Int→Int × Int
 | 0,_,out,_=>(out,0)
 | fuel+1,n,out,f =>
   if n=0 then (out,0) else if 32<(limbs f.natAbs).length then (0,7) else
    let out':=if n % 2=1 then out * f else out
    if 32<(limbs out'.natAbs).length then (0,7) else FN fuel (n / 2) out' (if 0<n / 2 then f * f else f)
theorem Xx:∀ (k m n:Nat) (out f:Int),n≤k→n≤m→FN k n out f=FN m n out f
 | 0,0,n,out,f,_,_=>rfl
 | 0,m+1,n,out,f,h,_=>by obtain rfl:n=0:=(by omega); simp [FN]
 | k+1,0,n,out,f,_,h=>by obtain rfl:n=0:=(by omega); simp [FN]
 | k+1,m+1,n,out,f,h1,h2=>by
   simp only [FN];by_cases h:n=0
   ·rw [if_pos h,if_pos h]
   ·rw [if_neg h,if_neg h,Xx k m (n / 2) _ _ (by omega) (by omega)]
end Go.Proofs.YtjcolpcfcdkckaaGreat
