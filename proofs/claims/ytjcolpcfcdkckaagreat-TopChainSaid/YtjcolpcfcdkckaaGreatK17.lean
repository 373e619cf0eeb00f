/- Natural numbers of the program: taken off, multiplied, divided by one limb. -/
import Derived.Test.YtjcolpcfcdkckaaGreatK16
set_option maxRecDepth 10000
set_option maxHeartbeats 4000000
namespace Go.Proofs.YtjcolpcfcdkckaaGreat
set_option linter.unusedVariables false
open Go.RowKit
theorem Aie (xs:List Int) (hx:AD xs) (lx:xs.length≤100000):Dn Tryz.prog 216 [.sl 1 (Ab .u32 xs)] [] 0 (.own 0) [(0,some (DE (limbs (AF xs))))] 1:=by
 have c1:=EF hx;have t1:=BT xs;rw [A0 hx] at t1;generalize AF xs=X at *;have lX:=Ac .u32 (limbs X);refine BK M7 fun C hC => ?_;refine Aj ?_;refine TR ?_ ?_
 ·dsimp only; rw [List.length_replicate]; omega
 refine A5 ?_;refine Ak ⟨rfl,?_⟩;refine F8 0 (Ab .u32 (limbs X)) rfl (by dsimp only; rw [List.drop_eq_nil_of_le (by rw [List.length_replicate]; omega),List.append_nil]) ?_;refine Aj ?_;exact BZ []
theorem Te {a y b:Int} (ha:GP a) (hy:GP y) (b0:0≤b) (b1:b≤1):(a - y - b) % 4294967296 - 4294967296 * N0 a y b=a - y - b∧0≤N0 a y b∧N0 a y b≤1:=by
 obtain ⟨a0,a1⟩:=ha;obtain ⟨y0,y1⟩:=hy;unfold N0;split<;>omega
theorem Aif (xs ys:List Int) (hx:AD xs) (hy:AD ys) (lx:xs.length≤100000) (ly:ys.length≤100000):Ae Tryz.prog 244 [.sl 1 (Ab .u32 xs),.sl 1 (Ab .u32 ys)] (.tup [.sl 1 (Ab .u32 (limbs (AF xs - AF ys))),.lit (.bool (decide (AF ys≤AF xs)))]):=by
 have c1:=U8 xs ys hx hy;have c2:=EF hy;have c3:=Aie xs hx lx;have t1:=BT xs;have t2:=BT ys;rw [A0 hx] at t1;rw [A0 hy] at t2;generalize AF xs=X at *;generalize AF ys=Y at *;have lX:=Ac .u32 (limbs X);have lY:=Ac .u32 (limbs Y);have oX:=Ar X;have oY:=Ar Y;have vX:=B1 X;have vY:=B1 Y;refine Aa YG fun C hC => ?_;by_cases h:X<Y
 ·rw [DK,if_pos h] at c1
  rw [decide_eq_false (by omega),show X - Y=0 from by omega,AC];refine Aj ?_;exact Am
 have hge:Y≤X:=by omega
 have hl:=Bj hge;have c1':∃ z:Int,0≤z∧Ae Tryz.prog 219 [.sl 1 (Ab .u32 xs),.sl 1 (Ab .u32 ys)] (.lit (.int .i64 z)):=⟨DK X Y,by unfold DK; split<;>(try split)<;>omega,c1⟩;clear c1;obtain ⟨z,z0,c1⟩:=c1';rw [decide_eq_true hge];refine Aj ?_;refine Cw [] c3 ?_;refine A5 ?_;refine Ak ⟨rfl,?_⟩;refine Aj ?_
 refine Ai [1,6,19] [] (fun x:Nat × Int × List Int=>[(7,B0 x.2.1),(20,nA x.1)]) (fun x=>[(0,some (DE (x.2.2++(limbs X).drop x.1)))]) 1
  (fun x=>x.1≤(limbs X).length∧x.2.2.length=x.1∧AD x.2.2∧(0≤x.2.1∧x.2.1≤1)∧vI ((limbs X).take x.1) - vI ((limbs Y).take x.1)=vI x.2.2 - BB x.1 * x.2.1) (fun x=>(limbs X).length - x.1) (0,0,[]) ⟨Nat.zero_le _,rfl,AD.nil,⟨by simp,by simp⟩,by simp [vI]⟩ ?_
 rintro ⟨i,c,r⟩ ⟨hi,hr,or,⟨c0,c1'⟩,hE⟩;dsimp only [List.cons_append,List.nil_append] at hi hr or c0 c1' hE ⊢;have hml:=LX (xs:=limbs X) hr hi;have lM:=Ac .u32 (r++(limbs X).drop i);have rv:=BM or;have oM:AD (r++(limbs X).drop i):=or.app (oX.drop i);by_cases hlt:i<(limbs X).length
 ·obtain ⟨a,ha⟩:∃ a,(limbs X)[i]? = some a:=⟨_,List.getElem?_eq_getElem hlt⟩
  have hak:(Ab .u32 (r++(limbs X).drop i))[i]? = some [B0 a]:=Az ((N6 hr).trans ha);have la:=Cf oX ha;have sX:=A7 ha;have hset:=fun v=>JO (xs:=limbs X) hr hlt v;by_cases hy:i<(limbs Y).length
  ·obtain ⟨y,hy1⟩:∃ y,(limbs Y)[i]? = some y:=⟨_,List.getElem?_eq_getElem hy⟩
   have hyk:(Ab .u32 (limbs Y))[i]? = some [B0 y]:=Az hy1;have ly:=Cf oY hy1;have sY:=A7 hy1;have ca:=Tc a y c la ly c0 c1';obtain ⟨e1,e2,e3⟩:=Te la ly c0 c1';have hms:Ab .u32 ((r++[(a - y - c) % 4294967296])++(limbs X).drop (i+1))=(Ab .u32 (r++(limbs X).drop i)).set i [B0 ((a - y - c) % 4294967296)]:=by rw [Bu,hset]
   refine Aj ?_;refine ⟨(i+1,N0 a y c,r++[(a - y - c) % 4294967296]),by dsimp only; omega,⟨by dsimp only; omega,by simp [hr],or.snoc (by omega) (by omega),⟨e2,e3⟩,?_⟩,BI hC.m [] (by dsimp only [DE]; rw [hms]; rfl)⟩;dsimp only;rw [sX,sY,DR,hr,BX]
   grind
  ·by_cases hc0:c=0
   ·subst hc0
    have hv:vI (r++(limbs X).drop i)=((X - Y:Nat):Int):=by
     rw [EV,hr]
     have:=Ev (limbs X) hi
     rw [List.take_of_length_le (show (limbs Y).length≤i by omega)] at hE;rw [Int.mul_zero] at hE;omega
    have ct:=Lh (r++(limbs X).drop i);rw [F6 oM hv] at ct;refine Aj ?_;exact Am
   ·obtain rfl:c=1:=by omega
    have ca:=Tc a 0 1 la ⟨by omega,by omega⟩ (by omega) (by omega);obtain ⟨e1,e2,e3⟩:=Te la (show GP 0 from ⟨by omega,by omega⟩) (show (0:Int)≤1 by omega) (Int.le_refl 1);have hms:Ab .u32 ((r++[(a - 0 - 1) % 4294967296])++(limbs X).drop (i+1))=(Ab .u32 (r++(limbs X).drop i)).set i [B0 ((a - 0 - 1) % 4294967296)]:=by rw [Bu,hset]
    refine Aj ?_;refine ⟨(i+1,N0 a 0 1,r++[(a - 0 - 1) % 4294967296]),by dsimp only; omega,⟨by dsimp only; omega,by simp [hr],or.snoc (by omega) (by omega),⟨e2,e3⟩,?_⟩,BI hC.m [] (by dsimp only [DE]; rw [hms]; rfl)⟩;dsimp only;rw [sX,DR,hr,BX];rw [List.take_of_length_le (show (limbs Y).length≤i+1 by omega)];rw [List.take_of_length_le (show (limbs Y).length≤i by omega)] at hE
    grind
 ·have hiX:i=(limbs X).length:=by omega
  rw [List.take_of_length_le (show (limbs Y).length≤i by omega),List.take_of_length_le (show (limbs X).length≤i by omega),vX,vY] at hE;have hd:(limbs X).drop i=[]:=List.drop_eq_nil_of_le (by omega);rw [hd,List.append_nil] at *
  have hc0:c=0:=by
   have:=Hr or
   rw [hr] at this;by_cases hc:c=0
   ·exact hc
   ·obtain rfl:c=1:=by omega
    omega
  subst hc0;have hv:vI r=((X - Y:Nat):Int):=by rw [Int.mul_zero] at hE; omega
  have ct:=Lh r;rw [F6 or hv] at ct;refine Aj ?_;exact Am
theorem AeC {x y:Int} (hx:GP x) (hy:GP y):0≤x * y∧x * y≤18446744065119617025:=by
 obtain ⟨x0,x1⟩:=hx;obtain ⟨y0,y1⟩:=hy;have h1:=Int.mul_nonneg x0 y0;have h2:=Int.mul_le_mul (show x≤4294967295 by omega) (show y≤4294967295 by omega) y0 (by omega);omega
structure Ana (X Y:Nat) (i:Nat) (xs:List Int):Prop where
 le:i≤(limbs X).length
 len:xs.length=(limbs X).length+(limbs Y).length
 ok:AD xs
 val:vI xs=vI ((limbs X).take i) * Y
 top:vI (xs.drop (i+(limbs Y).length))=0
theorem Al7 (xs ys:List Int) (hx:AD xs) (hy:AD ys) (lx:xs.length≤100000) (ly:ys.length≤100000):Ae Tryz.prog 220 [.sl 1 (Ab .u32 xs),.sl 1 (Ab .u32 ys)] (.sl 1 (Ab .u32 (limbs (AF xs * AF ys)))):=by
 have c1:=EF hx;have c2:=EF hy;have t1:=BT xs;have t2:=BT ys;rw [A0 hx] at t1;rw [A0 hy] at t2;generalize AF xs=X at *;generalize AF ys=Y at *;have lX:=Ac .u32 (limbs X);have lY:=Ac .u32 (limbs Y);have oX:=Ar X;have oY:=Ar Y;have vX:=B1 X;have vY:=B1 Y;refine Aa YH fun C hC => ?_;by_cases hX0:X=0
 ·subst hX0
  rw [Nat.zero_mul,AC] at *;refine Aj ?_;exact Am
 by_cases hY0:Y=0
 ·subst hY0
  rw [Nat.mul_zero,AC] at *
  have:0<(limbs X).length:=by rw [Bf hX0]; simp
  refine Aj ?_;exact Am
 have nX:0<(limbs X).length:=by rw [Bf hX0]; simp
 have nY:0<(limbs Y).length:=by rw [Bf hY0]; simp
 have em:(((limbs X).length:Int)+(limbs Y).length).toNat=(limbs X).length+(limbs Y).length:=by omega
 refine Aj ?_;refine F8 0 (Ab .u32 (List.replicate ((limbs X).length+(limbs Y).length) 0)) rfl (by dsimp only; rw [em,← GY]; rfl) ?_
 refine Ai [0,1,5,30,31] [] (fun x:Nat × List Int=>[(32,nA x.1)]) (fun x=>[(0,some (DE x.2))]) 1
  (fun x=>Ana X Y x.1 x.2) (fun x=>(limbs X).length - x.1) (0,List.replicate ((limbs X).length+(limbs Y).length) 0) ⟨Nat.zero_le _,by simp,AD.rep _,by simp [AhL,vI],by rw [List.drop_replicate,AhL]⟩ ?_
 rintro ⟨i,xs'⟩ ⟨hi,hlen,hok,hval,htop⟩;dsimp only [List.cons_append,List.nil_append] at hi hlen hok hval htop ⊢;by_cases hlt:i<(limbs X).length
 ·obtain ⟨x,hx1⟩:∃ x,(limbs X)[i]? = some x:=⟨_,List.getElem?_eq_getElem hlt⟩
  have hxk:(Ab .u32 (limbs X))[i]? = some [B0 x]:=Az hx1;have lx1:=Cf oX hx1;have sX:=A7 hx1;refine Aj ?_;refine F8 0 (Ab .u32 (xs'.take i++xs'.drop (i+0))) rfl (by dsimp only; rw [Nat.add_zero,List.take_append_drop]) ?_
  refine Ai [0,1,5,6,7,30,31,32,37,38] [] (fun x:Nat × Int × List Int=>[(8,Gp x.2.1),(39,nA x.1)]) (fun x=>[(0,some (DE (x.2.2++xs'.drop (i+x.1))))]) 1
   (fun y=>y.1≤(limbs Y).length∧y.2.2.length=i+y.1∧AD y.2.2∧GP y.2.1∧vI y.2.2+BB (i+y.1) * y.2.1=vI (xs'.take (i+y.1))+BB i * (x * vI ((limbs Y).take y.1))) (fun y=>(limbs Y).length - y.1) (0,0,xs'.take i) ⟨Nat.zero_le _,by simp; omega,hok.take i,⟨by simp,by simp⟩,by simp [vI]⟩ ?_
  rintro ⟨j,c,r⟩ ⟨hj,hr,or,lc,hE⟩;dsimp only [List.cons_append,List.nil_append] at hj hr or lc hE ⊢;have hml:=LX (xs:=xs') hr (by omega);have lM:=Ac .u32 (r++xs'.drop (i+j));have eij:((i:Int)+(j:Int)).toNat=i+j:=by omega
  by_cases hlj:j<(limbs Y).length
  ·obtain ⟨y,hy1⟩:∃ y,(limbs Y)[j]? = some y:=⟨_,List.getElem?_eq_getElem hlj⟩
   have hyk:(Ab .u32 (limbs Y))[j]? = some [B0 y]:=Az hy1;have ly1:=Cf oY hy1;have sY:=A7 hy1;obtain ⟨s,hs1⟩:∃ s,xs'[i+j]? = some s:=⟨_,List.getElem?_eq_getElem (by omega)⟩;have hsk:(Ab .u32 (r++xs'.drop (i+j)))[((i:Int)+(j:Int)).toNat]? = some [B0 s]:=by rw [eij]; exact Az ((N6 hr).trans hs1)
   have ls1:=Cf hok hs1;have sS:=A7 hs1;obtain ⟨m0,m1⟩:=AeC lx1 ly1;have hcv:IntKind.u32.wrap (x * y+s+c)=(x * y+s+c) % 4294967296:=rfl;have hset:=JO (xs:=xs') hr (by omega) ((x * y+s+c) % 4294967296);have hms:Ab .u32 ((r++[(x * y+s+c) % 4294967296])++xs'.drop (i+(j+1)))=(Ab .u32 (r++xs'.drop (i+j))).set ((i:Int)+(j:Int)).toNat [B0 ((x * y+s+c) % 4294967296)]:=by rw [eij,Bu,hset]; rfl
   obtain ⟨x0,x1⟩:=lx1;obtain ⟨y0,y1⟩:=ly1;obtain ⟨s0,s1⟩:=ls1;obtain ⟨c0,c1'⟩:=lc;refine Aj ?_;refine ⟨(j+1,(x * y+s+c) / 4294967296,r++[(x * y+s+c) % 4294967296]),by dsimp only; omega,⟨by dsimp only; omega,by simp [hr]; omega,or.snoc (by omega) (by omega),⟨by dsimp only; omega,by dsimp only; omega⟩,?_⟩,BI hC.m [] (by dsimp only [DE]; rw [hms]; rfl)⟩;dsimp only;rw [sY,DR,hr,← Nat.add_assoc,sS,BX,UP];rw [UP] at hE
   have:=Int.emod_add_mul_ediv (x * y+s+c) 4294967296
   grind
  ·have hjY:j=(limbs Y).length:=by omega
   subst hjY;rw [List.take_of_length_le (Nat.le_refl _),vY] at hE;obtain ⟨s,hs1⟩:∃ s,xs'[i+(limbs Y).length]? = some s:=⟨_,List.getElem?_eq_getElem (by omega)⟩;have hsk:(Ab .u32 (r++xs'.drop (i+(limbs Y).length)))[((i:Int)+((limbs Y).length:Int)).toNat]? = some [B0 s]:=by rw [eij]; exact Az ((N6 hr).trans hs1)
   obtain ⟨c0,c1'⟩:=lc;have hset:=JO (xs:=xs') hr (by omega) c;have hms:Ab .u32 ((r++[c])++xs'.drop (i+(limbs Y).length+1))=(Ab .u32 (r++xs'.drop (i+(limbs Y).length))).set ((i:Int)+((limbs Y).length:Int)).toNat [B0 c]:=by rw [eij,Bu,hset]
   have hd:=List.drop_eq_getElem_cons (l:=xs') (i:=i+(limbs Y).length) (by omega);have e1:xs'[i+(limbs Y).length]=s:=(List.getElem?_eq_some_iff.1 hs1).2;rw [hd,e1,vI] at htop;have ls:=Cf hok hs1;have hn:=BM (hok.drop (i+(limbs Y).length+1));obtain ⟨s0,s1⟩:=ls;have hsp:=Ev xs' (k:=i+(limbs Y).length) (by omega);rw [hd,e1,vI,htop,Int.mul_zero,Int.add_zero] at hsp;have hz:vI (xs'.drop (i+(limbs Y).length+1))=0:=by omega
   refine Aj ?_;refine ⟨(i+1,(r++[c])++xs'.drop (i+(limbs Y).length+1)),by dsimp only; omega,⟨by dsimp only; omega,by simp [hr]; omega,(or.snoc c0 c1').app (hok.drop _),?_,?_⟩,BI hC.m [] (by dsimp only [DE]; rw [hms]; rfl)⟩
   ·dsimp only
    rw [EV,hz,DR,hr,sX,Int.mul_zero,Int.add_zero,hE,← hsp,hval]
    grind
   ·dsimp only
    rw [List.drop_append_of_le_length (by simp [hr]; omega),List.drop_eq_nil_of_le (by simp [hr]; omega),List.nil_append,hz]
 ·have hiX:i=(limbs X).length:=by omega
  rw [List.take_of_length_le (show (limbs X).length≤i by omega),vX] at hval;have ct:=Lh xs';rw [F6 (V:=X * Y) hok (by rw [hval]; simp)] at ct;refine Aj ?_;exact Am
end Go.Proofs.YtjcolpcfcdkckaaGreat
