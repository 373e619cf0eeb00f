/- Small numbers: the reference's. -/
import Derived.Test.YtjcolpcfcdkckaaGreatK08
import Derived.Test.YtjcolpcfcdkckaaGreatK11
set_option maxRecDepth 10000
set_option maxHeartbeats 1000000
namespace Go.Proofs.YtjcolpcfcdkckaaGreat
set_option linter.unusedVariables false
open Go.RowKit
def F9 (g:Bool) (X:Nat):Int:=if g then -(X:Int) else X
theorem Zd (g:Bool) (X:Nat):F9 (Cu g X) X=F9 g X:=by
 unfold F9 Cu;by_cases h:X=0
 ·subst h; cases g<;>rfl
 ·simp [h]
def Rn (z:Int):Int:=if z=0 then 0 else if z<0 then -1 else 1
theorem AkA (g:Bool) (X:Nat) (hl:(limbs X).length≤A2):Ae Tryz.prog 228 [.agg (Cs g (limbs X))] (.agg (Cs (Cu (!g) X) (limbs X))):=by
 have c1:=CP (!g) (limbs X) (Ar _) hl;rw [Aq] at c1;refine Aa Mx fun C hC => ?_;refine Af ?_;exact Am
theorem AeE {a b:Nat}:DK a b ≥ 0↔b≤a:=by
 unfold DK;split
 ·constructor<;>intro h<;>omega
 ·split<;>constructor<;>intro h<;>omega
theorem AkB (g1 g2:Bool) (X Y:Nat) (hX:X<18446744073709551616) (hY:Y<18446744073709551616) (z:Int) (hz:z=F9 g1 X+F9 g2 Y) :
 Ae Tryz.prog 227 [.agg (Cs g1 (limbs X)),.agg (Cs g2 (limbs Y))] (.agg (Cs (decide (z<0)) (limbs z.natAbs))):=by
 have hB:A2=1000000000:=rfl;have lX:=Bh 64 X (by omega);have lY:=Bh 64 Y (by omega);have c1:=CP g1 (limbs X) (Ar _) (by omega);have c2:=CP g2 (limbs Y) (Ar _) (by omega);rw [Aq] at c1 c2;rw [← Zd g1 X,← Zd g2 Y] at hz;generalize Cu g1 X=G1 at c1 hz;generalize Cu g2 Y=G2 at c2 hz;have lS:=Bh 65 (X+Y) (by omega);have lD:=Bh 64 (X - Y) (by omega);have lE:=Bh 64 (Y - X) (by omega);have c3:=AhN (limbs X) (limbs Y) (Ar _) (Ar _) (by omega) (by omega);have c4:=Ac8 (limbs X) (limbs Y) (Ar _) (Ar _) (by omega) (by omega);rw [Aq,Aq] at c3 c4;have n1:=fun g=>CP g (limbs (X+Y)) (Ar _) (by omega);have n2:=fun g=>CP g (limbs (X - Y)) (Ar _) (by omega);have n3:=fun g=>CP g (limbs (Y - X)) (Ar _) (by omega);simp only [Aq] at n1 n2 n3
 have fin0:∀ V:Nat,z=(V:Int)→Cs (decide (z<0)) (limbs z.natAbs)=Cs (Cu false V) (limbs V):=fun V e=>by
  rw [Oa,show decide (z<0)=false from by rw [decide_eq_false_iff_not]; omega,show z.natAbs=V from by omega]
 have fin1:∀ V:Nat,z = -(V:Int)→Cs (decide (z<0)) (limbs z.natAbs)=Cs (Cu true V) (limbs V):=fun V e=>by
  rw [show z.natAbs=V from by omega,Cu];split
  ·rw [show decide (z<0)=false from by rw [decide_eq_false_iff_not]; omega]
  ·rw [show decide (z<0)=true from by rw [decide_eq_true_eq]; omega]
 clear lX lY lS lD lE;refine Aa Mu fun C hC => ?_;by_cases hle:Y≤X
 ·have hge:DK X Y ≥ 0:=AeE.2 hle
  have c5:=Ac9 (limbs X) (limbs Y) (Ar _) (Ar _) (Nat.le_trans (Bh 64 X (by omega)) (by omega)) (Nat.le_trans (Bh 64 Y (by omega)) (by omega)) (by rw [Aq,Aq]; exact hle);rw [Aq,Aq] at c5;generalize DK X Y=q at c4 hge;cases G1<;>cases G2
  ·rw [fin0 (X+Y) (by rw [hz]; simp [F9])]
   have n:=n1 false;clear n1 n2 n3 c5;refine Af ?_;exact Am
  ·rw [fin0 (X - Y) (by rw [hz]; simp [F9]; omega)]
   have n:=n2 false;clear n1 n2 n3 c3;refine Af ?_;exact Am
  ·rw [fin1 (X - Y) (by rw [hz]; simp [F9]; omega)]
   have n:=n2 true;clear n1 n2 n3 c3;refine Af ?_;exact Am
  ·rw [fin1 (X+Y) (by rw [hz]; simp [F9]; omega)]
   have n:=n1 true;clear n1 n2 n3 c5;refine Af ?_;exact Am
 ·have hge:¬ DK X Y ≥ 0:=fun h=>hle (AeE.1 h)
  have c5:=Ac9 (limbs Y) (limbs X) (Ar _) (Ar _) (Nat.le_trans (Bh 64 Y (by omega)) (by omega)) (Nat.le_trans (Bh 64 X (by omega)) (by omega)) (by rw [Aq,Aq]; omega);rw [Aq,Aq] at c5;generalize DK X Y=q at c4 hge;cases G1<;>cases G2
  ·rw [fin0 (X+Y) (by rw [hz]; simp [F9])]
   have n:=n1 false;clear n1 n2 n3 c5;refine Af ?_;exact Am
  ·rw [fin1 (Y - X) (by rw [hz]; simp [F9]; omega)]
   have n:=n3 true;clear n1 n2 n3 c3;refine Af ?_;exact Am
  ·rw [fin0 (Y - X) (by rw [hz]; simp [F9]; omega)]
   have n:=n3 false;clear n1 n2 n3 c3;refine Af ?_;exact Am
  ·rw [fin1 (X+Y) (by rw [hz]; simp [F9]; omega)]
   have n:=n1 true;clear n1 n2 n3 c5;refine Af ?_;exact Am
theorem AkC (g1 g2:Bool) (X Y:Nat) (hX:X<18446744073709551616) (hY:Y<18446744073709551616) (z:Int) (hz:z=F9 g1 X - F9 g2 Y) :
 Ae Tryz.prog 197 [.agg (Cs g1 (limbs X)),.agg (Cs g2 (limbs Y))] (.agg (Cs (decide (z<0)) (limbs z.natAbs))):=by
 have hB:A2=1000000000:=rfl;have lY:=Bh 64 Y (by omega);have c1:=AkA g2 Y (by omega);have c2:=AkB g1 (Cu (!g2) Y) X Y hX hY z (by rw [hz,Zd]; cases g2<;>simp [F9]<;>omega);refine Aa Mz fun C hC => ?_;refine Af ?_;exact Am
theorem Aii (z:Int) (hl:(limbs z.natAbs).length≤A2):Ae Tryz.prog 196 [.agg (Cs (decide (z<0)) (limbs z.natAbs))] (.lit (.int .i64 (Rn z))):=by
 have c1:=CP (decide (z<0)) (limbs z.natAbs) (Ar _) hl;rw [Aq,Y1] at c1;have la:=Ac .u32 (limbs z.natAbs);refine Aa KZ fun C hC => ?_;by_cases h0:z=0
 ·subst h0
  have la':((Ab .u32 (limbs (Int.natAbs 0))).length:Int)=0:=by rw [show Int.natAbs 0=0 from rfl,AC]; rfl
  rw [show Rn 0=0 from rfl];clear la;refine Af ?_;exact Am
 ·have hpos:¬ (limbs z.natAbs).length=0:=fun e=>absurd (Cj.1 (List.eq_nil_of_length_eq_zero e)) (by omega)
  by_cases h1:z<0
  ·rw [show Rn z = -1 from by simp [Rn,h0,h1]]
   rw [decide_eq_true h1] at c1 ⊢;refine Af ?_;exact Am
  ·rw [show Rn z=1 from by simp [Rn,h0,h1]]
   rw [decide_eq_false h1] at c1 ⊢;refine Af ?_;exact Am
theorem AeF (g1 g2:Bool) (X Y:Nat) (hX:X<18446744073709551616) (hY:Y<18446744073709551616) (q:Int) (hq:q=Rn (F9 g1 X - F9 g2 Y)) :
 Ae Tryz.prog 158 [.agg (Cs g1 (limbs X)),.agg (Cs g2 (limbs Y))] (.lit (.int .i64 q)):=by
 subst hq;have hB:A2=1000000000:=rfl;have c1:=AkC g1 g2 X Y hX hY _ rfl;have hzb:(F9 g1 X - F9 g2 Y).natAbs<2 ^ 65:=by unfold F9; split<;>split<;>omega
 have lz:=Bh 65 _ hzb;have c2:=Aii (F9 g1 X - F9 g2 Y) (by omega);refine Aa Mw fun C hC => ?_;refine Af ?_;exact Am
theorem Xw (x:Int) (xs:List Int):AF (x::xs)=x.toNat+4294967296 * AF xs:=by simp [AF]
theorem PM:∀ (k:Nat) (xs:List Int),AF (xs.drop k)≤AF xs
 | 0,xs=>by simp
 | k+1,[]=>by simp
 | k+1,x::xs=>by
   have:=PM k xs
   rw [List.drop_succ_cons,Xw]; omega
theorem Af6 (g:Bool) (X:Nat) (hl:(limbs X).length≤A2):Ae Tryz.prog 107 [.agg (Cs g (limbs X))] (.tup [.lit (.int .i64 (CH (Cu g X) X).1),.lit (.bool (CH (Cu g X) X).2)]):=by
 have c1:=CP g (limbs X) (Ar _) hl;rw [Aq] at c1;generalize Cu g X=G at c1 ⊢;have lx:=Ac .u32 (limbs X);have hcs:=Ls X;have hval:=Aq X;have hlim:=Ar X;refine Aa Ko fun C hC => ?_;by_cases h2:2<(limbs X).length
 ·rw [UN (by rcases hcs with ⟨_,e⟩|⟨_,_,e⟩|⟨_,_,e⟩|⟨e,_⟩<;>first|exact e|(rw [e] at h2; simp at h2))]
  refine Af ?_;exact Am
 ·have hX:X<18446744073709551616:=by rcases hcs with ⟨e,_⟩|⟨_,e,_⟩|⟨_,e,_⟩|⟨_,e⟩<;>omega
  clear hcs;have o1:=Adb 9223372036854775807 (by omega) (by omega);have o2:=Adb (-9223372036854775808) (by omega) (by omega);rw [show decide ((9223372036854775807:Int)<0)=false from rfl,show Int.natAbs 9223372036854775807=9223372036854775807 from rfl] at o1;rw [show decide ((-9223372036854775808:Int)<0)=true from rfl,show Int.natAbs (-9223372036854775808)=9223372036854775808 from rfl] at o2;have k1:=AeF G false X 9223372036854775807 hX (by omega) _ rfl;have k2:=AeF G true X 9223372036854775808 hX (by omega) _ rfl;rw [show F9 false 9223372036854775807=9223372036854775807 from rfl] at k1;rw [show F9 true 9223372036854775808 = -9223372036854775808 from rfl] at k2
  have p1:Rn (F9 G X - 9223372036854775807) > 0↔F9 G X > 9223372036854775807:=by
   unfold Rn; split
   ·constructor<;>intro h<;>omega
   ·split<;>constructor<;>intro h<;>omega
  have p2:Rn (F9 G X - -9223372036854775808)<0↔F9 G X < -9223372036854775808:=by
   unfold Rn; split
   ·constructor<;>intro h<;>omega
   ·split<;>constructor<;>intro h<;>omega
  generalize Rn (F9 G X - 9223372036854775807)=q1 at k1 p1;generalize Rn (F9 G X - -9223372036854775808)=q2 at k2 p2;generalize limbs 9223372036854775807=lm1 at o1 k1;generalize limbs 9223372036854775808=lm2 at o2 k2;generalize limbs X=ls at c1 lx hval hlim h2 k1 k2;by_cases h1:q1 > 0
  ·rw [show CH G X=(0,false) from by
    have:=p1.1 h1
    unfold F9 at this;unfold CH;cases G
    ·simp at this ⊢; omega
    ·simp at this; omega]
   refine Af ?_;exact Am
  by_cases h3:q2<0
  ·rw [show CH G X=(0,false) from by
    have:=p2.1 h3
    unfold F9 at this;unfold CH;cases G
    ·simp at this; omega
    ·simp at this ⊢; omega]
   refine Af ?_;exact Am
  have hin:F9 G X≤9223372036854775807 ∧ -9223372036854775808≤F9 G X:=⟨by
   have:=mt p1.2 h1; omega,by have:=mt p2.2 h3; omega⟩
  rw [show CH G X=(F9 G X,true) from by
   unfold F9 at hin ⊢;unfold CH;cases G<;>simp at hin ⊢<;>omega]
  clear p1 p2;refine Af ?_
  refine Ai [0,4] [0,1] (fun k:Nat=>[(5,.lit (.int .i64 (F9 G (AF (ls.drop k))))),(6,.lit (.int .i64 ((k:Int) - 1)))]) (fun _=>[]) 2 (fun k=>k≤ls.length) (fun k=>k) ls.length (Nat.le_refl _) ?_
   (ht:=by rw [List.drop_length,show F9 G (AF [])=0 from by cases G<;>rfl]; rfl)
  rintro k hk;dsimp only [List.cons_append,List.nil_append];cases k with
  | zero =>
    rw [List.drop_zero,hval];refine Af ?_;exact Am
  | succ j =>
    obtain ⟨v,hv⟩:∃ v,ls[j]? = some v:=⟨_,List.getElem?_eq_getElem (by omega)⟩;have hvr:=hlim v (List.mem_of_getElem? hv);have hvk:(Ab .u32 ls)[(((j+1:Nat):Int) - 1).toNat]? = some [.lit (.int .u32 v)]:=by rw [show (((j+1:Nat):Int) - 1).toNat=j from by omega]; exact Az hv
    have hd:AF (ls.drop j)=v.toNat+4294967296 * AF (ls.drop (j+1)):=by rw [AU hv,Xw]
    have hmono:=PM j ls;rw [hval] at hmono;generalize AF (ls.drop (j+1))=V' at hd ⊢;cases G
    ·have e1:F9 false (AF (ls.drop j))=F9 false V' * 4294967296+v:=by simp [F9]; omega
     have hb:0≤F9 false V'∧F9 false V' * 4294967296+v≤9223372036854775807:=by rw [← e1]; simp [F9] at hin ⊢; omega
     generalize F9 false V'=S at e1 hb ⊢;refine Af ?_;exact ⟨j,by omega,by omega,BI hC.m [] (by rw [e1,show ((j:Nat):Int) - 1=((j+1:Nat):Int) - 1 - 1 from by omega]; rfl)⟩
    ·have e1:F9 true (AF (ls.drop j))=F9 true V' * 4294967296 - v:=by simp [F9]; omega
     have hb:F9 true V'≤0 ∧ -9223372036854775808≤F9 true V' * 4294967296 - v:=by rw [← e1]; simp [F9] at hin ⊢; omega
     generalize F9 true V'=S at e1 hb ⊢;refine Af ?_;exact ⟨j,by omega,by omega,BI hC.m [] (by rw [e1,show ((j:Nat):Int) - 1=((j+1:Nat):Int) - 1 - 1 from by omega]; rfl)⟩
def EM (m:List Int):Bool:=match m with|[a]=>a == 1|_=>false
def Df (n:Fx):Int × Bool:=if EM n.bot then CH (Cu n.neg (AF n.top)) (AF n.top) else (0,false)
theorem AbH (m:List Int) (hm:AD m):Ae Tryz.prog 161 [.sl 1 (Ab .u32 m)] (.lit (.bool (EM m))):=by
 have lm:=Ac .u32 m;refine Aa QH fun C hC => ?_
 match m,hm,lm with
 | [],hm,lm =>
   refine Af ?_;exact Am
 | [a],hm,lm =>
   have hx:(Ab .u32 [a])[(0:Int).toNat]? = some [.lit (.int .u32 a)]:=rfl;have hl:((Ab .u32 [a]).length:Int)=1:=rfl;by_cases h:a=1
   ·subst h
    rw [show EM [1]=true from rfl];refine Af ?_;exact Am
   ·rw [show EM [a]=false from by simpa [EM] using h]
    refine Af ?_;exact Am
 | a::b::r,hm,lm =>
   have hl:((Ab .u32 (a::b::r)).length:Int)=r.length+2:=by simp [Ab]; omega
   refine Af ?_;exact Am
theorem Adl (n:Fx):Ae Tryz.prog 106 [.agg (AY n)] (.lit (.bool (EM n.bot))):=by
 refine Aa IW fun C hC => ?_
 have key:n.bot=[]∨(∃ a,n.bot=[a])∨(∃ a b r,n.bot=a::b::r):=by
  rcases n.bot with _|⟨a,_|⟨b,r⟩⟩
  ·exact .inl rfl
  ·exact .inr (.inl ⟨a,rfl⟩)
  ·exact .inr (.inr ⟨a,b,r,rfl⟩)
 rcases key with hb|⟨a,hb⟩|⟨a,b,r,hb⟩
 ·have hl:((Ab .u32 n.bot).length:Int)=0:=by rw [hb]; rfl
  rw [show EM n.bot=false from by rw [hb]; rfl];refine Af ?_;exact Am
 ·have hx:(Ab .u32 n.bot)[(0:Int).toNat]? = some [.lit (.int .u32 a)]:=by rw [hb]; rfl
  have hl:((Ab .u32 n.bot).length:Int)=1:=by rw [hb]; rfl
  by_cases h:a=1
  ·rw [show EM n.bot=true from by rw [hb,h]; rfl]
   refine Af ?_;exact Am
  ·rw [show EM n.bot=false from by rw [hb]; simpa [EM] using h]
   refine Af ?_;exact Am
 ·have hl:((Ab .u32 n.bot).length:Int)=r.length+2:=by rw [hb]; simp [Ab]; omega
  rw [show EM n.bot=false from by rw [hb]; rfl];refine Af ?_;exact Am
theorem AbI (n:Fx):Ae Tryz.prog 163 [.agg (AY n)] (.agg (Cs n.neg n.top)):=by
 refine Aa T4 fun C hC => ?_;refine Af ?_;exact Am
theorem Va (n:Fx) (hn:FY n) (hl:n.top.length≤A2):Ae Tryz.prog 111 [.agg (AY n)] (.tup [.lit (.int .i64 (Df n).1),.lit (.bool (Df n).2)]):=by
 obtain ⟨l1,l2⟩:=hn.lim;have c1:=AbH n.bot l2;have c2:=AbI n;have c3:=Ahx n.neg n.top l1 hl;unfold Df;refine Aa QG fun C hC => ?_;cases h:EM n.bot<;>rw [h] at c1
 ·refine Af ?_
  exact Am
 ·simp only [if_true]
  refine Af ?_;exact Am
theorem Af7 (n:Fx) (hn:FY n) (hl:n.top.length≤A2):Ae Tryz.prog 43 [.agg (AY n)] (.tup [.lit (.int .i64 (Df n).1),.lit (.bool (Df n).2)]):=by
 obtain ⟨l1,l2⟩:=hn.lim;have c1:=Adl n;have c2:=AhO n l1 hl;have t1:=BT n.top;rw [A0 l1] at t1;have c3:=Af6 (Cu n.neg (AF n.top)) (AF n.top) (by omega);rw [show Cu (Cu n.neg (AF n.top)) (AF n.top)=Cu n.neg (AF n.top) from by unfold Cu; split<;>rfl] at c3;unfold Df;refine Aa Kr fun C hC => ?_;cases h:EM n.bot<;>rw [h] at c1
 ·refine Af ?_
  exact Am
 ·simp only [if_true]
  refine Af ?_;exact Am
def intOf (c:Ah):Option Int:=if c.kind=0 then (if (Df c.n).2=true then some (Df c.n).1 else none) else none
def Ez:List Ah→Option (List Int)
 | []=>some []
 | c::cs=>match intOf c,Ez cs with|some z,some l=>some (z::l)|_,_=>none
theorem Aij {cs:List Ah} {k:Nat} {c:Ah} (h:cs[k]? = some c):Ez (cs.drop k)=match intOf c,Ez (cs.drop (k+1)) with|some z,some l=>some (z::l)|_,_=>none:=by
 rw [AU h,Ez]
theorem GZ:∀ {cs:List Ah} {l:List Int},Ez cs=some l→l.length=cs.length
 | [],l,h=>by simp only [Ez,Option.some.injEq] at h; subst h; rfl
 | c::cs,l,h=>by
   rw [Ez] at h;split at h
   ·rename_i z l' h1 h2
    simp only [Option.some.injEq] at h; subst h;simp [GZ h2]
   ·cases h
def AB (A:Al):List Int × Int:=if A.shape.length > 1 then ([],5) else match Ez A.cells with|some l=>(l,0)|none=>([],3)
theorem Ef (A:Al) (hA:arrOK A) (hok:okA A):Ae Tryz.prog 48 [.agg (Ao A)] (.tup [.sl 1 (Ab .i64 (AB A).1),.lit (.int .i64 (AB A).2)]):=by
 have hB:A2=1000000000:=rfl;have lsh:=Ac .i64 A.shape;have lcs:=AK A;obtain ⟨a1,a2,a3,a4⟩:=hok.parts;obtain ⟨b1,b2,b3,b4⟩:=hA.parts;refine Aa Si fun C hC => ?_;unfold AB;by_cases h1:A.shape.length > 1
 ·rw [if_pos h1]
  refine Af ?_;exact Am
 ·rw [if_neg h1]
  refine Af ?_
  refine Ai [1,18,19] [0] (fun p:Nat × List Int=>[(4,.own 1),(20,.lit (.int .i64 p.1))]) (fun p=>[(1,some ⟨true,false,3,1,Ab .i64 p.2⟩)]) 2
   (fun p=>p.1≤A.cells.length∧p.2.length=p.1∧Ez A.cells=(Ez (A.cells.drop p.1)).map (p.2++·)) (fun p=>A.cells.length - p.1) (0,[]) ⟨Nat.zero_le _,rfl,by cases h:Ez A.cells<;>simp [h]⟩ ?_
  rintro ⟨k,zs⟩ ⟨hk,hz,hE⟩;dsimp only [List.cons_append,List.nil_append] at hk hz hE ⊢;generalize Ez A.cells=G at hE ⊢;by_cases hlt:k<A.cells.length
  ·obtain ⟨c,hc⟩:∃ c,A.cells[k]? = some c:=⟨_,List.getElem?_eq_getElem hlt⟩
   have hcm:=List.mem_of_getElem? hc;have hco:=Es.1 a4 c hcm;have hcp:=(Bw.1 b4 c hcm).parts;have hcv:(A.cells.map Av)[((k:Nat):Int).toNat]? = some (Au c):=by rw [Int.toNat_natCast]; exact A9 hc
   have c1:=Va c.n hcp.2.1 hco.parts.2.1;have hin:=Aij hc;have lz:=Ac .i64 zs;unfold intOf at hin;by_cases hkind:c.kind=0
   ·rw [if_pos hkind] at hin
    cases hb:(Df c.n).2<;>rw [hb] at c1 hin
    ·simp only [Bool.false_eq_true,if_false] at hin
     rw [hin] at hE;simp only [Option.map_none] at hE;subst hE;refine Af ?_;exact Am
    ·simp only [if_true] at hin
     generalize (Df c.n).1=z at c1 hin;refine Af ?_;refine ⟨(k+1,zs++[z]),by simp only; omega,⟨by simp only; omega,by simp only [List.length_append,List.length_cons,List.length_nil]; omega,?_⟩,BI hC.m [(1,4)] (by rw [show Ab .i64 (zs++[z])=Ab .i64 zs++[[.lit (.int .i64 z)]] from by simp [Ab]]; rfl)⟩;rw [hE,hin];cases Ez (A.cells.drop (k+1))<;>simp
   ·rw [if_neg hkind] at hin
    simp only at hin;rw [hin] at hE;simp only [Option.map_none] at hE;subst hE;generalize (Df c.n).1=z at c1;generalize (Df c.n).2=b at c1;refine Af ?_;exact Am
  ·rw [List.drop_eq_nil_of_le (by omega),Ez] at hE
   simp only [Option.map_some,List.append_nil] at hE;subst hE;refine Af ?_;exact Am
theorem AkD {z:Int} (h0 : -9223372036854775808≤z) (h1:z≤9223372036854775807):AD (I4 z):=by
 intro y hy;simp only [I4,List.mem_cons,List.not_mem_nil,or_false] at hy;rcases hy with h|h<;>omega
theorem Aik (z:Int):AF (I4 z)=z.natAbs:=by
 simp only [I4,AF]; omega
theorem Od {z:Int} (h0 : -9223372036854775808≤z) (h1:z≤9223372036854775807):CJ (I4 z)=limbs z.natAbs:=by
 rw [A0 (AkD h0 h1),Aik]
theorem Ail (z:Int):sgn (decide (z<0)) (limbs z.natAbs)=decide (z<0):=by rw [GW,Y1]
theorem Ro (z:Int) (h0 : -9223372036854775808≤z) (h1:z≤9223372036854775807):Ae Tryz.prog 174 [.lit (.int .i64 z)] (.agg (Cs (decide (z<0)) (limbs z.natAbs))):=by
 by_cases hn:0≤z
 ·have c:=Am3 z hn h1
  rw [Od h0 h1,show sgn false (limbs z.natAbs)=decide (z<0) from by rw [GW,Oa]; simp; omega] at c;exact c
 ·have hd:(I4 z).length≤A2:=by simp [I4,A2]
  have hq:z.natAbs / 4294967296<4294967296:=by omega
  have e0:IntKind.u64.wrap (0 - IntKind.u64.wrap z)=(z.natAbs:Int):=by
   have:IntKind.u64.wrap z=z+18446744073709551616:=by
    simp only [IntKind.wrap,IntKind.bits,IntKind.signed];simp; omega
   rw [this];simp only [IntKind.wrap,IntKind.bits,IntKind.signed];simp; omega
  have e1:IntKind.u32.wrap (IntKind.u64.wrap (0 - IntKind.u64.wrap z))=(z.natAbs % 4294967296:Nat):=by rw [e0,Ps]
  have e2:(IntKind.u64.wrap (0 - IntKind.u64.wrap z)).fdiv (2 ^ (min (32:Int).toNat IntKind.u64.bits))=(z.natAbs / 4294967296:Nat):=by
   rw [e0,show (2:Int) ^ (min (32:Int).toNat IntKind.u64.bits)=((4294967296:Nat):Int) from rfl,Int.fdiv_eq_ediv_of_nonneg _ (by omega)]; rfl
  have e3:IntKind.u32.wrap ((z.natAbs / 4294967296:Nat):Int)=(z.natAbs / 4294967296:Nat):=by rw [Ps,Nat.mod_eq_of_lt hq]
  have c1:=QW (I4 z) hd;have c2:=Pr true (CJ (I4 z));rw [Od h0 h1] at c1 c2;rw [GW,Xm (by omega)] at c2;rw [show decide (z<0)=true from by simp; omega];have k1:True→Ae Tryz.prog 216 [.sl 1 (Ab .u32 (I4 z))] (.sl 1 (Ab .u32 (limbs z.natAbs))):=fun _=>c1;clear c1;refine Aa M6 fun C hC => ?_;refine Aek ?_;refine AH (Ahi ?_);refine Aln (z.natAbs / 4294967296:Nat) ?_ (hv:=e2);refine Ahi ?_;refine Ys 1 [1] (avs':=[.sl 1 (Ab .u32 (I4 z))]) (k1 trivial) ?_ (hs:=BE.cons ?_ BE.nil)
  ·refine Ahi ?_
   refine Ak ⟨rfl,?_⟩;refine Aek ?_;exact Am
  ·rw [e1]; exact Bl.refl _
theorem LA (z:Int) (h0 : -9223372036854775808≤z) (h1:z≤9223372036854775807):Ae Tryz.prog 142 [.lit (.int .i64 z)] (.agg (AY (HH z))):=by
 have hB:A2=1000000000:=rfl
 have hll:(limbs z.natAbs).length≤2:=by
  rw [← Od h0 h1];have k1:=BT (I4 z);have hd:=Aho z;omega
 have c1:=Ro z h0 h1;have c2:=Ael (decide (z<0)) (limbs z.natAbs) (by omega) (by rw [FD]; omega);rw [show Aj7 (decide (z<0)) (limbs z.natAbs)=HH z from by simp only [Aj7,HH,FD,Ail]] at c2;refine Aa Wb fun C hC => ?_;refine Aek ?_;exact Am
theorem DJ (z:Int) (h0 : -9223372036854775808≤z) (h1:z≤9223372036854775807):Ae Tryz.prog 81 [.lit (.int .i64 z)] (.agg (Au (BV z))):=by
 have c:=LA z h0 h1;refine Aa TU fun C hC => ?_;refine Aek ?_;exact ⟨_,_,rfl,rfl,Bl.agg (BE.cons (Bl.refl _) (BE.cons (Bl.refl _) (BE.cons (Bl.refl _) (BE.cons (Bl.refl _) (BE.cons (Bl.refl _) (BE.cons (Bl.refl _) (BE.cons (Bl.nil _) BE.nil)))))))⟩
end Go.Proofs.YtjcolpcfcdkckaaGreat
