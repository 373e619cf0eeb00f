/- Arrays put together: what the program's functions answer. -/
import Derived.Test.YtjcolpcfcdkckaaGreatK07
import Derived.Test.YtjcolpcfcdkckaaGreatK10
set_option maxHeartbeats 2000000
namespace Go.Proofs.YtjcolpcfcdkckaaGreat
set_option linter.unusedVariables false
open Go.RowKit
def WJ (s:List Int) (cs:List Ah) (al:Bool):List AV:=[.sl 1 (Ab .i64 s),.sl 7 (cs.map Av),.lit (.bool al)]
def JR (sh other:List Int) (axes axis:Nat):Option (List Int × Bool) :=
 if sh.length=axes then some (sh,false)
 else if sh=[] then (if other=[] then some ([1],true) else some (other.set axis 1,true))
 else if sh.length+1=axes then some (sh.take axis++1::sh.drop axis,false)
 else none
theorem Adh (A:Al) (other:List Int) (axes axis:Nat) (hl:A.shape.length≤6) (h1:A.shape.length=axes) :
 Ae Tryz.prog 118 [.agg (Ao A),.sl 1 (Ab .i64 other),.lit (.int .i64 axes),.lit (.int .i64 axis)] (.tup [.agg (WJ A.shape A.cells false),.lit (.bool true)]):=by
 have ls:=Ac .i64 A.shape;have hb:(0+(Ab .i64 A.shape).length) * 8≤140737488355328:=by omega
 refine Aa DD fun C hC => ?_;refine Af ?_;exact Am
theorem Adi (A:Al) (other:List Int) (axes axis:Nat) (hl:A.shape.length≤6) (h6:axes≤6) (h1:A.shape.length≠axes) (h2:A.shape.length≠0) (h3:A.shape.length+1≠axes) :
 Ae Tryz.prog 118 [.agg (Ao A),.sl 1 (Ab .i64 other),.lit (.int .i64 axes),.lit (.int .i64 axis)] (.tup [.agg [.sl 1 [],.sl 7 [],.lit (.bool false)],.lit (.bool false)]):=by
 have ls:=Ac .i64 A.shape;refine Aa DD fun C hC => ?_;refine Af ?_;exact Am
theorem Adj (A:Al) (other:List Int) (axes axis:Nat) (hl:A.shape.length≤6) (h6:axes≤6) (h2:A.shape.length≠0) (h3:A.shape.length+1=axes) (hx:axis<axes) :
 Ae Tryz.prog 118 [.agg (Ao A),.sl 1 (Ab .i64 other),.lit (.int .i64 axes),.lit (.int .i64 axis)] (.tup [.agg (WJ (A.shape.take axis++1::A.shape.drop axis) A.cells false),.lit (.bool true)]):=by
 have ls:=Ac .i64 A.shape;have k1:=Cut.upto (k:=.i64) (s:=A.shape) (b:=axis) (by omega);have k2:=Cut.from (k:=.i64) (s:=A.shape) (a:=axis) (by omega);have l1:=Ac .i64 (A.shape.take axis);have l2:=Ac .i64 (A.shape.drop axis);rw [List.length_take] at l1;rw [List.length_drop] at l2;have hb1:(0+(Ab .i64 (A.shape.take axis)).length) * 8≤140737488355328:=by omega
 have hb2:((Ab .i64 (A.shape.take axis)).length+1) * 8≤140737488355328:=by omega
 have hb3:((Ab .i64 (A.shape.take axis)).length+1+(Ab .i64 (A.shape.drop axis)).length) * 8≤140737488355328:=by omega
 refine Aa DD fun C hC => ?_;refine Af ?_;unfold WJ;rw [show Ab .i64 (A.shape.take axis++1::A.shape.drop axis)=(Ab .i64 (A.shape.take axis)++[[.lit (.int .i64 1)]])++Ab .i64 (A.shape.drop axis) from by simp [Ab]];exact Am
theorem Abu (A:Al) (axis:Nat) (h2:A.shape=[]) :
 Ae Tryz.prog 118 [.agg (Ao A),.sl 1 (Ab .i64 []),.lit (.int .i64 1),.lit (.int .i64 axis)] (.tup [.agg (WJ [1] A.cells true),.lit (.bool true)]):=by
 have ls:=Ac .i64 A.shape;rw [h2] at ls;refine Aa DD fun C hC => ?_;unfold Ao;rw [h2];refine Af ?_;exact Am
theorem Adk (A:Al) (other:List Int) (axes axis:Nat) (h6:axes≤6) (h2:A.shape=[]) (h3:other.length=axes) (hx:axis<axes) :
 Ae Tryz.prog 118 [.agg (Ao A),.sl 1 (Ab .i64 other),.lit (.int .i64 axes),.lit (.int .i64 axis)] (.tup [.agg (WJ (other.set axis 1) A.cells true),.lit (.bool true)]):=by
 have ls:(((Ab .i64 []).length:Nat):Int)=0:=rfl;have lo:=Ac .i64 other;obtain ⟨z,hz⟩:∃ z,other[axis]? = some z:=⟨_,List.getElem?_eq_getElem (by omega)⟩;have hzk:([]++Ab .i64 other)[((axis:Nat):Int).toNat]? = some [.lit (.int .i64 z)]:=Az (k:=.i64) hz;have hset:=Bu .i64 other axis 1;have hb:(0+(Ab .i64 other).length) * 8≤140737488355328:=by omega
 refine Aa DD fun C hC => ?_;unfold Ao;rw [h2];refine Af ?_;unfold WJ;rw [← hset];exact Am
def PK (s:List Int) (cs:List Ah) (al:Bool) (t:List Int) (ds:List Ah) (bl:Bool) (x:Nat):List AV:=[.sl 1 (Ab .i64 s),.sl 7 (cs.map Av),.lit (.bool al),.sl 1 (Ab .i64 t),.sl 7 (ds.map Av),.lit (.bool bl),.lit (.int .i64 (x:Nat))]
def IM (A B:Al):Nat:=max (max A.shape.length B.shape.length) 1
def FU (A B:Al) (first:Bool):Nat:=if first then 0 else IM A B - 1
theorem AeA (A B:Al) (hl:A.shape.length≤6) (hm:B.shape.length≤6) (n x:Nat) (hn:n=IM A B) (hx:x<n) :
 (∀ s al,JR A.shape B.shape n x=some (s,al)→Ae Tryz.prog 118 [.agg (Ao A),.sl 1 (Ab .i64 B.shape),.lit (.int .i64 n),.lit (.int .i64 x)] (.tup [.agg (WJ s A.cells al),.lit (.bool true)])) ∧
  (JR A.shape B.shape n x=none→Ae Tryz.prog 118 [.agg (Ao A),.sl 1 (Ab .i64 B.shape),.lit (.int .i64 n),.lit (.int .i64 x)] (.tup [.agg [.sl 1 [],.sl 7 [],.lit (.bool false)],.lit (.bool false)])):=by
 have hn1:A.shape.length≤n∧B.shape.length≤n∧1≤n∧n≤6∧(A.shape.length=0→B.shape.length=0→n=1)∧(A.shape.length=0→B.shape.length≠0→n=B.shape.length):=by unfold IM at hn; omega
 unfold JR;by_cases h1:A.shape.length=n
 ·rw [if_pos h1]
  refine ⟨fun s al h => ?_,fun h=>by cases h⟩;simp only [Option.some.injEq,Prod.mk.injEq] at h;obtain ⟨rfl,rfl⟩:=h;exact Adh A B.shape n x hl h1
 ·rw [if_neg h1]
  by_cases h2:A.shape=[]
  ·rw [if_pos h2]
   have hA0:A.shape.length=0:=by rw [h2]; rfl
   by_cases h3:B.shape=[]
   ·rw [if_pos h3]
    refine ⟨fun s al h => ?_,fun h=>by cases h⟩;simp only [Option.some.injEq,Prod.mk.injEq] at h;obtain ⟨rfl,rfl⟩:=h;have e:n=1:=hn1.2.2.2.2.1 hA0 (by rw [h3]; rfl);rw [h3,e];exact Abu A x h2
   ·rw [if_neg h3]
    refine ⟨fun s al h => ?_,fun h=>by cases h⟩;simp only [Option.some.injEq,Prod.mk.injEq] at h;obtain ⟨rfl,rfl⟩:=h;have e:n=B.shape.length:=hn1.2.2.2.2.2 hA0 (fun h=>h3 (List.eq_nil_of_length_eq_zero h));exact Adk A B.shape n x (by omega) h2 e.symm hx
  ·rw [if_neg h2]
   have h2':A.shape.length≠0:=fun h=>h2 (List.eq_nil_of_length_eq_zero h);by_cases h3:A.shape.length+1=n
   ·rw [if_pos h3]
    refine ⟨fun s al h => ?_,fun h=>by cases h⟩;simp only [Option.some.injEq,Prod.mk.injEq] at h;obtain ⟨rfl,rfl⟩:=h;exact Adj A B.shape n x hl (by omega) h2' h3 hx
   ·rw [if_neg h3]
    exact ⟨fun s al h=>(by cases h),fun _=>Adi A B.shape n x hl (by omega) h1 h2' h3⟩
theorem Abv (A B:Al):IM A B=IM B A:=by unfold IM; omega
def Ah4:AV:=.agg [.sl 1 [],.sl 7 [],.lit (.bool false),.sl 1 [],.sl 7 [],.lit (.bool false),.lit (.int .i64 0)]
theorem Am7 (A B:Al) (first:Bool) (hl:A.shape.length≤6) (hm:B.shape.length≤6) :
 Ae Tryz.prog 54 [.agg (Ao A),.agg (Ao B),.lit (.bool first)] (match JR A.shape B.shape (IM A B) (FU A B first),JR B.shape A.shape (IM A B) (FU A B first) with
  | some (s,al),some (t,bl)=>.tup [.agg (PK s A.cells al t B.cells bl (FU A B first)),.lit (.int .i64 0)]
  | _,_=>.tup [Ah4,.lit (.int .i64 5)]):=by
 have ls:=Ac .i64 A.shape;have lt:=Ac .i64 B.shape;have hx:FU A B first<IM A B:=by unfold FU IM; split<;>omega
 have w1:=AeA A B hl hm (IM A B) (FU A B first) rfl hx;have w2:=AeA B A hm hl (IM A B) (FU A B first) (Abv A B) hx;have hmx:max (max (A.shape.length:Int) (B.shape.length:Int)) 1=((IM A B:Nat):Int):=by unfold IM; omega
 have hax:IM A B≤6:=by unfold IM; omega
 have hpos:1≤IM A B:=by unfold IM; omega
 have key:∀ x:Nat,x=FU A B first→((x:Nat):Int)=if first then 0 else ((IM A B:Nat):Int) - 1:=fun x hx=>by
  rw [hx]; unfold FU; cases first
  ·simp; omega
  ·simp
 have hk:=key _ rfl;generalize IM A B=n at *;generalize FU A B first=x at *
 cases h1:JR A.shape B.shape n x with
 | none =>
   have c1:=w1.2 h1;rw [hk] at c1;refine Aa IA fun C hC => ?_;cases first
   ·simp only [Bool.false_eq_true,if_false] at c1
    refine Af ?_;exact Am
   ·simp only [if_true] at c1
    refine Af ?_;exact Am
 | some p =>
   obtain ⟨s,al⟩:=p;have c1:=w1.1 s al h1;cases h2:JR B.shape A.shape n x with
   | none =>
     have c2:=w2.2 h2;rw [hk] at c1 c2;refine Aa IA fun C hC => ?_;cases first
     ·simp only [Bool.false_eq_true,if_false] at c1 c2
      refine Af ?_;exact Am
     ·simp only [if_true] at c1 c2
      refine Af ?_;exact Am
   | some q =>
     obtain ⟨t,bl⟩:=q;have c2:=w2.1 t bl h2;refine Aa IA fun C hC => ?_;unfold PK;rw [hk] at c1 c2 ⊢;cases first
     ·simp only [Bool.false_eq_true,if_false] at c1 c2 ⊢
      refine Af ?_;exact Am
     ·simp only [if_true] at c1 c2 ⊢
      refine Af ?_;exact Am
theorem AfT (s:List Int) (cs:List Ah) (es:List (List AV)) (i n:Nat) (c:Ah) (hc:cs[0]? = some c) (hn:n≤1000000000) (he:es.length≤100000000000) (hi:i≤1000000000) :
 Dn Tryz.prog 120 [.agg (WJ s cs true),.own 0,.lit (.int .i64 i),.lit (.int .i64 n)] [(0,some ⟨true,false,43,7,es⟩)] 1 (.own 1) [(1,some ⟨true,false,43,7,es++(MT true cs i n).map Av⟩),(0,none)] 2:=by
 have e:(MT true cs i n).map Av=List.replicate n (Au c):=by
  unfold MT;rw [if_pos rfl,List.map_replicate,List.getD_eq_getElem?_getD,hc];simp [Bv]
 rw [e];have hcv:(cs.map Av)[(0:Int).toNat]? = some (Au c):=A9 hc
 have hcl:0<((cs.map Av).length:Int):=by
  have:=(List.getElem?_eq_some_iff.1 hc).1
  simp; omega
 refine BK GB fun C hC => ?_;refine Af ?_;refine PE 1 0 rfl rfl rfl rfl ?_;refine Ai [4,25] [0,1] (fun k:Nat=>[(1,.own 2),(26,.lit (.int .i64 k))]) (fun k=>[(2,some ⟨true,false,43,7,es++List.replicate k (Au c)⟩)]) 3 (fun k=>k≤n) (fun k=>n - k) 0 (Nat.zero_le _) ?_ (hh:=by rw [List.replicate_zero,List.append_nil]; rfl);rintro k hk;dsimp only [List.cons_append,List.nil_append];have hlr:(es++List.replicate k (Au c)).length=es.length+k:=by simp
 have hrs:(es++List.replicate k (Au c))++[Au c]=es++List.replicate (k+1) (Au c):=by rw [List.append_assoc,List.replicate_succ']
 by_cases hkn:k<n
 ·generalize es++List.replicate k (Au c)=Y at hlr hrs ⊢
  refine Af ?_;refine ⟨k+1,by omega,by omega,BI hC.m [(2,4)] ?_⟩;rw [← hrs];rfl
 ·have h0:n=k:=by omega
  subst h0;refine Af ?_;exact BZ [(1,2)]
theorem AfU (s:List Int) (cs:List Ah) (es:List (List AV)) (i n:Nat) (hn:n≤1000000000) (he:es.length≤100000000000) (hi:i≤1000000000) (h:i * n+n≤cs.length) (hcb:cs.length≤1000000000) :
 Dn Tryz.prog 120 [.agg (WJ s cs false),.own 0,.lit (.int .i64 i),.lit (.int .i64 n)] [(0,some ⟨true,false,43,7,es⟩)] 1 (.own 1) [(1,some ⟨true,false,43,7,es++(MT false cs i n).map Av⟩),(0,none)] 2:=by
 unfold MT;rw [if_neg (by simp)];have hk:=Cut.map (f:=Av) (s:=cs) (a:=i * n) (b:=i * n+n) (by omega) h;rw [Nat.add_sub_cancel_left] at hk;generalize hY:((cs.drop (i * n)).take n).map Av=Y at hk ⊢;have hYl:Y.length≤n:=by rw [← hY]; simp; omega
 have hb:(es.length+Y.length) * 104≤140737488355328:=by omega
 have hm : -9223372036854775808≤(i:Int) * n∧(i:Int) * n≤9223372036854775807:=by rw [← Int.natCast_mul]; omega
 have hm2 : -9223372036854775808≤(i:Int) * n+n∧(i:Int) * n+n≤9223372036854775807:=by rw [← Int.natCast_mul]; omega
 refine BK GB fun C hC => ?_;refine Af ?_;exact BZ [(1,2)]
theorem Alw (s:List Int) (cs:List Ah) (es:List (List AV)) (al:Bool) (i n:Nat) (hn:n≤1000000000) (he:es.length≤100000000000) (hi:i≤1000000000) (h:al=false→i * n+n≤cs.length) (h':al=true→0<cs.length) (hcb:cs.length≤1000000000) :
 Dn Tryz.prog 120 [.agg (WJ s cs al),.own 0,.lit (.int .i64 i),.lit (.int .i64 n)] [(0,some ⟨true,false,43,7,es⟩)] 1 (.own 1) [(1,some ⟨true,false,43,7,es++(MT al cs i n).map Av⟩),(0,none)] 2:=by
 cases al
 ·exact AfU s cs es i n hn he hi (h rfl) hcb
 ·exact AfT s cs es i n _ (List.getElem?_eq_getElem (h' rfl)) hn he hi
theorem Ah5 (al:Bool) (cs:List Ah) (i n:Nat):(MT al cs i n).length≤n:=by
 unfold MT; split<;>simp<;>omega
theorem Akt (s t u:List Int) (cs ds:List Ah) (al bl:Bool) (x n1 n2 A B:Nat) (hs:s[x]? = some (n1:Int)) (ht:t[x]? = some (n2:Int)) (hu:(Co u).2=0) (hz:u[x]? = some ((n1+n2:Nat):Int))
 (hA:Bm (u.take x) 1=A) (hB:Bm (u.drop (x+1)) 1=B) (bA:A≤2048) (bB:B≤2048) (b1:n1≤2048) (b2:n2≤2048) (hc:al=true→0<cs.length) (hd:bl=true→0<ds.length) (hc2:al=false→A * (n1 * B)≤cs.length) (hd2:bl=false→A * (n2 * B)≤ds.length)
 (hcb:cs.length≤1000000000) (hdb:ds.length≤1000000000) :
 Ae Tryz.prog 56 [.agg (PK s cs al t ds bl x),.sl 1 (Ab .i64 u)] (.sl 7 ((IE (n1 * B) (n2 * B) al cs bl ds (A * (n1 * B+n2 * B))).map Av)):=by
 have ls:=Ac .i64 s;have lt:=Ac .i64 t;have c3:=N9 u x _ hu hz;rw [hA,hB] at c3;have hsx:(Ab .i64 s)[((x:Nat):Int).toNat]? = some [.lit (.int .i64 (n1:Int))]:=Az hs;have htx:(Ab .i64 t)[((x:Nat):Int).toNat]? = some [.lit (.int .i64 (n2:Int))]:=Az ht;have lsx:=(List.getElem?_eq_some_iff.1 hs).1;have ltx:=(List.getElem?_eq_some_iff.1 ht).1;have m1:n1 * B≤2048 * 2048:=Nat.mul_le_mul b1 bB;have m2:n2 * B≤2048 * 2048:=Nat.mul_le_mul b2 bB;have e1:(n1:Int) * B=((n1 * B:Nat):Int):=by simp
 have e2:(n2:Int) * B=((n2 * B:Nat):Int):=by simp
 have hm1 : -9223372036854775808≤(n1:Int) * B∧(n1:Int) * B≤9223372036854775807:=by rw [e1]; omega
 have hm2 : -9223372036854775808≤(n2:Int) * B∧(n2:Int) * B≤9223372036854775807:=by rw [e2]; omega
 have m3:A * (n1 * B+n2 * B)≤2048 * (2048 * 2048+2048 * 2048):=Nat.mul_le_mul bA (by omega);have e3:(A:Int) * ((n1:Int) * B+(n2:Int) * B)=((A * (n1 * B+n2 * B):Nat):Int):=by simp
 have hm3 : -9223372036854775808≤(A:Int) * ((n1:Int) * B+(n2:Int) * B)∧(A:Int) * ((n1:Int) * B+(n2:Int) * B)≤9223372036854775807:=by rw [e3]; omega
 have hbm:((104:Nat):Int) * ((A:Int) * ((n1:Int) * B+(n2:Int) * B))≤281474976710656:=by rw [e3]; omega
 have h0m:0≤(A:Int) * ((n1:Int) * B+(n2:Int) * B):=by rw [e3]; omega
 refine Aa Lu fun C hC => ?_;unfold PK;refine Af ?_;refine Eu 9 (.lit (.int .i64 ((n1 * B:Nat):Int))) (by show AV.lit (.int .i64 ((n1:Int) * B))=_; rw [e1]) ?_;refine Eu 10 (.lit (.int .i64 ((n2 * B:Nat):Int))) (by show AV.lit (.int .i64 ((n2:Int) * B))=_; rw [e2]) ?_;generalize hN1:n1 * B=N1 at *;generalize hN2:n2 * B=N2 at *;refine Ai [2,46,9,10] [0] (fun i:Nat=>[(11,.own 1),(47,.lit (.int .i64 i))]) (fun i=>[(1,some ⟨true,false,43,7,(IE N1 N2 al cs bl ds (i * (N1+N2))).map Av⟩)]) 2 (fun i=>i≤A) (fun i=>A - i) 0 (Nat.zero_le _) ?_ (hh:=by rw [Nat.zero_mul]; rfl);rintro i hi;dsimp only [List.cons_append,List.nil_append];by_cases hil:i<A
 ·have hi1:al=false→i * N1+N1≤cs.length:=fun h=>by
   have h1:=hc2 h;have h2:(i+1) * N1≤A * N1:=Nat.mul_le_mul_right _ hil;rw [Nat.add_mul,Nat.one_mul] at h2;omega
  have hi2:bl=false→i * N2+N2≤ds.length:=fun h=>by
   have h1:=hd2 h;have h2:(i+1) * N2≤A * N2:=Nat.mul_le_mul_right _ hil;rw [Nat.add_mul,Nat.one_mul] at h2;omega
  have hst:=Xl N1 N2 al cs bl ds i hi1 hi2
  have hcl:((IE N1 N2 al cs bl ds (i * (N1+N2))).map Av).length≤100000000000:=by
   rw [List.length_map,PI]
   have:i * (N1+N2)≤2048 * (N1+N2):=Nat.mul_le_mul_right _ (by omega)
   omega
  generalize hX:IE N1 N2 al cs bl ds (i * (N1+N2))=X at hst hcl ⊢;have r1:=Alw s cs (X.map Av) al i N1 (by omega) hcl (by omega) hi1 hc hcb;have hl1:=Ah5 al cs i N1;generalize hY:MT al cs i N1=Y at r1 hst hl1
  have hcl2:(X.map Av).length≤90000000000:=by
   rw [← hX,List.length_map,PI]
   have:i * (N1+N2)≤2048 * (N1+N2):=Nat.mul_le_mul_right _ (by omega)
   omega
  have r2:=Alw t ds (X.map Av++Y.map Av) bl i N2 (by omega) (by rw [List.length_append]; simp only [List.length_map] at hcl2 ⊢; omega) (by omega) hi2 hd hdb;generalize hZ:MT bl ds i N2=Z at r2 hst;refine Af ?_;refine AH (BP ?_);refine Cw [(1,0)] r1 ?_;refine BP ?_;refine Ak ⟨rfl,?_⟩;refine Af ?_;refine AH (BP ?_);refine Cw [(2,0)] r2 ?_;refine BP ?_;refine Ak ⟨rfl,?_⟩;refine Af ?_;refine ⟨i+1,by omega,by omega,BI hC.m [(1,3)] ?_⟩;rw [← hst,List.map_append,List.map_append];rfl
 ·have:i=A:=by omega
  subst this;refine Af ?_;exact Am
end Go.Proofs.YtjcolpcfcdkckaaGreat
