/- The number that cells have that are the same: find.mix, find.mark. -/
import Derived.Test.YtjcolpcfcdkckaaGreatK08
set_option maxRecDepth 10000
set_option maxHeartbeats 4000000
namespace Go.Proofs.YtjcolpcfcdkckaaGreat
set_option linter.unusedVariables false
open Go.RowKit
def wU (z:Int):Int:=IntKind.u64.wrap z
theorem Al3 (z:Int):0≤wU z∧wU z<18446744073709551616:=by
 have h:wU z=z % 18446744073709551616:=rfl;omega
def WI (a b:Int):Int:=wU (BitVec.ofInt 64 a ^^^ BitVec.ofInt 64 b).toNat
def F7 (k n:Int):Int:=WI (wU (WI k n * 11400714819323198485)) (wU (WI k n * 11400714819323198485) / 536870912)
theorem Ly (k n:Int):0≤F7 k n∧F7 k n<18446744073709551616:=Al3 _
theorem Xn (k n:Int):Ae Tryz.prog 177 [.lit (.int .u64 k),.lit (.int .u64 n)] (.lit (.int .u64 (F7 k n))):=by
 have h1:BQ .xor .u64 k n=some (.int .u64 (WI k n)):=rfl;have h2:BQ .mul .u64 (WI k n) 11400714819323198485=some (.int .u64 (wU (WI k n * 11400714819323198485))):=rfl;have h3:(2:Int) ^ (min (29:Int).toNat IntKind.u64.bits)=536870912:=rfl;have h4:BQ .xor .u64 (wU (WI k n * 11400714819323198485)) (wU (WI k n * 11400714819323198485) / 536870912)=some (.int .u64 (F7 k n)):=rfl;generalize F7 k n=r at h4 ⊢;generalize wU (WI k n * 11400714819323198485)=y at h2 h4;generalize WI k n=x at h1 h2;refine Aa Ww fun C hC => ?_;refine Aj ?_;exact Am
def HO (k:Int):List Int→Int
 | []=>k
 | z::zs=>HO (F7 k (wU z)) zs
theorem Y3 {zs:List Int} {j:Nat} {z:Int} (h:zs[j]? = some z) (k:Int):HO k (zs.drop j)=HO (F7 k (wU z)) (zs.drop (j+1)):=by
 rw [AU h,HO]
def U0 (k kd ch:Int) (neg:Bool):Int:=if neg then F7 (F7 (F7 k (wU kd)) (wU ch)) 1 else F7 (F7 k (wU kd)) (wU ch)
mutual
def Xo (k:Int):Al→Int
 | .mk _ sh cs=>FJ (HO k sh) cs
def FJ (k:Int):List Ah→Int
 | []=>k
 | c::cs=>FJ (Ew k c) cs
def Ew (k:Int):Ah→Int
 | .mk _ kd n ch ins=>FK (HO (HO (U0 k kd ch n.neg) n.top) n.bot) ins
def FK (k:Int):List Al→Int
 | []=>k
 | a::xs=>FK (Xo k a) xs
end
theorem Ah2 (k:Int) (A:Al):Xo k A=FJ (HO k A.shape) A.cells:=by cases A; rw [Xo]; rfl
theorem Ah3 (k:Int) (c:Ah):Ew k c=FK (HO (HO (U0 k c.kind c.c c.n.neg) c.n.top) c.n.bot) c.ins:=by cases c; rw [Ew]; rfl
theorem AfQ {cs:List Ah} {j:Nat} {c:Ah} (h:cs[j]? = some c) (k:Int):FJ k (cs.drop j)=FJ (Ew k c) (cs.drop (j+1)):=by
 rw [AU h,FJ]
theorem AfR {xs:List Al} {j:Nat} {a:Al} (h:xs[j]? = some a) (k:Int):FK k (xs.drop j)=FK (FJ (HO k a.shape) a.cells) (xs.drop (j+1)):=by
 rw [AU h,FK,Ah2]
theorem Hw:∀ (zs:List Int) (k:Int),0≤k∧k<18446744073709551616→0≤HO k zs∧HO k zs<18446744073709551616
 | [],k,h=>h
 | z::zs,k,h=>Hw zs _ (Ly _ _)
theorem Xp (k kd ch:Int) (g:Bool):0≤U0 k kd ch g∧U0 k kd ch g<18446744073709551616:=by
 unfold U0; split<;>exact Ly _ _
mutual
theorem AfS:∀ (A:Al) (k:Int),0≤k∧k<18446744073709551616→0≤Xo k A∧Xo k A<18446744073709551616
 | .mk s sh cs,k,h=>by rw [Xo]; exact U1 cs _ (Hw sh k h)
theorem U1:∀ (cs:List Ah) (k:Int),0≤k∧k<18446744073709551616→0≤FJ k cs∧FJ k cs<18446744073709551616
 | [],k,h=>by rw [FJ]; exact h
 | c::cs,k,h=>by rw [FJ]; exact U1 cs _ (LY c k h)
theorem LY:∀ (c:Ah) (k:Int),0≤k∧k<18446744073709551616→0≤Ew k c∧Ew k c<18446744073709551616
 | .mk l kd n ch ins,k,h=>by rw [Ew]; exact U3 ins _ (Hw _ _ (Hw _ _ (Xp ..)))
theorem U3:∀ (xs:List Al) (k:Int),0≤k∧k<18446744073709551616→0≤FK k xs∧FK k xs<18446744073709551616
 | [],k,h=>by rw [FK]; exact h
 | a::xs,k,h=>by rw [FK]; exact U3 xs _ (AfS a k h)
end
theorem Adf:∀ (c:Ah) (k:Int),okC c→0≤k∧k<18446744073709551616→Ae Tryz.prog 145 [.lit (.int .u64 k),.agg (Au c)] (.lit (.int .u64 (Ew k c)))
 | .mk l kd ⟨neg,top,bot⟩ ch ins,k,hc,hk=>by
   have hB:A2=1000000000:=rfl;obtain ⟨b1,b2,b3,b4,b5⟩:=hc.parts;dsimp only [Ah.l,Ah.n,Ah.ins] at b1 b2 b3 b4 b5;have ltop:=Ac .u32 top;have lbot:=Ac .u32 bot;have lin:((ins.map Dg).length:Int)=ins.length:=by simp
   have hE0:=Ah3 k (.mk l kd ⟨neg,top,bot⟩ ch ins);generalize Ew k (.mk l kd ⟨neg,top,bot⟩ ch ins)=R at hE0 ⊢;dsimp only [Ah.kind,Ah.c,Ah.n,Ah.ins] at hE0;have w1:IntKind.u64.wrap kd=wU kd:=rfl;have w2:IntKind.u64.wrap ch=wU ch:=rfl;have c1:=Xn k (wU kd);have c2:=Xn (F7 k (wU kd)) (wU ch);have c3:=Xn (F7 (F7 k (wU kd)) (wU ch)) 1;have hhd:U0 k kd ch neg=if neg then F7 (F7 (F7 k (wU kd)) (wU ch)) 1 else F7 (F7 k (wU kd)) (wU ch):=rfl
   have hr0:=Xp k kd ch neg;generalize U0 k kd ch neg=K1 at hhd hE0 hr0;obtain ⟨K2,hK2⟩:∃ K2,HO K1 top=K2:=⟨_,rfl⟩;obtain ⟨K3,hK3⟩:∃ K3,HO K2 bot=K3:=⟨_,rfl⟩;have hr3:0≤K3∧K3<18446744073709551616:=hK3 ▸ Hw _ _ (hK2 ▸ Hw _ _ hr0);rw [hK2,hK3] at hE0;generalize F7 (F7 k (wU kd)) (wU ch)=M2 at c2 c3 hhd;refine Aa UG fun C hC => ?_;rw [show Au (.mk l kd ⟨neg,top,bot⟩ ch ins)=[.lit (.int .u64 l),.lit (.int .i64 kd),.lit (.bool neg),.sl 1 (Ab .u32 top),.sl 1 (Ab .u32 bot),.lit (.int .i64 ch),.sl 3 (ins.map Dg)] from rfl];cases neg
   all_goals
    simp only [Bool.false_eq_true,if_true,if_false] at hhd
    first
     | (generalize F7 M2 1=M3 at c3 hhd; subst hhd)
     | subst hhd
    refine Aj ?_;clear c1 c2 c3 w1 w2
    refine Ai [3,31,32] [0] (fun p:Nat × Int=>[(0,.lit (.int .u64 p.2)),(33,.lit (.int .i64 p.1))]) (fun _=>[]) 1
     (fun p=>p.1≤top.length∧(0≤p.2∧p.2<18446744073709551616)∧K2=HO p.2 (top.drop p.1)) (fun p=>top.length - p.1) (0,_) ⟨Nat.zero_le _,hr0,hK2.symm⟩ ?_
    rintro ⟨j,q⟩ ⟨hj,hq,hE⟩;dsimp only [List.cons_append,List.nil_append] at hj hq hE ⊢;by_cases hlt:j<top.length
    ·obtain ⟨z,hz⟩:∃ z,top[j]? = some z:=⟨_,List.getElem?_eq_getElem hlt⟩
     have hzk:=Az (k:=.u32) hz;rw [Y3 hz] at hE;have w1:IntKind.u64.wrap z=wU z:=rfl;have c1:=Xn q (wU z);refine Aj ?_;exact ⟨(j+1,F7 q (wU z)),by simp only; omega,⟨by simp only; omega,Ly _ _,hE⟩,BI hC.m []⟩
    rw [List.drop_eq_nil_of_le (by omega),HO] at hE;subst hE;refine Aj ?_;clear hj hlt hK2
    refine Ai [3,44,45] [0] (fun p:Nat × Int=>[(0,.lit (.int .u64 p.2)),(46,.lit (.int .i64 p.1))]) (fun _=>[]) 1
     (fun p=>p.1≤bot.length∧(0≤p.2∧p.2<18446744073709551616)∧K3=HO p.2 (bot.drop p.1)) (fun p=>bot.length - p.1) (0,_) ⟨Nat.zero_le _,hq,hK3.symm⟩ ?_
    rintro ⟨j,q⟩ ⟨hj,hq,hE⟩;dsimp only [List.cons_append,List.nil_append] at hj hq hE ⊢;by_cases hlt:j<bot.length
    ·obtain ⟨z,hz⟩:∃ z,bot[j]? = some z:=⟨_,List.getElem?_eq_getElem hlt⟩
     have hzk:=Az (k:=.u32) hz;rw [Y3 hz] at hE;have w1:IntKind.u64.wrap z=wU z:=rfl;have c1:=Xn q (wU z);refine Aj ?_;exact ⟨(j+1,F7 q (wU z)),by simp only; omega,⟨by simp only; omega,Ly _ _,hE⟩,BI hC.m []⟩
    rw [List.drop_eq_nil_of_le (by omega),HO] at hE;subst hE;refine Aj ?_;clear hj hlt hK3
    refine Ai [3,56,57] [0] (fun p:Nat × Int=>[(0,.lit (.int .u64 p.2)),(58,.lit (.int .i64 p.1))]) (fun _=>[]) 1
     (fun p=>p.1≤ins.length∧(0≤p.2∧p.2<18446744073709551616)∧R=FK p.2 (ins.drop p.1)) (fun p=>ins.length - p.1) (0,_) ⟨Nat.zero_le _,hr3,hE0⟩ ?_
    rintro ⟨j,q⟩ ⟨hj,hq,hE⟩;dsimp only [List.cons_append,List.nil_append] at hj hq hE ⊢;by_cases hlt:j<ins.length
    ·obtain ⟨a,ha⟩:∃ a,ins[j]? = some a:=⟨_,List.getElem?_eq_getElem hlt⟩
     have hak:=CY ha;have ham:=List.mem_of_getElem? ha;have haok:=I3.1 b5 a ham;obtain ⟨a1,a2,a3,a4⟩:=haok.parts;have hts:=Hq ham;rw [AfR ha] at hE;have lsh:=Ac .i64 a.shape;have lcs:=AK a;have hsa:=Al.size a;obtain ⟨K4,hK4⟩:∃ K4,HO q a.shape=K4:=⟨_,rfl⟩;have hr4:0≤K4∧K4<18446744073709551616:=hK4 ▸ Hw _ _ hq;rw [hK4] at hE;refine Aj ?_
     refine Ai [3,56,57,58,10,63,64] [0,1] (fun p:Nat × Int=>[(0,.lit (.int .u64 p.2)),(65,.lit (.int .i64 p.1))]) (fun _=>[]) 2
      (fun p=>p.1≤a.shape.length∧(0≤p.2∧p.2<18446744073709551616)∧K4=HO p.2 (a.shape.drop p.1)) (fun p=>a.shape.length - p.1) (0,_) ⟨Nat.zero_le _,hq,hK4.symm⟩ ?_
     rintro ⟨i,r⟩ ⟨hi,hr,hF⟩;dsimp only [List.cons_append,List.nil_append] at hi hr hF ⊢;by_cases hlt2:i<a.shape.length
     ·obtain ⟨z,hz⟩:∃ z,a.shape[i]? = some z:=⟨_,List.getElem?_eq_getElem hlt2⟩
      have hzk:=Az (k:=.i64) hz;rw [Y3 hz] at hF;have w1:IntKind.u64.wrap z=wU z:=rfl;have c1:=Xn r (wU z);refine Aj ?_;exact ⟨(i+1,F7 r (wU z)),by simp only; omega,⟨by simp only; omega,Ly _ _,hF⟩,BI hC.m []⟩
     rw [List.drop_eq_nil_of_le (by omega),HO] at hF;subst hF;refine Aj ?_;clear hi hlt2 hK4
     refine Ai [3,56,57,58,75,76] [0] (fun p:Nat × Int=>[(0,.lit (.int .u64 p.2)),(77,.lit (.int .i64 p.1))]) (fun _=>[]) 2
      (fun p=>p.1≤a.cells.length∧(0≤p.2∧p.2<18446744073709551616)∧R=FK (FJ p.2 (a.cells.drop p.1)) (ins.drop (j+1))) (fun p=>a.cells.length - p.1) (0,_) ⟨Nat.zero_le _,hr4,hE⟩ ?_
     rintro ⟨i,r⟩ ⟨hi,hr,hF⟩;dsimp only [List.cons_append,List.nil_append] at hi hr hF ⊢;by_cases hlt2:i<a.cells.length
     ·obtain ⟨d,hd⟩:∃ d,a.cells[i]? = some d:=⟨_,List.getElem?_eq_getElem hlt2⟩
      have hdk:=A9 hd;have hdm:=List.mem_of_getElem? hd;have hdo:=Es.1 a4 d hdm;rw [AfQ hd] at hF;have ht:SizeOf.sizeOf d<SizeOf.sizeOf ins:=Nat.lt_trans (FI hdm) (Nat.lt_trans hsa hts);have c1:=Adf d r hdo hr;refine Aj ?_;exact ⟨(i+1,Ew r d),by simp only; omega,⟨by simp only; omega,LY _ _ hr,hF⟩,BI hC.m []⟩
     rw [List.drop_eq_nil_of_le (by omega),FJ] at hF;refine Aj ?_;exact ⟨(j+1,r),by simp only; omega,⟨by simp only; omega,hr,hF⟩,BI hC.m []⟩
    rw [List.drop_eq_nil_of_le (by omega),FK] at hE;subst hE;refine Aj ?_;exact Am
 termination_by c=>SizeOf.sizeOf c
 decreasing_by all_goals (simp only [Ah.mk.sizeOf_spec]; omega)
theorem C3 (a b:Nat) (ha:a<18446744073709551616) (hb:b<18446744073709551616) {x:Bool} (h:Aw a b=x):Ae Tryz.prog 11 [CG a,CG b] (.lit (.bool x)):=h ▸ Ahu a b ha hb
theorem Abt (xs ys:List Int) {x:Bool} (h:B5 xs ys=x):Ae Tryz.prog 12 [.sl 1 (Ab .i64 xs),.sl 1 (Ab .i64 ys)] (.lit (.bool x)):=h ▸ Ahg xs ys
theorem Aez (m n:Fx) {x:Bool} (h:Ix m n=x):Ae Tryz.prog 45 [.agg (AY m),.agg (AY n)] (.lit (.bool x)):=h ▸ AcP m n
theorem LZ (o:Nat) (A B:Al):AJ o A B=if Aw A.s o=true∧Aw B.s o=true then (A.s == B.s) && (B5 A.shape B.shape && Ay o A.cells B.cells) else Aw A.s o == Aw B.s o:=by cases A; cases B; unfold AJ; rfl
theorem L0 (o:Nat) (c d:Ah):BN o c d=if Aw c.l o=true∧Aw d.l o=true then (c.l == d.l) && ((c.kind == d.kind) && ((c.c == d.c) && (Ix c.n d.n && Bq o c.ins d.ins))) else Aw c.l o == Aw d.l o:=by cases c; cases d; unfold BN; rfl
theorem Y4 (o:Nat) {cs ds:List Ah} {k:Nat} {c d:Ah} (hc:cs[k]? = some c) (hd:ds[k]? = some d):Ay o (cs.drop k) (ds.drop k)=(BN o c d && Ay o (cs.drop (k+1)) (ds.drop (k+1))):=by
 obtain ⟨h1,rfl⟩:=List.getElem?_eq_some_iff.1 hc;obtain ⟨h2,rfl⟩:=List.getElem?_eq_some_iff.1 hd;rw [List.drop_eq_getElem_cons h1,List.drop_eq_getElem_cons h2,Ay]
theorem Y5 (o:Nat) {cs ds:List Al} {k:Nat} {c d:Al} (hc:cs[k]? = some c) (hd:ds[k]? = some d):Bq o (cs.drop k) (ds.drop k)=(AJ o c d && Bq o (cs.drop (k+1)) (ds.drop (k+1))):=by
 obtain ⟨h1,rfl⟩:=List.getElem?_eq_some_iff.1 hc;obtain ⟨h2,rfl⟩:=List.getElem?_eq_some_iff.1 hd;rw [List.drop_eq_getElem_cons h1,List.drop_eq_getElem_cons h2,Bq]
mutual
theorem U4 (o:Nat) (ho:o<18446744073709551616):∀ (A B:Al),arrOK A→arrOK B→Ae Tryz.prog 5 [.agg (Ao A),.agg (Ao B),CG o] (.lit (.bool (AJ o A B)))
 | A,B,hA,hB=>by
   have hr:reachBytes=140737488351232:=rfl;have la:=AK A;have lb:=AK B;obtain ⟨a1,a2,a3,a4⟩:=hA.parts;obtain ⟨b1,b2,b3,b4⟩:=hB.parts;refine Aa Kk fun C hC => ?_;rw [LZ];cases f1:Aw A.s o
   ·have c1:=C3 A.s o a1 ho f1
    cases f2:Aw B.s o
    ·have c2:=C3 B.s o b1 ho f2
     refine Af ?_;exact ⟨_,_,rfl,rfl,Bl.refl _⟩
    ·have c2:=C3 B.s o b1 ho f2
     refine Af ?_;exact ⟨_,_,rfl,rfl,Bl.refl _⟩
   have c1:=C3 A.s o a1 ho f1;cases f2:Aw B.s o
   ·have c2:=C3 B.s o b1 ho f2
    refine Af ?_;exact ⟨_,_,rfl,rfl,Bl.refl _⟩
   have c2:=C3 B.s o b1 ho f2;rw [if_pos ⟨rfl,rfl⟩];by_cases h1:A.s=B.s
   ·rw [h1,beq_self_eq_true,Bool.true_and]
    cases h2:B5 A.shape B.shape
    ·have c3:=Abt A.shape B.shape h2
     refine Af ?_;exact ⟨_,_,rfl,rfl,Bl.refl _⟩
    have c3:=Abt A.shape B.shape h2;by_cases h3:A.cells.length=B.cells.length
    ·rw [Bool.true_and]
     refine Af ?_
     refine AaI [2,3,4,6] [0,1] (fun k:Nat=>[(7,.lit (.int .i64 k))]) (fun _=>[]) 2
      (fun k=>k≤A.cells.length∧Ay o A.cells B.cells=Ay o (A.cells.drop k) (B.cells.drop k)) (fun k=>A.cells.length - k) 0 rfl rfl (BI hC.m []) ⟨Nat.zero_le _,rfl⟩ ?_
     rintro k ⟨hk,hE⟩;by_cases hlt:k<A.cells.length
     ·obtain ⟨c,hc⟩:∃ c,A.cells[k]? = some c:=⟨_,List.getElem?_eq_getElem hlt⟩
      obtain ⟨d,hd⟩:∃ d,B.cells[k]? = some d:=⟨_,List.getElem?_eq_getElem (by omega)⟩;have hck:=A9 hc;have hdk:=A9 hd;have hcm:=List.mem_of_getElem? hc;have ht:SizeOf.sizeOf c<SizeOf.sizeOf A:=Nat.lt_trans (FI hcm) A.size;have c4:=Adg o ho c d (Bw.1 a4 c hcm) (Bw.1 b4 d (List.mem_of_getElem? hd));rw [Y4 o hc hd] at hE;cases h4:BN o c d
      ·rw [h4] at c4
       rw [h4,Bool.false_and] at hE;rw [hE];refine Af ?_;exact ⟨_,_,rfl,rfl,Bl.refl _⟩
      ·rw [h4] at c4
       rw [h4,Bool.true_and] at hE;refine Af ?_;exact ⟨k+1,by omega,⟨by omega,hE⟩,BI hC.m []⟩
     ·rw [List.drop_eq_nil_of_le (by omega),List.drop_eq_nil_of_le (by omega),Ay] at hE
      rw [hE];refine Af ?_;exact ⟨_,_,rfl,rfl,Bl.refl _⟩
    ·rw [RV _ _ _ h3,Bool.and_false]
     refine Af ?_;exact ⟨_,_,rfl,rfl,Bl.refl _⟩
   ·rw [Ck h1,Bool.false_and]
    refine Af ?_;exact ⟨_,_,rfl,rfl,Bl.refl _⟩
 termination_by A=>SizeOf.sizeOf A
theorem Adg (o:Nat) (ho:o<18446744073709551616):∀ (A B:Ah),cellOK A→cellOK B→Ae Tryz.prog 13 [.agg (Au A),.agg (Au B),CG o] (.lit (.bool (BN o A B)))
 | A,B,hA,hB=>by
   have hr:reachBytes=140737488351232:=rfl;have la:=E5 A;have lb:=E5 B;obtain ⟨a1,a2,a3,a4⟩:=hA.parts;obtain ⟨b1,b2,b3,b4⟩:=hB.parts;refine Aa Kl fun C hC => ?_;rw [L0];cases f1:Aw A.l o
   ·have c1:=C3 A.l o a1 ho f1
    cases f2:Aw B.l o
    ·have c2:=C3 B.l o b1 ho f2
     refine Af ?_;exact ⟨_,_,rfl,rfl,Bl.refl _⟩
    ·have c2:=C3 B.l o b1 ho f2
     refine Af ?_;exact ⟨_,_,rfl,rfl,Bl.refl _⟩
   have c1:=C3 A.l o a1 ho f1;cases f2:Aw B.l o
   ·have c2:=C3 B.l o b1 ho f2
    refine Af ?_;exact ⟨_,_,rfl,rfl,Bl.refl _⟩
   have c2:=C3 B.l o b1 ho f2;rw [if_pos ⟨rfl,rfl⟩];by_cases h1:A.l=B.l
   ·by_cases h5:A.kind=B.kind
    ·by_cases h6:A.c=B.c
     ·rw [h1,beq_self_eq_true,Bool.true_and,h5,beq_self_eq_true,Bool.true_and,h6,beq_self_eq_true,Bool.true_and]
      cases h2:Ix A.n B.n
      ·have c3:=Aez A.n B.n h2
       refine Af ?_;exact ⟨_,_,rfl,rfl,Bl.refl _⟩
      have c3:=Aez A.n B.n h2;by_cases h3:A.ins.length=B.ins.length
      ·rw [Bool.true_and]
       refine Af ?_
       refine AaI [2,3,4,6] [0,1] (fun k:Nat=>[(7,.lit (.int .i64 k))]) (fun _=>[]) 2
        (fun k=>k≤A.ins.length∧Bq o A.ins B.ins=Bq o (A.ins.drop k) (B.ins.drop k)) (fun k=>A.ins.length - k) 0 rfl rfl (BI hC.m []) ⟨Nat.zero_le _,rfl⟩ ?_
       rintro k ⟨hk,hE⟩;by_cases hlt:k<A.ins.length
       ·obtain ⟨c,hc⟩:∃ c,A.ins[k]? = some c:=⟨_,List.getElem?_eq_getElem hlt⟩
        obtain ⟨d,hd⟩:∃ d,B.ins[k]? = some d:=⟨_,List.getElem?_eq_getElem (by omega)⟩;have hck:=CY hc;have hdk:=CY hd;have hcm:=List.mem_of_getElem? hc;have ht:SizeOf.sizeOf c<SizeOf.sizeOf A:=Nat.lt_trans (Hq hcm) A.size;have c4:=U4 o ho c d (Du.1 a4 c hcm) (Du.1 b4 d (List.mem_of_getElem? hd));rw [Y5 o hc hd] at hE;cases h4:AJ o c d
        ·rw [h4] at c4
         rw [h4,Bool.false_and] at hE;rw [hE];refine Af ?_;exact ⟨_,_,rfl,rfl,Bl.refl _⟩
        ·rw [h4] at c4
         rw [h4,Bool.true_and] at hE;refine Af ?_;exact ⟨k+1,by omega,⟨by omega,hE⟩,BI hC.m []⟩
       ·rw [List.drop_eq_nil_of_le (by omega),List.drop_eq_nil_of_le (by omega),Bq] at hE
        rw [hE];refine Af ?_;exact ⟨_,_,rfl,rfl,Bl.refl _⟩
      ·rw [RW _ _ _ h3,Bool.and_false]
       refine Af ?_;exact ⟨_,_,rfl,rfl,Bl.refl _⟩
     ·rw [h1,h5,CO h6,beq_self_eq_true,beq_self_eq_true]
      refine Af ?_;exact ⟨_,_,rfl,rfl,Bl.refl _⟩
    ·rw [h1,CO h5,beq_self_eq_true]
     refine Af ?_;exact ⟨_,_,rfl,rfl,Bl.refl _⟩
   ·rw [Ck h1,Bool.false_and]
    refine Af ?_;exact ⟨_,_,rfl,rfl,Bl.refl _⟩
 termination_by A=>SizeOf.sizeOf A
end
theorem Da (A B:Al) (o:Nat) (ho:o<18446744073709551616) (hA:arrOK A) (hB:arrOK B) {b:Bool} (h:AJ o A B=b):Ae Tryz.prog 5 [.agg (Ao A),.agg (Ao B),CG o] (.lit (.bool b)):=h ▸ U4 o ho A B hA hB
end Go.Proofs.YtjcolpcfcdkckaaGreat
