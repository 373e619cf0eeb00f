/- Right, thin, good arrays: what the reference answers. -/
import Derived.Test.YtjcolpcfcdkckaaGreatK09
import Derived.Test.YtjcolpcfcdkckaaGreatK11
set_option maxHeartbeats 4000000
namespace Go.Proofs.YtjcolpcfcdkckaaGreat
set_option linter.unusedVariables false
open Go.RowKit
mutual
theorem Aev:∀ (d:Nat) (A:Al) (q:Int),q=d→d≤100→arrOK A→Ae Tryz.prog 41 [.agg (Ao A),.lit (.int .i64 q)] (.lit (.bool (Cl d A)))
 | d,A,q,hq,hd,hA=>by
   have hr:reachBytes=140737488351232:=rfl;have lcs:=AK A;obtain ⟨a1,a2,a3,a4⟩:=hA.parts;have c1:=AhE A.shape;refine Aa Ku fun C hC => ?_;rw [Rg];generalize QY A.shape=R at c1 ⊢;obtain ⟨n,e⟩:=R;simp only at c1 ⊢;by_cases h1:e=0
   ·subst h1
    rw [beq_self_eq_true,Bool.true_and];by_cases h2:n=A.cells.length
    ·subst h2
     rw [beq_self_eq_true,Bool.true_and];refine Af ?_;refine Ai [1,2,4,5] [0] (fun k:Nat=>[(7,.lit (.int .i64 k))]) (fun _=>[]) 1 (fun k=>k≤A.cells.length∧Ee d A.cells=Ee d (A.cells.drop k)) (fun k=>A.cells.length - k) 0 ⟨Nat.zero_le _,rfl⟩ ?_;rintro k ⟨hk,hE⟩;dsimp only [List.cons_append,List.nil_append];by_cases hlt:k<A.cells.length
     ·obtain ⟨c,hc⟩:∃ c,A.cells[k]? = some c:=⟨_,List.getElem?_eq_getElem hlt⟩
      have hck:=A9 hc;have hcm:=List.mem_of_getElem? hc;have hcok:=Bw.1 a4 c hcm;rw [Ac3 hc] at hE;have ht:SizeOf.sizeOf c<SizeOf.sizeOf A:=Nat.lt_trans (FI hcm) A.size;have c2:=Abq d c q hq hd hcok;cases h4:Gq d c
      ·rw [h4] at c2
       rw [h4,Bool.false_and] at hE;rw [hE];refine Af ?_;exact Am
      ·rw [h4] at c2
       rw [h4,Bool.true_and] at hE;refine Af ?_;exact ⟨k+1,by omega,⟨by omega,hE⟩,BI hC.m []⟩
     ·rw [List.drop_eq_nil_of_le (by omega),Ee] at hE
      rw [hE];refine Af ?_;exact Am
    ·rw [CO h2,Bool.false_and]
     refine Af ?_;exact Am
   ·rw [CO h1,Bool.false_and]
    refine Af ?_;exact Am
 termination_by _ A=>SizeOf.sizeOf A
theorem Abq:∀ (d:Nat) (A:Ah) (q:Int),q=d→d≤100→cellOK A→Ae Tryz.prog 105 [.agg (Au A),.lit (.int .i64 q)] (.lit (.bool (Gq d A)))
 | d,A,q,hq,hd,hA=>by
   have hr:reachBytes=140737488351232:=rfl;have lin:=E5 A;obtain ⟨a1,a2,a3,a4⟩:=hA.parts;have c1:=AhP A.n a2;have c2:=AlV A.n;have c3:=Am5 A.c;refine Aa K5 fun C hC => ?_;rw [Xh];by_cases k0:A.kind=0
   ·rw [if_pos k0]
    by_cases h1:A.c=0
    ·rw [h1] at c3 ⊢
     rw [beq_self_eq_true,Bool.true_and];by_cases h2:A.ins.length=0
     ·rw [h2,beq_self_eq_true,Bool.true_and]
      refine Af ?_;exact Am
     ·rw [Ck h2,Bool.false_and]
      refine Af ?_;exact Am
    ·rw [CO h1,Bool.false_and]
     refine Af ?_;exact Am
   ·rw [if_neg k0]
    by_cases k1:A.kind=1
    ·rw [if_pos k1]
     cases h1:M9 A.n
     ·rw [h1] at c2
      rw [Bool.false_and];refine Af ?_;exact Am
     ·rw [h1] at c2
      rw [Bool.true_and];by_cases h2:A.ins.length=0
      ·rw [h2,beq_self_eq_true,Bool.true_and]
       refine Af ?_;exact Am
      ·rw [Ck h2,Bool.false_and]
       refine Af ?_;exact Am
    ·rw [if_neg k1]
     by_cases k2:A.kind=2
     ·rw [show (A.kind == 2)=true from by simpa using k2,Bool.true_and]
      cases h1:M9 A.n
      ·rw [h1] at c2
       rw [Bool.false_and];refine Af ?_;exact Am
      rw [h1] at c2;rw [Bool.true_and];by_cases h3:A.c=0
      ·rw [h3,beq_self_eq_true,Bool.true_and]
       by_cases h2:A.ins.length=1
       ·rw [h2,beq_self_eq_true,Bool.true_and]
        by_cases h4:0<d
        ·rw [decide_eq_true h4,Bool.true_and]
         obtain ⟨x,hx⟩:∃ x,A.ins[0]? = some x:=⟨_,List.getElem?_eq_getElem (by omega)⟩;have hxk:=CY hx;have hxm:=List.mem_of_getElem? hx;have hxok:=Du.1 a4 x hxm
         have e:Rf (d - 1) A.ins=(!PC x && Cl (d - 1) x):=by
          match hA:A.ins,hx with
          | y::r,hx=>simp at hx; subst hx; rw [Rf]
         rw [e];have ht:SizeOf.sizeOf x<SizeOf.sizeOf A:=Nat.lt_trans (Hq hxm) A.size;have c4:=AhG x;have c5:=Aev (d - 1) x (q - 1) (by omega) (by omega) hxok;cases h5:PC x
         ·rw [h5] at c4
          rw [Bool.not_false,Bool.true_and];refine Af ?_;exact Am
         ·rw [h5] at c4
          rw [Bool.not_true,Bool.false_and];refine Af ?_;exact Am
        ·rw [decide_eq_false h4,Bool.false_and]
         refine Af ?_;exact Am
       ·rw [Ck h2,Bool.false_and]
        refine Af ?_;exact Am
      ·rw [CO h3,Bool.false_and]
       refine Af ?_;exact Am
     ·rw [CO k2,Bool.false_and]
      refine Af ?_;exact Am
 termination_by _ A=>SizeOf.sizeOf A
end
def Lw:List Int→Int→Int
 | [],n=>n
 | z::zs,n=>if n≤100000 then Lw zs (if z > 0 then n * z else n) else n
mutual
def R5:Al→Bool
 | .mk _ sh cs=>decide (Lw sh 1≤100000) && Ht cs
def Ht:List Ah→Bool
 | []=>true
 | c::cs=>Aew c && Ht cs
def Aew:Ah→Bool
 | .mk _ _ _ _ ins=>Lx ins
def Lx:List Al→Bool
 | []=>true
 | a::xs=>R5 a && Lx xs
end
theorem AhR (A:Al):R5 A=(decide (Lw A.shape 1≤100000) && Ht A.cells):=by cases A; unfold R5; rfl
theorem AhS (c:Ah):Aew c=Lx c.ins:=by cases c; unfold Aew; rfl
theorem AfO {cs:List Ah} {k:Nat} {c:Ah} (h:cs[k]? = some c):Ht (cs.drop k)=(Aew c && Ht (cs.drop (k+1))):=by
 obtain ⟨hk,rfl⟩:=List.getElem?_eq_some_iff.1 h;rw [List.drop_eq_getElem_cons hk,Ht]
theorem AfP {cs:List Al} {k:Nat} {c:Al} (h:cs[k]? = some c):Lx (cs.drop k)=(R5 c && Lx (cs.drop (k+1))):=by
 obtain ⟨hk,rfl⟩:=List.getElem?_eq_some_iff.1 h;rw [List.drop_eq_getElem_cons hk,Lx]
theorem AhT {s:List Int} {k:Nat} {z:Int} (h:s[k]? = some z) (n:Int) (hn:n≤100000):Lw (s.drop k) n=Lw (s.drop (k+1)) (if z > 0 then n * z else n):=by
 rw [AU h,Lw,if_pos hn]
theorem EW {d:Nat} {A:Al} (h:Cl d A=true):(Co A.shape).2=0∧(Co A.shape).1=A.cells.length∧Ee d A.cells=true:=by
 rw [Rg,Aeo] at h;simp only [Bool.and_eq_true,beq_iff_eq] at h;exact h
theorem UY {d:Nat} {c:Ah} (h:Gq d c=true):∀ x ∈ c.ins,∃ e,e<d∧Cl e x=true:=by
 intro x hx;rw [Xh] at h;have hl:c.ins.length≠0:=by cases hi:c.ins<;>simp_all
 split at h
 ·simp only [Bool.and_eq_true,beq_iff_eq] at h; exact absurd h.2.1 hl
 ·split at h
  ·simp only [Bool.and_eq_true,beq_iff_eq] at h; exact absurd h.2.1 hl
  ·simp only [Bool.and_eq_true,beq_iff_eq,decide_eq_true_eq] at h
   obtain ⟨_,_,_,h1,h2,h3⟩:=h
   match hi:c.ins,h1,h3,hx with
   | [y],_,h3,hx =>
     simp only [List.mem_singleton] at hx;subst hx;rw [Rf] at h3;simp only [Bool.and_eq_true] at h3;exact ⟨d - 1,by omega,h3.2⟩
theorem AhU:∀ (A:Al) (d:Nat),Cl d A=true→arrOK A→Ae Tryz.prog 42 [.agg (Ao A)] (.lit (.bool (R5 A)))
 | A,d,hR,hA=>by
   have hr:reachBytes=140737488351232:=rfl;have lcs:=AK A;have lsh:=Ac .i64 A.shape;obtain ⟨a1,a2,a3,a4⟩:=hA.parts;obtain ⟨r1,r2,r3⟩:=EW hR;have hsm:=BG r1;have r3':=Dp.1 r3;refine Aa K8 fun C hC => ?_;rw [AhR];refine Af ?_
   refine Ai [1,2] [0] (fun p:Nat × Int=>[(3,.lit (.int .i64 p.2)),(4,.lit (.int .i64 p.1))]) (fun _=>[]) 1 (fun p=>p.1≤A.shape.length∧0≤p.2∧p.2≤204800000∧Lw A.shape 1=Lw (A.shape.drop p.1) p.2) (fun p=>A.shape.length - p.1) (0,1)
    ⟨Nat.zero_le _,by simp only; omega,by simp only; omega,rfl⟩ ?_
   rintro ⟨i,n⟩ ⟨hi,n0,n1,hS⟩;simp only at hi n0 n1 hS;dsimp only [List.cons_append,List.nil_append];by_cases hgo:i<A.shape.length∧n≤100000
   ·obtain ⟨g1,g2⟩:=hgo
    obtain ⟨z,hz⟩:∃ z,A.shape[i]? = some z:=⟨_,List.getElem?_eq_getElem g1⟩;have hzk:=Az (k:=.i64) hz;have hzr:=hsm z (List.mem_of_getElem? hz);rw [AhT hz n g2] at hS;by_cases hp:z > 0
    ·rw [if_pos hp] at hS
     have m0:0≤n * z:=Int.mul_nonneg n0 hzr.1;have m1:n * z≤100000 * 2048:=Int.mul_le_mul g2 hzr.2 hzr.1 (by omega);have hm : -9223372036854775808≤n * z∧n * z≤9223372036854775807:=by omega
     refine Af ?_;exact ⟨(i+1,n * z),by simp only; omega,⟨by simp only; omega,m0,by simp only; omega,hS⟩,BI hC.m []⟩
    ·rw [if_neg hp] at hS
     refine Af ?_;exact ⟨(i+1,n),by simp only; omega,⟨by simp only; omega,n0,n1,hS⟩,BI hC.m []⟩
   ·have hS':Lw A.shape 1=n:=by
     rw [hS];by_cases g1:i<A.shape.length
     ·have g2:¬ n≤100000:=fun h=>hgo ⟨g1,h⟩
      obtain ⟨z,hz⟩:∃ z,A.shape[i]? = some z:=⟨_,List.getElem?_eq_getElem g1⟩;rw [AU hz,Lw,if_neg g2]
     ·rw [List.drop_eq_nil_of_le (by omega),Lw]
    rw [hS'];have key:∀ {st:St} {Q:Exit→St→Prop} {c:Bi},(i<A.shape.length→¬ n≤100000):=fun {_ _ _} g1 h=>hgo ⟨g1,h⟩;by_cases hbig:n≤100000
    ·have g1:¬ i<A.shape.length:=fun h=>hgo ⟨h,hbig⟩
     rw [decide_eq_true hbig,Bool.true_and];clear key hgo;refine Af ?_;refine Ai [1,2] [0] (fun k:Nat=>[(5,.lit (.int .i64 k))]) (fun _=>[]) 1 (fun k=>k≤A.cells.length∧Ht A.cells=Ht (A.cells.drop k)) (fun k=>A.cells.length - k) 0 ⟨Nat.zero_le _,rfl⟩ ?_;rintro k ⟨hk,hE⟩;dsimp only [List.cons_append,List.nil_append];by_cases hlt:k<A.cells.length
     ·obtain ⟨c,hc⟩:∃ c,A.cells[k]? = some c:=⟨_,List.getElem?_eq_getElem hlt⟩
      have hck:=A9 hc;have hcm:=List.mem_of_getElem? hc;have lin:=E5 c;rw [AfO hc,AhS] at hE;refine Af ?_;refine Ai [1,2,5] [0] (fun j:Nat=>[(6,.lit (.int .i64 j))]) (fun _=>[]) 1 (fun j=>j≤c.ins.length∧Ht A.cells=(Lx (c.ins.drop j) && Ht (A.cells.drop (k+1)))) (fun j=>c.ins.length - j) 0 ⟨Nat.zero_le _,hE⟩ ?_;rintro j ⟨hj,hF⟩;dsimp only [List.cons_append,List.nil_append];by_cases hlj:j<c.ins.length
      ·obtain ⟨x,hx⟩:∃ x,c.ins[j]? = some x:=⟨_,List.getElem?_eq_getElem hlj⟩
       have hxk:=CY hx;have hxm:=List.mem_of_getElem? hx;obtain ⟨_,_,_,cok⟩:=(Bw.1 a4 c hcm).parts;obtain ⟨e,_,hxr⟩:=UY (r3' c hcm) x hxm;have ht:SizeOf.sizeOf x<SizeOf.sizeOf A:=Nat.lt_trans (Hq hxm) (Nat.lt_trans c.size (Nat.lt_trans (FI hcm) A.size));have c1:=AhU x e hxr (Du.1 cok x hxm);rw [AfP hx] at hF;cases h4:R5 x
       ·rw [h4] at c1
        rw [h4,Bool.false_and,Bool.false_and] at hF;rw [hF];refine Af ?_;exact Am
       ·rw [h4] at c1
        rw [h4,Bool.true_and] at hF;refine Af ?_;exact ⟨j+1,by omega,⟨by omega,hF⟩,BI hC.m []⟩
      ·rw [List.drop_eq_nil_of_le (by omega),Lx,Bool.true_and] at hF
       refine Af ?_;exact ⟨k+1,by omega,⟨by omega,hF⟩,BI hC.m []⟩
     ·rw [List.drop_eq_nil_of_le (by omega),Ht] at hE
      rw [hE];refine Af ?_;exact Am
    ·rw [decide_eq_false hbig,Bool.false_and]
     clear key;by_cases g1:i<A.shape.length
     ·refine Af ?_
      exact Am
     ·refine Af ?_
      exact Am
 termination_by A=>SizeOf.sizeOf A
def PJ (A:Al):Bool:=AcQ A && (Cl 8 A && R5 A)
theorem Al0 (A:Al) (hA:arrOK A):Ae Tryz.prog 9 [.agg (Ao A)] (.lit (.bool (PJ A))):=by
 have c1:=Am0 A hA;have c2:=Aev 8 A 8 rfl (by omega) hA;have c3:=AhU A 8;unfold PJ;refine Aa K6 fun C hC => ?_;cases h1:AcQ A
 ·rw [h1] at c1
  refine Af ?_;exact Am
 rw [h1] at c1;cases h2:Cl 8 A
 ·rw [h2] at c2
  refine Af ?_;exact Am
 have c3:=c3 h2 hA;rw [h2] at c2;cases h3:R5 A
 ·rw [h3] at c3
  refine Af ?_;exact Am
 ·rw [h3] at c3
  refine Af ?_;exact Am
theorem AhV {A:Al} (h:PJ A=true):AcQ A=true:=by unfold PJ at h; simp only [Bool.and_eq_true] at h; exact h.1
theorem UZ {A:Al} (h:PJ A=true):Cl 8 A=true:=by unfold PJ at h; simp only [Bool.and_eq_true] at h; exact h.2.1
mutual
def A8:Al→Nat
 | .mk s _ cs=>Hu cs s
def Hu:List Ah→Nat→Nat
 | [],n=>n
 | c::cs,n=>Hu cs (Adc c n)
def Adc:Ah→Nat→Nat
 | .mk l _ _ _ ins,n=>Hv ins (n ||| l)
def Hv:List Al→Nat→Nat
 | [],n=>n
 | a::xs,n=>Hv xs (n ||| A8 a)
end
theorem Akq (A:Al):A8 A=Hu A.cells A.s:=by cases A; simp only [A8,Al.cells,Al.s]
theorem Akr (c:Ah) (n:Nat):Adc c n=Hv c.ins (n ||| c.l):=by cases c; simp only [Adc,Ah.ins,Ah.l]
theorem AhW {cs:List Ah} {k:Nat} {c:Ah} (h:cs[k]? = some c) (n:Nat):Hu (cs.drop k) n=Hu (cs.drop (k+1)) (Hv c.ins (n ||| c.l)):=by
 rw [AU h,Hu,Akr]
theorem AhX {xs:List Al} {k:Nat} {a:Al} (h:xs[k]? = some a) (n:Nat):Hv (xs.drop k) n=Hv (xs.drop (k+1)) (n ||| A8 a):=by
 rw [AU h,Hv]
mutual
theorem Bg:∀ (A:Al),okA A→A8 A<18446744073709551616
 | .mk s sh cs,h=>by simp only [A8]; exact Abr cs s h.2.2.2 h.1
theorem Abr:∀ (cs:List Ah) (n:Nat),Lg cs→n<18446744073709551616→Hu cs n<18446744073709551616
 | [],n,_,h=>by simpa [Hu] using h
 | c::cs,n,h,hn=>by
   simp only [Hu,Lg] at h ⊢;exact Abr cs _ h.2 (Aks c n h.1 hn)
theorem Aks:∀ (c:Ah) (n:Nat),okC c→n<18446744073709551616→Adc c n<18446744073709551616
 | .mk l _ _ _ ins,n,h,hn=>by
   simp only [Adc,okC] at h ⊢;exact Abs ins _ h.2.2.2.2 (C6 _ _ hn h.1)
theorem Abs:∀ (xs:List Al) (n:Nat),Ky xs→n<18446744073709551616→Hv xs n<18446744073709551616
 | [],n,_,h=>by simpa [Hv] using h
 | a::xs,n,h,hn=>by
   simp only [Hv,Ky] at h ⊢;exact Abs xs _ h.2 (C6 _ _ hn (Bg a h.1))
end
theorem C9:∀ (A:Al),okA A→Ae Tryz.prog 52 [.agg (Ao A)] (CG (A8 A))
 | A,hA=>by
   have hB:A2=1000000000:=rfl;have lcs:=AK A;obtain ⟨a1,a2,a3,a4⟩:=hA.parts;refine Aa QE fun C hC => ?_;have e:=Akq A;refine Af ?_
   refine Ai [1,11,12] [0] (fun p:Nat × Nat=>[(3,CG p.2),(13,.lit (.int .i64 p.1))]) (fun _=>[]) 1
    (fun p=>p.1≤A.cells.length∧p.2<18446744073709551616∧A8 A=Hu (A.cells.drop p.1) p.2) (fun p=>A.cells.length - p.1) (0,A.s) ⟨Nat.zero_le _,a1,e⟩ ?_
   rintro ⟨k,n⟩ ⟨hk,hn,hE⟩;simp only at hk hn hE;dsimp only [List.cons_append,List.nil_append];by_cases hlt:k<A.cells.length
   ·obtain ⟨c,hc⟩:∃ c,A.cells[k]? = some c:=⟨_,List.getElem?_eq_getElem hlt⟩
    have hck:=A9 hc;have hcm:=List.mem_of_getElem? hc;have hcok:=Es.1 a4 c hcm;obtain ⟨b1,b2,b3,b4,b5⟩:=hcok.parts;have lin:=E5 c;rw [AhW hc] at hE;have c1:=FF n c.l hn b1;have hn2:=C6 n c.l hn b1;have ht:SizeOf.sizeOf c<SizeOf.sizeOf A:=Nat.lt_trans (FI hcm) A.size;refine Af ?_
    refine Ai [1,11,12,13,22,23] [0] (fun p:Nat × Nat=>[(3,CG p.2),(24,.lit (.int .i64 p.1))]) (fun _=>[]) 2
     (fun p=>p.1≤c.ins.length∧p.2<18446744073709551616∧A8 A=Hu (A.cells.drop (k+1)) (Hv (c.ins.drop p.1) p.2)) (fun p=>c.ins.length - p.1) (0,n ||| c.l) ⟨Nat.zero_le _,hn2,hE⟩ ?_
    rintro ⟨j,m⟩ ⟨hj,hm,hF⟩;simp only at hj hm hF;dsimp only [List.cons_append,List.nil_append];by_cases hlj:j<c.ins.length
    ·obtain ⟨x,hx⟩:∃ x,c.ins[j]? = some x:=⟨_,List.getElem?_eq_getElem hlj⟩
     have hxk:=CY hx;have hxm:=List.mem_of_getElem? hx;have hxok:=I3.1 b5 x hxm;have ht2:SizeOf.sizeOf x<SizeOf.sizeOf A:=Nat.lt_trans (Hq hxm) (Nat.lt_trans c.size ht);have c4:=C9 x hxok;have hxl:=Bg x hxok;have c5:=FF m (A8 x) hm hxl;rw [AhX hx] at hF;clear c1;refine Af ?_;exact ⟨(j+1,m ||| A8 x),by simp only; omega,⟨by simp only; omega,C6 _ _ hm hxl,hF⟩,BI hC.m []⟩
    ·rw [show c.ins.drop j=[] from List.drop_eq_nil_of_le (by omega),Hv] at hF
     clear c1;refine Af ?_;exact ⟨(k+1,m),by simp only; omega,⟨by simp only; omega,hm,hF⟩,BI hC.m []⟩
   ·rw [List.drop_eq_nil_of_le (by omega),Hu] at hE
    rw [hE];refine Af ?_;exact Am
 termination_by A=>SizeOf.sizeOf A
def Ff (A:Al):Bool:=A.shape.length == 0 && A.cells.length == 1
theorem Ade (A:Al):Ae Tryz.prog 143 [.agg (Ao A)] (.lit (.bool (Ff A))):=by
 have lsh:=Ac .i64 A.shape;have lcs:=AK A;refine Aa QF fun C hC => ?_;unfold Ff;by_cases h1:A.shape.length=0
 ·rw [h1,beq_self_eq_true,Bool.true_and]
  by_cases h2:A.cells.length=1
  ·rw [h2,beq_self_eq_true]
   refine Af ?_;exact Am
  ·rw [Ck h2]
   refine Af ?_;exact Am
 ·rw [Ck h1,Bool.false_and]
  refine Af ?_;exact Am
theorem H6 {A:Al} (h:Ff A=true):A.shape.length=0∧A.cells.length=1:=by
 unfold Ff at h;simpa using h
theorem R6 (A:Al):Ae Tryz.prog 89 [.agg (Ao A)] (.lit (.bool (Ff A && (A.cells.getD 0 (.mk 0 0 ⟨false,[],[]⟩ 0 [])).kind != 2))):=by
 have lcs:=AK A;have c1:=Ade A;refine Aa O3 fun C hC => ?_;cases h:Ff A
 ·rw [h] at c1
  rw [Bool.false_and];refine Af ?_;exact Am
 ·rw [h] at c1
  obtain ⟨h1,h2⟩:=H6 h;obtain ⟨c,hc⟩:∃ c,A.cells[0]? = some c:=⟨_,List.getElem?_eq_getElem (by omega)⟩;have hck:=A9 hc;rw [Bool.true_and,List.getD_eq_getElem?_getD,hc,Option.getD_some];by_cases h3:c.kind=2
  ·rw [h3]
   refine Af ?_;exact Am
  ·rw [show (c.kind != 2)=true from by simpa using h3]
   refine Af ?_;exact Am
mutual
def GQ:Al→Int
 | .mk s sh cs=>if Ff (.mk s sh cs) && (cs.getD 0 (.mk 0 0 ⟨false,[],[]⟩ 0 [])).kind != 2 then 0 else Jc cs 0+1
def Jc:List Ah→Int→Int
 | [],n=>n
 | c::cs,n=>Jc cs (Al1 c n)
def Al1:Ah→Int→Int
 | .mk _ _ _ _ ins,n=>Jd ins n
def Jd:List Al→Int→Int
 | [],n=>n
 | a::xs,n=>Jd xs (if GQ a > n then GQ a else n)
end
theorem Aex (A:Al):GQ A=if Ff A && (A.cells.getD 0 (.mk 0 0 ⟨false,[],[]⟩ 0 [])).kind != 2 then 0 else Jc A.cells 0+1:=by cases A; unfold GQ; rfl
theorem Aey (c:Ah) (n:Int):Al1 c n=Jd c.ins n:=by cases c; simp only [Al1,Ah.ins]
theorem AhY {cs:List Ah} {k:Nat} {c:Ah} (h:cs[k]? = some c) (n:Int):Jc (cs.drop k) n=Jc (cs.drop (k+1)) (Jd c.ins n):=by
 rw [AU h,Jc,Aey]
theorem AhZ {xs:List Al} {k:Nat} {a:Al} (h:xs[k]? = some a) (n:Int):Jd (xs.drop k) n=Jd (xs.drop (k+1)) (if GQ a > n then GQ a else n):=by
 rw [AU h,Jd]
theorem Ah0 {xs:List Al} {m:Int} (h:∀ x ∈ xs,0≤GQ x∧GQ x≤m):∀ n,0≤n→n≤m→0≤Jd xs n∧Jd xs n≤m:=by
 induction xs with
 | nil=>intro n h0 h1; simpa [Jd] using ⟨h0,h1⟩
 | cons a xs ih =>
   intro n h0 h1;have ha:=h a (by simp);simp only [Jd];refine ih (fun x hx=>h x (by simp [hx])) _ ?_ ?_<;>split<;>omega
theorem Ah1 {cs:List Ah} {m:Int} (h:∀ c ∈ cs,∀ x ∈ c.ins,0≤GQ x∧GQ x≤m):∀ n,0≤n→n≤m→0≤Jc cs n∧Jc cs n≤m:=by
 induction cs with
 | nil=>intro n h0 h1; simpa [Jc] using ⟨h0,h1⟩
 | cons c cs ih =>
   intro n h0 h1;simp only [Jc,Aey]
   have:=Ah0 (h c (by simp)) n h0 h1
   exact ih (fun x hx=>h x (by simp [hx])) _ this.1 this.2
theorem JQ:∀ (d:Nat) (A:Al),Cl d A=true→0≤GQ A∧GQ A≤d+1
 | d,A,hr=>by
   rw [Aex];split
   ·omega
   ·have:=Ah1 (cs:=A.cells) (m:=d) (fun c hc x hx=>by
     obtain ⟨e,he,hxe⟩:=UY (Dp.1 (EW hr).2.2 c hc) x hx
     have:=JQ e x hxe
     omega) 0 (by omega) (by omega)
    omega
 termination_by d=>d
theorem Y2:∀ (d:Nat) (A:Al),d≤100→okA A→Cl d A=true→Ae Tryz.prog 90 [.agg (Ao A)] (.lit (.int .i64 (GQ A)))
 | d,A,hd,hA,hr=>by
   have hB:A2=1000000000:=rfl;have lcs:=AK A;obtain ⟨a1,a2,a3,a4⟩:=hA.parts;have c0:=R6 A;have e:=Aex A;have hdl:=JQ d A hr;refine Aa QD fun C hC => ?_;generalize (Ff A && (A.cells.getD 0 (.mk 0 0 ⟨false,[],[]⟩ 0 [])).kind != 2)=q at c0 e;cases q with
   | true =>
     rw [e,if_pos rfl];refine Af ?_;exact Am
   | false =>
     rw [if_neg (by simp)] at e;refine Af ?_
     refine Ai [1,11,12] [0] (fun p:Nat × Int=>[(3,.lit (.int .i64 p.2)),(13,.lit (.int .i64 p.1))]) (fun _=>[]) 1
      (fun p=>p.1≤A.cells.length∧(0≤p.2∧p.2≤d)∧GQ A=Jc (A.cells.drop p.1) p.2+1) (fun p=>A.cells.length - p.1) (0,0) ⟨Nat.zero_le _,⟨by simp,by simp⟩,e⟩ ?_
     rintro ⟨k,n⟩ ⟨hk,⟨hn0,hn1⟩,hE⟩;simp only at hk hn0 hn1 hE;dsimp only [List.cons_append,List.nil_append];by_cases hlt:k<A.cells.length
     ·obtain ⟨c,hc⟩:∃ c,A.cells[k]? = some c:=⟨_,List.getElem?_eq_getElem hlt⟩
      have hck:=A9 hc;have hcm:=List.mem_of_getElem? hc;have hcok:=Es.1 a4 c hcm;obtain ⟨b1,b2,b3,b4,b5⟩:=hcok.parts;have lin:=E5 c;rw [AhY hc] at hE;have hri:=UY (Dp.1 (EW hr).2.2 c hcm);refine Af ?_
      refine Ai [1,11,12,13,18,19] [0] (fun p:Nat × Int=>[(3,.lit (.int .i64 p.2)),(20,.lit (.int .i64 p.1))]) (fun _=>[]) 2
       (fun p=>p.1≤c.ins.length∧(0≤p.2∧p.2≤d)∧GQ A=Jc (A.cells.drop (k+1)) (Jd (c.ins.drop p.1) p.2)+1) (fun p=>c.ins.length - p.1) (0,n) ⟨Nat.zero_le _,⟨hn0,hn1⟩,hE⟩ ?_
      rintro ⟨j,m⟩ ⟨hj,⟨hm0,hm1⟩,hF⟩;simp only at hj hm0 hm1 hF;dsimp only [List.cons_append,List.nil_append];by_cases hlj:j<c.ins.length
      ·obtain ⟨x,hx⟩:∃ x,c.ins[j]? = some x:=⟨_,List.getElem?_eq_getElem hlj⟩
       have hxk:=CY hx;have hxm:=List.mem_of_getElem? hx;have hxok:=I3.1 b5 x hxm;obtain ⟨f,hf,hxr⟩:=hri x hxm;have c4:=Y2 f x (by omega) hxok hxr;have hxl:=JQ f x hxr;rw [AhZ hx] at hF;clear c0;by_cases hgt:GQ x > m
       ·rw [if_pos hgt] at hF
        refine Af ?_;exact ⟨(j+1,GQ x),by simp only; omega,⟨by simp only; omega,⟨by simp only; omega,by simp only; omega⟩,hF⟩,BI hC.m []⟩
       ·rw [if_neg hgt] at hF
        refine Af ?_;exact ⟨(j+1,m),by simp only; omega,⟨by simp only; omega,⟨by simp only; omega,by simp only; omega⟩,hF⟩,BI hC.m []⟩
      ·rw [show c.ins.drop j=[] from List.drop_eq_nil_of_le (by omega),Jd] at hF
       clear c0;refine Af ?_;exact ⟨(k+1,m),by simp only; omega,⟨by simp only; omega,⟨hm0,hm1⟩,hF⟩,BI hC.m []⟩
     ·rw [List.drop_eq_nil_of_le (by omega),Jc] at hE
      rw [hE];clear c0;refine Af ?_;exact Am
 termination_by d=>d
end Go.Proofs.YtjcolpcfcdkckaaGreat
