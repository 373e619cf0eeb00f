/- Natural numbers of the program: a limb of a quotient, guessed; taken off; put back. -/
import Derived.Test.YtjcolpcfcdkckaaGreatK17
import Derived.Test.YtjcolpcfcdkckaaGreatK18
set_option maxRecDepth 10000
set_option maxHeartbeats 4000000
namespace Go.Proofs.YtjcolpcfcdkckaaGreat
set_option linter.unusedVariables false
open Go.RowKit
structure Gs (A D high a0 aL d1 d0 dL W:Int):Prop where
 eA:A=high * (4294967296 * W)+a0 * W+aL
 eD:D=d1 * (4294967296 * W)+d0 * W+dL
 la:0≤aL∧aL<W
 ld:0≤dL∧dL<W
 l0:GP a0
 k0:GP d0
 k1:2147483648≤d1∧d1<4294967296
 w:0<W
 hi:0≤high
 ub:A<D * 4294967296
section
variable {A D high a0 aL d1 d0 dL W:Int}
theorem Gs.dpos (G:Gs A D high a0 aL d1 d0 dL W):2147483648 * (4294967296 * W)≤D:=by
 obtain ⟨eA,eD,la,ld,l0,k0,k1,w,hi,ub⟩:=G;have h1:=Int.mul_le_mul_of_nonneg_right k1.1 (show (0:Int)≤4294967296 * W by omega);have h2:=Int.mul_nonneg k0.1 (Int.le_of_lt w);omega
theorem Gs.first (G:Gs A D high a0 aL d1 d0 dL W):A<(high / d1+1) * D:=by
 obtain ⟨eA,eD,la,ld,l0,k0,k1,w,hi,ub⟩:=G;have h0:=Int.emod_add_mul_ediv high d1;have h1:=Int.emod_lt_of_pos high (show 0<d1 by omega);have hg:0≤high / d1:=Int.ediv_nonneg hi (by omega);generalize high / d1=g at *;have h2:high+1≤d1 * (g+1):=by rw [Int.mul_add]; omega
 have h3:=Int.mul_le_mul_of_nonneg_right h2 (show (0:Int)≤4294967296 * W by omega);have h4:=Int.mul_le_mul_of_nonneg_right (show a0+1≤4294967296 by have:=l0.2; omega) (Int.le_of_lt w);have h5:0≤(g+1) * (d0 * W+dL):=Int.mul_nonneg (by omega) (by have:=Int.mul_nonneg k0.1 (Int.le_of_lt w); omega);have h6:(g+1) * D=d1 * (g+1) * (4294967296 * W)+(g+1) * (d0 * W+dL):=by rw [eD]; grind
 rw [h6,eA];rw [Int.add_mul] at h3 h4;omega
theorem Gs.great (G:Gs A D high a0 aL d1 d0 dL W) {g r:Int} (he:g * d1+r=high) (ht:4294967296≤g∨r * 4294967296+a0<g * d0) (hg:0≤g):A<g * D:=by
 have hd:=G.dpos;obtain ⟨eA,eD,la,ld,l0,k0,k1,w,hi,ub⟩:=G;rcases ht with ht|ht
 ·have:=Int.mul_le_mul_of_nonneg_right ht (show 0≤D by omega)
  rw [Int.mul_comm 4294967296 D] at this;omega
 ·have h1:=Int.mul_le_mul_of_nonneg_right (show r * 4294967296+a0+1≤g * d0 by omega) (Int.le_of_lt w)
  have h2:=Int.mul_nonneg hg ld.1;have h3:g * D=(g * d1) * (4294967296 * W)+g * d0 * W+g * dL:=by rw [eD]; grind
  have h4:g * d1=high - r:=by omega
  rw [h3,h4,eA]
  grind
theorem Gs.last (G:Gs A D high a0 aL d1 d0 dL W) {g r:Int} (he:g * d1+r=high) (ht:g * d0≤r * 4294967296+a0) (hg:0≤g) (hb:g≤4294967296):g * D≤A+D:=by
 have hd:=G.dpos;obtain ⟨eA,eD,la,ld,l0,k0,k1,w,hi,ub⟩:=G;have h1:=Int.mul_le_mul_of_nonneg_right ht (Int.le_of_lt w);have h2:=Int.mul_le_mul hb (Int.le_of_lt ld.2) ld.1 (by omega);have h3:g * D=(g * d1) * (4294967296 * W)+g * d0 * W+g * dL:=by rw [eD]; grind
 have h4:g * d1=high - r:=by omega
 rw [h3,h4];have h5:(high - r) * (4294967296 * W)+g * d0 * W≤A:=by rw [eA]; grind
 omega
end
theorem Anc (w ds:List Int) (m:Nat) (hw:AD w) (hd:AD ds) (lw:w.length=m+3) (ld:ds.length=m+2) (hm:m≤100000) (d1:Int) (hd1:ds[m+1]? = some d1) (ht:2147483648≤d1) (hub:vI w<vI ds * 4294967296) :
 ∃ g:Int,Ae Tryz.prog 253 [.sl 1 (Ab .u32 w),.sl 1 (Ab .u32 ds)] (Gp g)∧0≤g∧g≤4294967296∧vI w<(g+1) * vI ds∧g * vI ds≤vI w+vI ds:=by
 have lW:=Ac .u32 w;have lD:=Ac .u32 ds;rw [ld] at lD;rw [lw] at lW;obtain ⟨a2,h2⟩:∃ a,w[m+2]? = some a:=⟨_,List.getElem?_eq_getElem (by omega)⟩;obtain ⟨a1,h1⟩:∃ a,w[m+1]? = some a:=⟨_,List.getElem?_eq_getElem (by omega)⟩;obtain ⟨a0,h0⟩:∃ a,w[m]? = some a:=⟨_,List.getElem?_eq_getElem (by omega)⟩;obtain ⟨d0,k0⟩:∃ a,ds[m]? = some a:=⟨_,List.getElem?_eq_getElem (by omega)⟩;have e2:(((m+2:Nat):Int)).toNat=m+2:=by omega
 have e1:(((m+2:Nat):Int) - 1).toNat=m+1:=by omega
 have e0:(((m+2:Nat):Int) - 2).toNat=m:=by omega
 have x2:(Ab .u32 w)[((m+2:Nat):Int).toNat]? = some [B0 a2]:=by rw [e2]; exact Az h2
 have x1:(Ab .u32 w)[(((m+2:Nat):Int) - 1).toNat]? = some [B0 a1]:=by rw [e1]; exact Az h1
 have x0:(Ab .u32 w)[(((m+2:Nat):Int) - 2).toNat]? = some [B0 a0]:=by rw [e0]; exact Az h0
 have y1:(Ab .u32 ds)[(((m+2:Nat):Int) - 1).toNat]? = some [B0 d1]:=by rw [e1]; exact Az hd1
 have y0:(Ab .u32 ds)[(((m+2:Nat):Int) - 2).toNat]? = some [B0 d0]:=by rw [e0]; exact Az k0
 have l2:=Cf hw h2;have l1:=Cf hw h1;have l0:=Cf hw h0;have ld1:=Cf hd hd1;have ld0:=Cf hd k0;have ho:=AfX l2 l1;obtain ⟨p2,q2⟩:=l2;obtain ⟨p1,q1⟩:=l1;obtain ⟨p0,q0⟩:=l0;obtain ⟨r1,s1⟩:=ld1;obtain ⟨r0,s0⟩:=ld0
 have vw:vI w=vI (w.take m)+BB m * (a0+4294967296 * (a1+4294967296 * a2)):=by
  have t3:=A7 h2;rw [A7 h1,A7 h0,List.take_of_length_le (show w.length≤m+2+1 by omega)] at t3;simp only [BX] at t3;rw [t3]; grind
 have vd:vI ds=vI (ds.take m)+BB m * (d0+4294967296 * d1):=by
  have t3:=A7 hd1;rw [A7 k0,List.take_of_length_le (show ds.length≤m+1+1 by omega)] at t3;simp only [BX] at t3;rw [t3]; grind
 have hW:=EL m;have bw:=Hr (hw.take m);have bd:=Hr (hd.take m);rw [List.length_take,Nat.min_eq_left (by omega)] at bw bd;have nw:=BM (hw.take m);have nd:=BM (hd.take m);generalize vI (w.take m)=aL at *;generalize vI (ds.take m)=dL at *;generalize BB m=W at *;generalize hA:vI w=A at *;generalize hD:vI ds=D at *;have G:Gs A D (a2 * 4294967296+a1) a0 aL d1 d0 dL W:=⟨by rw [vw]; grind,by rw [vd]; grind,⟨nw,bw⟩,⟨nd,bd⟩,⟨p0,q0⟩,⟨r0,s0⟩,⟨ht,s1⟩,hW,by omega,hub⟩;have g1:=G.first;have hdm:=Int.emod_add_mul_ediv (a2 * 4294967296+a1) d1;have hm0:=Int.emod_nonneg (a2 * 4294967296+a1) (show d1≠0 by omega);have hm1:=Int.emod_lt_of_pos (a2 * 4294967296+a1) (show 0<d1 by omega);have hq0:0≤(a2 * 4294967296+a1) / d1:=Int.ediv_nonneg (by omega) (by omega);have hdp:0<D:=by have:=G.dpos; omega
 have hq1:(a2 * 4294967296+a1) / d1≤4294967297:=by
  have hh:(a2 * 4294967296+a1)<(d1+1) * 4294967296:=by
   have u1:(a2 * 4294967296+a1) * (4294967296 * W)≤A:=by
    rw [vw]
    have:=Int.mul_nonneg p0 (Int.le_of_lt hW)
    grind
   have u2:D≤(d1+1) * (4294967296 * W):=by
    rw [vd]
    have:=Int.mul_le_mul_of_nonneg_right (show d0+1≤4294967296 by omega) (Int.le_of_lt hW)
    grind
   refine Int.not_le.1 fun hc => ?_;have u3:=Int.mul_le_mul_of_nonneg_right hc (show (0:Int)≤4294967296 * W by omega);have u4:=Int.mul_le_mul_of_nonneg_right u2 (show (0:Int)≤4294967296 by omega)
   grind
  have:=Int.ediv_lt_of_lt_mul (show 0<d1 by omega) (show (a2 * 4294967296+a1)<4294967298 * d1 by omega)
  omega
 generalize hq:(a2 * 4294967296+a1) / d1=q at *;generalize hr:(a2 * 4294967296+a1) % d1=r at *;have he:q * d1+r=a2 * 4294967296+a1:=by rw [Int.mul_comm]; omega
 have pr:∀ g:Int,0≤g→g<4294967296→0≤g * d0∧g * d0≤18446744065119617025:=fun g u v=>AeC ⟨u,v⟩ ⟨r0,s0⟩
 have big:∀ g x:Int,0≤g→g≤4294967296→4294967296≤x→g * d0≤x * 4294967296+a0:=fun g x u v hx=>by
  have:=Int.mul_le_mul v (show d0≤4294967295 by omega) r0 (by omega)
  omega
 have ho1:=AfX (a:=r) (c:=a0) ⟨hm0,by omega⟩ ⟨p0,q0⟩;by_cases t0:4294967296≤q∨r * 4294967296+a0<q * d0
 ·have gr:=G.great he t0 hq0
  have q1p:1≤q:=by
   rcases t0 with h|h
   ·omega
   ·refine Int.not_lt.1 fun hc => ?_
    have:q=0:=by omega
    rw [this] at h;omega
  by_cases rb:4294967296≤r+d1
  ·refine ⟨q - 1,?_,by omega,by omega,by rw [show q - 1+1=q from by omega]; exact gr,G.last (r:=r+d1) (by rw [Int.sub_mul]; omega) (big _ _ (by omega) (by omega) rb) (by omega) (by omega)⟩
   refine Aa DP fun C hC => ?_;refine Aj ?_;refine D3 [0,1,4,5,7,8] [] 0 (kt:=[(0,.sl 1 (Ab .u32 w)),(1,.sl 1 (Ab .u32 ds)),(4,Gp 0),(5,nA (m+2:Nat)),(7,Gp q),(8,Gp r)]) ?_ (by rw [← hq,← hr]; rfl);refine CM 3 ?_;refine Ea ?_;by_cases hqB:4294967296≤q
   ·refine Aj ?_
    exact Am
   ·obtain ⟨pr1,pr2⟩:=pr q hq0 (by omega)
    have t1:r * 4294967296+a0<q * d0:=t0.resolve_left hqB;refine Aj ?_;exact Am
  ·have ho2:=AfX (a:=r+d1) (c:=a0) ⟨by omega,by omega⟩ ⟨p0,q0⟩
   have hq1m:0≤q - 1:=by omega
   by_cases t2:4294967296≤q - 1∨(r+d1) * 4294967296+a0<(q - 1) * d0
   ·have gr2:=G.great (g:=q - 1) (r:=r+d1) (by rw [Int.sub_mul]; omega) t2 hq1m
    have q2p:2≤q:=by
     rcases t2 with h|h
     ·omega
     ·refine Int.not_lt.1 fun hc => ?_
      have:q - 1=0:=by omega
      rw [this] at h;omega
    refine ⟨q - 1 - 1,?_,by omega,by omega,by rw [show q - 1 - 1+1=q - 1 from by omega]; exact gr2,G.last (r:=r+d1+d1) (by rw [Int.sub_mul,Int.sub_mul]; omega) (big _ _ (by omega) (by omega) (by omega)) (by omega) (by omega)⟩;refine Aa DP fun C hC => ?_;refine Aj ?_;refine D3 [0,1,4,5,7,8] [] 0 (kt:=[(0,.sl 1 (Ab .u32 w)),(1,.sl 1 (Ab .u32 ds)),(4,Gp 0),(5,nA (m+2:Nat)),(7,Gp q),(8,Gp r)]) ?_ (by rw [← hq,← hr]; rfl);refine CM 3 ?_;refine Ea ?_;by_cases hqB:4294967296≤q
    ·by_cases hqC:4294967296≤q - 1
     ·refine Aj ?_
      exact Am
     ·obtain ⟨pr3,pr4⟩:=pr (q - 1) (by omega) (by omega)
      have t3:(r+d1) * 4294967296+a0<(q - 1) * d0:=t2.resolve_left hqC;refine Aj ?_;exact Am
    ·obtain ⟨pr1,pr2⟩:=pr q hq0 (by omega)
     have t1:r * 4294967296+a0<q * d0:=t0.resolve_left hqB;obtain ⟨pr3,pr4⟩:=pr (q - 1) (by omega) (by omega);have t3:(r+d1) * 4294967296+a0<(q - 1) * d0:=t2.resolve_left (by omega);refine Aj ?_;exact Am
   ·have t3:¬ (r+d1) * 4294967296+a0<(q - 1) * d0:=fun h=>t2 (.inr h)
    have hqC:¬ 4294967296≤q - 1:=fun h=>t2 (.inl h);refine ⟨q - 1,?_,by omega,by omega,by rw [show q - 1+1=q from by omega]; exact gr,G.last (r:=r+d1) (by rw [Int.sub_mul]; omega) (by omega) (by omega) (by omega)⟩;obtain ⟨pr3,pr4⟩:=pr (q - 1) (by omega) (by omega);refine Aa DP fun C hC => ?_;refine Aj ?_;refine D3 [0,1,4,5,7,8] [] 0 (kt:=[(0,.sl 1 (Ab .u32 w)),(1,.sl 1 (Ab .u32 ds)),(4,Gp 0),(5,nA (m+2:Nat)),(7,Gp q),(8,Gp r)]) ?_ (by rw [← hq,← hr]; rfl);refine CM 3 ?_;refine Ea ?_;by_cases hqB:4294967296≤q
    ·refine Aj ?_
     exact Am
    ·obtain ⟨pr1,pr2⟩:=pr q hq0 (by omega)
     have t1:r * 4294967296+a0<q * d0:=t0.resolve_left hqB;refine Aj ?_;exact Am
 ·have t1:¬ r * 4294967296+a0<q * d0:=fun h=>t0 (.inr h)
  have hqB:¬ 4294967296≤q:=fun h=>t0 (.inl h);obtain ⟨pr1,pr2⟩:=pr q hq0 (by omega);refine ⟨q,?_,hq0,by omega,g1,G.last he (by omega) hq0 (by omega)⟩;refine Aa DP fun C hC => ?_;refine Aj ?_;refine D3 [0,1,4,5,7,8] [] 0 (kt:=[(0,.sl 1 (Ab .u32 w)),(1,.sl 1 (Ab .u32 ds)),(4,Gp 0),(5,nA (m+2:Nat)),(7,Gp q),(8,Gp r)]) ?_ (by rw [← hq,← hr]; rfl);refine CM 3 ?_;refine Ea ?_;refine Aj ?_;exact Am
end Go.Proofs.YtjcolpcfcdkckaaGreat
