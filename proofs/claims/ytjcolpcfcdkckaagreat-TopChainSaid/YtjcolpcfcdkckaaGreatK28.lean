/- The library's stable sort of numbers, by any comparison: its parts. -/
import Derived.Test.YtjcolpcfcdkckaaGreatK15
import Derived.Test.YtjcolpcfcdkckaaGreatK16
set_option maxRecDepth 10000
set_option maxHeartbeats 16000000
namespace Go.Proofs.YtjcolpcfcdkckaaGreat
set_option linter.unusedVariables false
open Go.RowKit
def swp (D:List Int) (i j:Nat):List Int:=(D.set i (D.getD j 0)).set j (D.getD i 0)
theorem L6 (D:List Int) (i j:Nat):(swp D i j).length=D.length:=by simp [swp]
theorem P1 {D:List Int} {i j:Nat} (hi:i<D.length) (hj:j<D.length):∀ z ∈ swp D i j,z ∈ D:=fun z hz=>by
 have gi:D.getD i 0 ∈ D:=by rw [List.getD_eq_getElem?_getD,List.getElem?_eq_getElem hi]; exact List.getElem_mem _
 have gj:D.getD j 0 ∈ D:=by rw [List.getD_eq_getElem?_getD,List.getElem?_eq_getElem hj]; exact List.getElem_mem _
 unfold swp at hz;rcases List.mem_or_eq_of_mem_set hz with h|h
 ·rcases List.mem_or_eq_of_mem_set h with h|h
  ·exact h
  ·rw [h]; exact gj
 ·rw [h]; exact gi
theorem ZD {D:List Int} {i j:Nat} (hi:i<D.length) (hj:j<D.length) :
 (Ab .i64 D)[i]? = some [.lit (.int .i64 (D.getD i 0))]∧(Ab .i64 D)[j]? = some [.lit (.int .i64 (D.getD j 0))] ∧
  ((Ab .i64 D).set i [.lit (.int .i64 (D.getD j 0))])[j]? = some [.lit (.int .i64 (D.getD j 0))] ∧
    ((Ab .i64 D).set i [.lit (.int .i64 (D.getD j 0))]).set j [.lit (.int .i64 (D.getD i 0))]=Ab .i64 (swp D i j):=by
 have gi:D[i]? = some (D.getD i 0):=by rw [List.getD_eq_getElem?_getD,List.getElem?_eq_getElem hi]; rfl
 have gj:D[j]? = some (D.getD j 0):=by rw [List.getD_eq_getElem?_getD,List.getElem?_eq_getElem hj]; rfl
 refine ⟨Az gi,Az gj,?_,by unfold swp; simp [Ab,List.map_set]⟩;by_cases h:i=j
 ·subst h
  exact List.getElem?_set_self (by simpa [Ab] using hi)
 ·rw [List.getElem?_set_ne h]; exact Az gj
def Jf (D:List Int) (a b:Nat):Nat→List Int
 | 0=>D
 | i+1=>swp (Jf D a b i) (a+i) (b+i)
theorem D4 (D:List Int) (a b:Nat):∀ n,(Jf D a b n).length=D.length
 | 0=>rfl
 | n+1=>by rw [Jf,L6,D4 D a b n]
theorem P2 {D:List Int} {a b:Nat}:∀ n,a+n≤D.length→b+n≤D.length→∀ z ∈ Jf D a b n,z ∈ D
 | 0,_,_,z,hz=>hz
 | n+1,h1,h2,z,hz=>P2 n (by omega) (by omega) z (P1 (by rw [D4]; omega) (by rw [D4]; omega) z hz)
theorem ZE (f:FuncId) (e1 e2:List (List AV)) (D:List Int) (a b n:Nat) (hl:D.length≤1000) (ha:a+n≤D.length) (hb:b+n≤D.length) :
 Dn Tryz.prog 236 [.own 0,nA a,nA b,nA n,.fn f [] [.ep 1 e1 0 0,.ep 3 e2 0 0]] [(0,some ⟨true,false,3,1,Ab .i64 D⟩)] 1 (.tup []) [(0,some ⟨true,false,3,1,Ab .i64 (Jf D a b n)⟩)] 1:=by
 refine BK Fd fun C hC => ?_;refine Aj ?_
 refine Ai [0,1,2,3] [] (fun i:Nat=>[(10,nA i)]) (fun i=>[(0,some ⟨true,false,3,1,Ab .i64 (Jf D a b i)⟩)]) 1
  (fun i=>i≤n) (fun i=>n - i) 0 (Nat.zero_le _) ?_
 intro i hi;dsimp only [List.cons_append,List.nil_append] at hi ⊢;have hrl:=D4 D a b i;have lr:=Ac .i64 (Jf D a b i);rw [hrl] at lr;by_cases h:i<n
 ·obtain ⟨k1,k2,k3,hs⟩:=ZD (D:=Jf D a b i) (i:=a+i) (j:=b+i) (by omega) (by omega)
  rw [show swp (Jf D a b i) (a+i) (b+i)=Jf D a b (i+1) from rfl] at hs;have l3:(((Ab .i64 (Jf D a b i)).set (a+i) [.lit (.int .i64 ((Jf D a b i).getD (b+i) 0))]).length:Int)=D.length:=by rw [List.length_set]; exact lr
  have x1:(a:Int)+i=((a+i:Nat):Int):=by omega
  have x2:(b:Int)+i=((b+i:Nat):Int):=by omega
  have y1:((a:Int)+i).toNat=a+i:=by omega
  have y2:((b:Int)+i).toNat=b+i:=by omega
  rw [← y1] at k1 k3 hs l3;rw [← y2] at k2 k3 hs l3;clear x1 x2;generalize (Jf D a b i).getD ((b:Int)+i).toNat 0=v at *;generalize (Jf D a b i).getD ((a:Int)+i).toNat 0=u at *;generalize Ab .i64 (Jf D a b i)=R at *;refine Aj ?_;exact ⟨i+1,by omega,by omega,BI hC.m [] (by rw [← hs]; rfl)⟩
 ·obtain rfl:i=n:=by omega
  refine Aj ?_;exact BZ []
def WQ (c:Int→Int→Int) (a:Nat):Nat→List Int→List Int
 | 0,D=>D
 | j+1,D=>if j+1 > a∧c (D.getD (j+1) 0) (D.getD j 0)<0 then WQ c a j (swp D (j+1) j) else D
theorem AbQ (c:Int→Int→Int) (a:Nat):∀ j D,(WQ c a j D).length=D.length
 | 0,D=>rfl
 | j+1,D=>by rw [WQ]; split<;>simp [AbQ,L6]
theorem AbR (c:Int→Int→Int) (a:Nat):∀ j D,j<D.length→∀ z ∈ WQ c a j D,z ∈ D
 | 0,D,_,z,hz=>hz
 | j+1,D,h,z,hz=>by
   rw [WQ] at hz;split at hz
   ·exact P1 (by omega) (by omega) z (AbR c a j _ (by rw [L6]; omega) z hz)
   ·exact hz
def Ot (c:Int→Int→Int) (a:Nat) (D:List Int):Nat→List Int
 | 0=>D
 | k+1=>WQ c a (a+1+k) (Ot c a D k)
theorem Hz (c:Int→Int→Int) (a:Nat) (D:List Int):∀ k,(Ot c a D k).length=D.length
 | 0=>rfl
 | k+1=>by rw [Ot,AbQ,Hz c a D k]
theorem LC (c:Int→Int→Int) (a:Nat) (D:List Int):∀ k,a+k<D.length∨k=0→∀ z ∈ Ot c a D k,z ∈ D
 | 0,_,z,hz=>hz
 | k+1,h,z,hz=>by
   rw [Ot] at hz;exact LC c a D k (by omega) z (AbR c a _ _ (by rw [Hz]; omega) z hz)
theorem AbS (f:FuncId) (e1 e2:List (List AV)) (c:Int→Int→Int) (P:Int→Prop) (hf:∀ x y,P x→P y→Ae Tryz.prog f [nA x,nA y,.ep 1 e1 0 0,.ep 3 e2 0 0] (nA (c x y)))
 (D:List Int) (a b:Nat) (hl:D.length≤1000) (hD:∀ z ∈ D,P z) (ha:a≤b) (hb:b≤D.length) :
 Dn Tryz.prog 178 [.own 0,nA a,nA b,.fn f [] [.ep 1 e1 0 0,.ep 3 e2 0 0]] [(0,some ⟨true,false,3,1,Ab .i64 D⟩)] 1 (.tup []) [(0,some ⟨true,false,3,1,Ab .i64 (Ot c a D (b - (a+1)))⟩)] 1:=by
 refine BK El fun C hC => ?_;refine Aj ?_
 refine Ai [0,1,2,3] [] (fun i:Nat=>[(8,nA ((a:Int)+1+i))]) (fun i=>[(0,some ⟨true,false,3,1,Ab .i64 (Ot c a D i)⟩)]) 1
  (fun i=>i≤b - (a+1)) (fun i=>b - (a+1) - i) 0 (Nat.zero_le _) ?_ (ht:=by simp only [Int.natCast_zero,Int.add_zero]; rfl)
 intro i hi;dsimp only [List.cons_append,List.nil_append] at hi ⊢;have hrl:=Hz c a D i;by_cases h:i<b - (a+1)
 ·have hm:=LC c a D i (by omega)
  have hE0:Ot c a D (i+1)=WQ c a (a+1+i) (Ot c a D i):=rfl;generalize hTT:Ot c a D (i+1)=T at hE0;have hG:∀ z ∈ Ot c a D i,P z:=fun z hz=>hD z (hm z hz);clear hm;generalize Ot c a D i=G at *;refine Aj ?_
  refine Ai [0,1,2,3,8] [] (fun p:Nat × List Int=>[(9,nA p.1)]) (fun p=>[(0,some ⟨true,false,3,1,Ab .i64 p.2⟩)]) 1
   (fun p=>a≤p.1∧p.1<D.length∧p.2.length=D.length∧(∀ z ∈ p.2,P z)∧T=WQ c a p.1 p.2) (fun p=>p.1) (a+1+i,G) ⟨by show a≤a+1+i; omega,by show a+1+i<_; omega,hrl,hG,hE0⟩ ?_ (ht:=by show _=_; rw [show ((a+1+i:Nat):Int)=(a:Int)+1+i from by omega]; rfl)
  rintro ⟨j,G2⟩ ⟨hj1,hj2,hj3,hj4,hE⟩;dsimp only [List.cons_append,List.nil_append] at hj1 hj2 hj3 hj4 hE ⊢;have lr:=Ac .i64 G2;rw [hj3] at lr;clear hG hE0 hrl;by_cases hja:j > a
  ·obtain ⟨j,rfl⟩:∃ m,j=m+1:=⟨j - 1,by omega⟩
   rw [WQ] at hE;obtain ⟨k1,k2,k3,hs⟩:=ZD (D:=G2) (i:=j+1) (j:=j) (by omega) (by omega);have m1:G2.getD (j+1) 0 ∈ G2:=by rw [List.getD_eq_getElem?_getD,List.getElem?_eq_getElem (by omega)]; exact List.getElem_mem _
   have m2:G2.getD j 0 ∈ G2:=by rw [List.getD_eq_getElem?_getD,List.getElem?_eq_getElem (by omega)]; exact List.getElem_mem _
   have c1:=hf _ _ (hj4 _ m1) (hj4 _ m2);have hmem:=P1 (D:=G2) (i:=j+1) (j:=j) (by omega) (by omega);have hlen2:=L6 G2 (j+1) j;have l3:(((Ab .i64 G2).set (j+1) [.lit (.int .i64 (G2.getD j 0))]).length:Int)=D.length:=by rw [List.length_set]; exact lr
   have y1:(((j+1:Nat):Int)).toNat=j+1:=by omega
   have y2:(((j+1:Nat):Int) - 1).toNat=j:=by omega
   have k1':(Ab .i64 G2)[(((j+1:Nat):Int)).toNat]? = some [.lit (.int .i64 (G2.getD (j+1) 0))]:=by rw [y1]; exact k1
   have k2':(Ab .i64 G2)[(((j+1:Nat):Int) - 1).toNat]? = some [.lit (.int .i64 (G2.getD j 0))]:=by rw [y2]; exact k2
   have k3':((Ab .i64 G2).set (((j+1:Nat):Int)).toNat [.lit (.int .i64 (G2.getD j 0))])[(((j+1:Nat):Int) - 1).toNat]? = some [.lit (.int .i64 (G2.getD j 0))]:=by rw [y1,y2]; exact k3
   have hs':((Ab .i64 G2).set (((j+1:Nat):Int)).toNat [.lit (.int .i64 (G2.getD j 0))]).set (((j+1:Nat):Int) - 1).toNat [.lit (.int .i64 (G2.getD (j+1) 0))]=Ab .i64 (swp G2 (j+1) j):=by rw [y1,y2]; exact hs
   have l3':(((Ab .i64 G2).set (((j+1:Nat):Int)).toNat [.lit (.int .i64 (G2.getD j 0))]).length:Int)=D.length:=by rw [y1]; exact l3
   clear k1 k2 k3 hs l3 y1 y2 m1 m2 hf;generalize G2.getD (j+1) 0=u at *;generalize G2.getD j 0=v at *;generalize c u v=q at *;by_cases hq:q<0
   ·rw [if_pos ⟨hja,hq⟩] at hE
    generalize Ab .i64 G2=R at *;refine Aj ?_;exact ⟨(j,swp G2 (j+1) j),by show j<j+1; omega,⟨by show a≤j; omega,by show j<_; omega,by show (swp G2 (j+1) j).length=_; omega,fun z hz=>hj4 z (hmem z hz),hE⟩,BI hC.m [] (by rw [← hs',show (((j:Nat):Int))=((j+1:Nat):Int) - 1 from by omega]; rfl)⟩
   ·rw [if_neg (fun h=>hq h.2)] at hE
    subst hE;refine Aj ?_;exact ⟨i+1,by omega,by omega,BI hC.m [] (by rw [show (a:Int)+1+((i+1:Nat):Int)=(a:Int)+1+i+1 from by omega,hTT]; rfl)⟩
  ·obtain rfl:j=a:=by omega
   have hT:T=G2:=by
    rw [hE];cases j with
    | zero=>rfl
    | succ j=>rw [WQ,if_neg (fun h=>by omega)]
   subst hT;refine Aj ?_;exact ⟨i+1,by omega,by omega,BI hC.m [] (by rw [show (j:Int)+1+((i+1:Nat):Int)=(j:Int)+1+i+1 from by omega,hTT]; rfl)⟩
 ·obtain rfl:i=b - (a+1):=by omega
  refine Aj ?_;exact BZ []
def KE (m:Nat):Nat→Nat→Nat→List Int→List Int
 | 0,_,_,D=>D
 | k+1,i,j,D=>if i=j then Jf D (m - i) m i else if i > j then KE m k (i - j) j (Jf D (m - i) m j) else KE m k i (j - i) (Jf D (m - i) (m+j - i) i)
theorem Vu (m:Nat):∀ k i j D,(KE m k i j D).length=D.length
 | 0,_,_,_=>rfl
 | k+1,i,j,D=>by
   rw [KE];split
   ·exact D4 ..
   ·split
    ·rw [Vu m k,D4]
    ·rw [Vu m k,D4]
theorem Vv (m:Nat):∀ k i j D,i≤m→m+j≤D.length→∀ z ∈ KE m k i j D,z ∈ D
 | 0,_,_,_,_,_,z,hz=>hz
 | k+1,i,j,D,h1,h2,z,hz=>by
   rw [KE] at hz;split at hz
   ·exact P2 i (by omega) (by omega) z hz
   ·split at hz
    ·exact P2 j (by omega) (by omega) z (Vv m k _ _ _ (by omega) (by rw [D4]; omega) z hz)
    ·exact P2 i (by omega) (by omega) z (Vv m k _ _ _ (by omega) (by rw [D4]; omega) z hz)
theorem Jg (f:FuncId) (e1 e2:List (List AV)) (D:List Int) (a m b:Nat) (hl:D.length≤1000) (h1:a<m) (h2:m<b) (hb:b≤D.length) :
 Dn Tryz.prog 217 [.own 0,nA a,nA m,nA b,.fn f [] [.ep 1 e1 0 0,.ep 3 e2 0 0]] [(0,some ⟨true,false,3,1,Ab .i64 D⟩)] 1 (.tup []) [(0,some ⟨true,false,3,1,Ab .i64 (KE m (b - a) (m - a) (b - m) D)⟩)] 1:=by
 refine BK F5 fun C hC => ?_;refine Aj ?_;generalize hT:KE m (b - a) (m - a) (b - m) D=T
 refine Ai [0,2,4] [] (fun p:(Nat × Nat × Nat) × List Int=>[(10,nA p.1.2.1),(11,nA p.1.2.2)]) (fun p=>[(0,some ⟨true,false,3,1,Ab .i64 p.2⟩)]) 1
  (fun p=>p.1.2.1+p.1.2.2≤p.1.1∧0<p.1.2.1∧0<p.1.2.2∧p.1.2.1≤m∧m+p.1.2.2≤D.length∧p.2.length=D.length∧T=KE m p.1.1 p.1.2.1 p.1.2.2 p.2) (fun p=>p.1.1) ((b - a,m - a,b - m),D)
  ⟨by show m - a+(b - m)≤b - a; omega,by show 0<m - a; omega,by show 0<b - m; omega,by show m - a≤m; omega,by show m+(b - m)≤_; omega,rfl,hT.symm⟩ ?_ (ht:=by show _=_; rw [show ((m - a:Nat):Int)=(m:Int) - a from by omega,show ((b - m:Nat):Int)=(b:Int) - m from by omega]; rfl)
 rintro ⟨⟨k,i,j⟩,G⟩ ⟨g1,g2,g3,g4,g5,g6,hE⟩;dsimp only [List.cons_append,List.nil_append] at g1 g2 g3 g4 g5 g6 hE ⊢;clear hT;obtain ⟨k,rfl⟩:∃ x,k=x+1:=⟨k - 1,by omega⟩;rw [KE] at hE;have x0:((m - i:Nat):Int)=(m:Int) - i:=by omega
 by_cases hij:i=j
 ·subst hij
  rw [if_pos rfl] at hE;subst hE;have c1:=ZE f e1 e2 G (m - i) m i (by omega) (by omega) (by omega);rw [x0] at c1;refine Aj ?_;refine Bn [(0,0)] c1 ?_;refine A5 ?_;refine Ak ⟨rfl,?_⟩;refine Aj ?_;exact BZ []
 ·rw [if_neg hij] at hE
  by_cases hgt:i > j
  ·rw [if_pos hgt] at hE
   have c1:=ZE f e1 e2 G (m - i) m j (by omega) (by omega) (by omega);rw [x0] at c1;have hlen:=D4 G (m - i) m j;generalize Jf G (m - i) m j=G2 at *;refine Aj ?_;refine Bn [(0,0)] c1 ?_;refine A5 ?_;refine Ak ⟨rfl,?_⟩;refine Aj ?_;exact ⟨((k,i - j,j),G2),by show k<k+1; omega,⟨by show i - j+j≤k; omega,by show 0<i - j; omega,g3,by show i - j≤m; omega,g5,by show G2.length=_; omega,hE⟩,BI hC.m [] (by rw [show ((i - j:Nat):Int)=(i:Int) - j from by omega]; rfl)⟩
  ·rw [if_neg hgt] at hE
   have c1:=ZE f e1 e2 G (m - i) (m+j - i) i (by omega) (by omega) (by omega);rw [x0,show ((m+j - i:Nat):Int)=(m:Int)+j - i from by omega] at c1;have hlen:=D4 G (m - i) (m+j - i) i;generalize Jf G (m - i) (m+j - i) i=G2 at *;refine Aj ?_;refine Bn [(0,0)] c1 ?_;refine A5 ?_;refine Ak ⟨rfl,?_⟩;refine Aj ?_;exact ⟨((k,i,j - i),G2),by show k<k+1; omega,⟨by show i+(j - i)≤k; omega,g2,by show 0<j - i; omega,g4,by show m+(j - i)≤_; omega,by show G2.length=_; omega,hE⟩,BI hC.m [] (by rw [show ((j - i:Nat):Int)=(j:Int) - i from by omega]; rfl)⟩
def WR (p:Nat→Bool):Nat→Nat→Nat→Nat
 | 0,i,_=>i
 | k+1,i,j=>if i<j then (if p ((i+j) / 2)=true then WR p k ((i+j) / 2+1) j else WR p k i ((i+j) / 2)) else i
theorem JW (p:Nat→Bool):∀ k i j,i≤j→i≤WR p k i j∧WR p k i j≤j
 | 0,i,j,h=>⟨Nat.le_refl _,h⟩
 | k+1,i,j,h=>by
   rw [WR];split
   ·split
    ·have:=JW p k ((i+j) / 2+1) j (by omega); omega
    ·have:=JW p k i ((i+j) / 2) (by omega); omega
   ·omega
theorem Ti (p:Nat→Bool) {k i j:Nat} (h:¬ i<j):WR p k i j=i:=by
 cases k with
 | zero=>rfl
 | succ k=>rw [WR,if_neg h]
def shU (D:List Int) (a:Nat):Nat→List Int
 | 0=>D
 | n+1=>swp (shU D a n) (a+n) (a+n+1)
theorem P3 (D:List Int) (a:Nat):∀ n,(shU D a n).length=D.length
 | 0=>rfl
 | n+1=>by rw [shU,L6,P3 D a n]
theorem AeL (D:List Int) (a:Nat):∀ n,a+n<D.length∨n=0→∀ z ∈ shU D a n,z ∈ D
 | 0,_,z,hz=>hz
 | n+1,h,z,hz=>by
   rw [shU] at hz;exact AeL D a n (by omega) z (P1 (by rw [P3]; omega) (by rw [P3]; omega) z hz)
def shD (D:List Int) (m:Nat):Nat→List Int
 | 0=>D
 | n+1=>swp (shD D m n) (m - n) (m - n - 1)
theorem P4 (D:List Int) (m:Nat):∀ n,(shD D m n).length=D.length
 | 0=>rfl
 | n+1=>by rw [shD,L6,P4 D m n]
theorem AeM (D:List Int) (m:Nat) (hm:m<D.length):∀ n,∀ z ∈ shD D m n,z ∈ D
 | 0,z,hz=>hz
 | n+1,z,hz=>by
   rw [shD] at hz;exact AeM D m hm n z (P1 (by rw [P4]; omega) (by rw [P4]; omega) z hz)
def AkL (c:Int→Int→Int) (D:List Int) (a m b:Nat):Nat:=WR (fun h=>decide (c (D.getD h 0) (D.getD a 0)<0)) b m b
def Anf (c:Int→Int→Int) (D:List Int) (a m b:Nat):Nat:=WR (fun h => !decide (c (D.getD m 0) (D.getD h 0)<0)) m a m
def DU (c:Int→Int→Int) (D:List Int) (a m b:Nat):Nat :=
 WR (fun h => !decide (c (D.getD ((a+b) / 2+m - 1 - h) 0) (D.getD h 0)<0)) b (if m > (a+b) / 2 then (a+b) / 2+m - b else a) (if m > (a+b) / 2 then (a+b) / 2 else m)
def SW (c:Int→Int→Int) (D:List Int) (a m b:Nat):List Int :=
 if DU c D a m b<m∧m<(a+b) / 2+m - DU c D a m b then KE m ((a+b) / 2+m - DU c D a m b - DU c D a m b) (m - DU c D a m b) ((a+b) / 2+m - DU c D a m b - m) D else D
def DV (c:Int→Int→Int):Nat→List Int→Nat→Nat→Nat→List Int
 | 0,D,_,_,_=>D
 | k+1,D,a,m,b =>
   if m - a=1 then shU D a (AkL c D a m b - 1 - a)
   else if b - m=1 then shD D m (m - Anf c D a m b)
   else
    if (a+b) / 2<(a+b) / 2+m - DU c D a m b∧(a+b) / 2+m - DU c D a m b<b then
     DV c k (if a<DU c D a m b∧DU c D a m b<(a+b) / 2 then DV c k (SW c D a m b) a (DU c D a m b) ((a+b) / 2) else SW c D a m b) ((a+b) / 2) ((a+b) / 2+m - DU c D a m b) b
    else (if a<DU c D a m b∧DU c D a m b<(a+b) / 2 then DV c k (SW c D a m b) a (DU c D a m b) ((a+b) / 2) else SW c D a m b)
theorem Vw (c:Int→Int→Int) (D:List Int) (a m b:Nat):(SW c D a m b).length=D.length:=by
 unfold SW; split
 ·exact Vu ..
 ·rfl
theorem AbT (c:Int→Int→Int) (D:List Int) (a m b:Nat) (h1:a<m) (h2:m<b) (hb:b≤D.length):∀ z ∈ SW c D a m b,z ∈ D:=fun z hz=>by
 have hs:(if m > (a+b) / 2 then (a+b) / 2+m - b else a)≤(if m > (a+b) / 2 then (a+b) / 2 else m):=by split<;>omega
 have hr:=JW (fun h => !decide (c (D.getD ((a+b) / 2+m - 1 - h) 0) (D.getD h 0)<0)) b _ _ hs;change _≤DU c D a m b∧DU c D a m b≤_ at hr;unfold SW at hz;generalize DU c D a m b=s at *;split at hz
 ·refine Vv m _ _ _ D (by omega) ?_ z hz
  revert hr
  split<;>intro hr<;>omega
 ·exact hz
theorem DG (c:Int→Int→Int):∀ k D a m b,(DV c k D a m b).length=D.length
 | 0,_,_,_,_=>rfl
 | k+1,D,a,m,b=>by
   have hR:=Vw c D a m b;rw [DV];split
   ·exact P3 ..
   ·split
    ·exact P4 ..
    ·split
     ·rw [DG c k]
      split
      ·rw [DG c k,hR]
      ·exact hR
     ·split
      ·rw [DG c k,hR]
      ·exact hR
theorem AbU (c:Int→Int→Int) (D:List Int) (a m b:Nat) (h1:a<m) (h2:m<b):a≤DU c D a m b∧DU c D a m b≤(a+b) / 2∧DU c D a m b≤m∧(a+b) / 2+m - DU c D a m b≤b:=by
 have hs:(if m > (a+b) / 2 then (a+b) / 2+m - b else a)≤(if m > (a+b) / 2 then (a+b) / 2 else m):=by split<;>omega
 have hr:=JW (fun h => !decide (c (D.getD ((a+b) / 2+m - 1 - h) 0) (D.getD h 0)<0)) b _ _ hs;change _≤DU c D a m b∧DU c D a m b≤_ at hr;generalize DU c D a m b=s at *
 revert hr
 split<;>intro hr<;>omega
theorem Fo (c:Int→Int→Int):∀ k D a m b,a<m→m<b→b≤D.length→∀ z ∈ DV c k D a m b,z ∈ D
 | 0,_,_,_,_,_,_,_,z,hz=>hz
 | k+1,D,a,m,b,h1,h2,hb,z,hz=>by
   have hR:=Vw c D a m b;have hM:=AbT c D a m b h1 h2 hb;have hS:=AbU c D a m b h1 h2;rw [DV] at hz;split at hz
   ·have hi:=JW (fun h=>decide (c (D.getD h 0) (D.getD a 0)<0)) b m b (by omega)
    change _≤AkL c D a m b∧AkL c D a m b≤_ at hi;exact AeL D a _ (by omega) z hz
   ·split at hz
    ·exact AeM D m (by omega) _ z hz
    ·have mid:∀ z ∈ (if a<DU c D a m b∧DU c D a m b<(a+b) / 2 then DV c k (SW c D a m b) a (DU c D a m b) ((a+b) / 2) else SW c D a m b),z ∈ D:=fun z hz=>by
      split at hz
      ·exact hM z (Fo c k _ _ _ _ (by omega) (by omega) (by rw [hR]; omega) z hz)
      ·exact hM z hz
     split at hz
     ·rename_i g
      refine mid z (Fo c k _ _ _ _ g.1 g.2 ?_ z hz);split
      ·rw [DG,hR]; exact hb
      ·rw [hR]; exact hb
     ·exact mid z hz
theorem AeN {i j:Nat}:(((i:Int)+j) / 2)=(((i+j) / 2:Nat):Int):=by omega
theorem Ga {D:List Int} {i:Nat} (h:i<D.length):D.getD i 0 ∈ D∧D[i]? = some (D.getD i 0):=by
 refine ⟨?_,?_⟩<;>rw [List.getD_eq_getElem?_getD,List.getElem?_eq_getElem h]
 ·exact List.getElem_mem _
 ·rfl
theorem Amj (f:FuncId) (e1 e2:List (List AV)) (c:Int→Int→Int) (P:Int→Prop) (hf:∀ x y,P x→P y→Ae Tryz.prog f [nA x,nA y,.ep 1 e1 0 0,.ep 3 e2 0 0] (nA (c x y)))
 (k:Nat) (ih:∀ (D:List Int) (a m b:Nat),b - a≤k→D.length≤1000→(∀ z ∈ D,P z)→a<m→m<b→b≤D.length →
  Dn Tryz.prog 179 [.own 0,nA a,nA m,nA b,.fn f [] [.ep 1 e1 0 0,.ep 3 e2 0 0]] [(0,some ⟨true,false,3,1,Ab .i64 D⟩)] 1 (.tup []) [(0,some ⟨true,false,3,1,Ab .i64 (DV c k D a m b)⟩)] 1)
 (D:List Int) (a m b:Nat) (hk:b - a≤k+1) (hl:D.length≤1000) (hD:∀ z ∈ D,P z) (h1:a<m) (h2:m<b) (hb:b≤D.length) (ha1:¬ m - a=1) (hb1:¬ b - m=1) :
 Dn Tryz.prog 179 [.own 0,nA a,nA m,nA b,.fn f [] [.ep 1 e1 0 0,.ep 3 e2 0 0]] [(0,some ⟨true,false,3,1,Ab .i64 D⟩)] 1 (.tup []) [(0,some ⟨true,false,3,1,Ab .i64 (DV c (k+1) D a m b)⟩)] 1:=by
 have hp:(2:Int) ^ (min (1:Int).toNat IntKind.u64.bits)=2:=rfl;have lD:=Ac .i64 D;rw [DV,if_neg ha1,if_neg hb1];obtain ⟨h3,h4,h5,h6⟩:=AbU c D a m b h1 h2;have hRl:=Vw c D a m b;have hRm:=AbT c D a m b h1 h2 hb;have hR:SW c D a m b=if DU c D a m b<m∧m<(a+b) / 2+m - DU c D a m b then KE m ((a+b) / 2+m - DU c D a m b - DU c D a m b) (m - DU c D a m b) ((a+b) / 2+m - DU c D a m b - m) D else D:=rfl
 have hS:DU c D a m b=WR (fun h => !decide (c (D.getD ((a+b) / 2+m - 1 - h) 0) (D.getD h 0)<0)) b (if m > (a+b) / 2 then (a+b) / 2+m - b else a) (if m > (a+b) / 2 then (a+b) / 2 else m):=rfl;generalize SW c D a m b=R at *;generalize DU c D a m b=S at *;obtain ⟨M,hM⟩:∃ M,M=(a+b) / 2:=⟨_,rfl⟩;rw [← hM] at hR hS h4 h6 ⊢;generalize hT:(if M<M+m - S∧M+m - S<b then DV c k (if a<S∧S<M then DV c k R a S M else R) M (M+m - S) b else (if a<S∧S<M then DV c k R a S M else R))=T;have v1:IntKind.u64.wrap ((a:Int)+b)=(a:Int)+b:=IntWalk.u64_in _ ⟨by omega,by omega⟩;have v2:IntKind.i64.wrap (((a:Int)+b) / 2)=((a:Int)+b) / 2:=IntWalk.i64_in _ ⟨by omega,by omega⟩;refine BK Ce fun C hC => ?_;by_cases hmM:m > M
 ·rw [if_pos hmM,if_pos hmM] at hS
  refine Aj ?_
  refine Ai [0,1,2,3,4,18,19,22] [0] (fun p:Nat × Nat × Nat=>[(20,nA p.2.1),(21,nA p.2.2)]) (fun _=>[]) 1
   (fun p=>p.2.2 - p.2.1≤p.1∧M+m - b≤p.2.1∧p.2.1≤p.2.2∧p.2.2≤M∧S=WR (fun h => !decide (c (D.getD (M+m - 1 - h) 0) (D.getD h 0)<0)) p.1 p.2.1 p.2.2) (fun p=>p.1) (b,M+m - b,M) ⟨by show M - (M+m - b)≤b; omega,Nat.le_refl _,by show M+m - b≤M; omega,Nat.le_refl _,hS⟩ ?_ (ht:=by show _=_; rw [show ((M+m - b:Nat):Int)=((a:Int)+b) / 2+m - b from by omega,show (M:Int)=((a:Int)+b) / 2 from by omega]; rfl)
  rintro ⟨q,i,j⟩ ⟨g1,g2,g3,g4,hE⟩;dsimp only [List.cons_append,List.nil_append] at g1 g2 g3 g4 hE ⊢;clear hS;by_cases hij:i<j
  ·obtain ⟨q,rfl⟩:∃ x,q=x+1:=⟨q - 1,by omega⟩
   rw [WR,if_pos hij] at hE;obtain ⟨H,hH⟩:∃ H,H=(i+j) / 2:=⟨_,rfl⟩;rw [← hH] at hE;have gh:=Ga (D:=D) (i:=H) (by omega);have gp:=Ga (D:=D) (i:=M+m - 1 - H) (by omega);have ghk:(Ab .i64 D)[(((i:Int)+j) / 2).toNat]? = some [.lit (.int .i64 (D.getD H 0))]:=by rw [show (((i:Int)+j) / 2).toNat=H from by omega]; exact Az gh.2
   have gpk:(Ab .i64 D)[(((a:Int)+b) / 2+m - 1 - ((i:Int)+j) / 2).toNat]? = some [.lit (.int .i64 (D.getD (M+m - 1 - H) 0))]:=by rw [show (((a:Int)+b) / 2+m - 1 - ((i:Int)+j) / 2).toNat=M+m - 1 - H from by omega]; exact Az gp.2
   have w1:IntKind.u64.wrap ((i:Int)+j)=(i:Int)+j:=IntWalk.u64_in _ ⟨by omega,by omega⟩;have w2:IntKind.i64.wrap (((i:Int)+j) / 2)=((i:Int)+j) / 2:=IntWalk.i64_in _ ⟨by omega,by omega⟩;have c1:=hf _ _ (hD _ gp.1) (hD _ gh.1);generalize D.getD H 0=u at *;generalize D.getD (M+m - 1 - H) 0=v at *;generalize c v u=t at *;clear ih hT hR;by_cases ht:t<0
   ·rw [if_neg (by simpa using ht)] at hE
    refine Aj ?_;exact ⟨(q,i,H),by show q<q+1; omega,⟨by show H - i≤q; omega,g2,by show i≤H; omega,by show H≤_; omega,hE⟩,BI hC.m [] (by rw [show (H:Int)=((i:Int)+j) / 2 from by omega]; rfl)⟩
   ·rw [if_pos (by simpa using ht)] at hE
    refine Aj ?_;exact ⟨(q,H+1,j),by show q<q+1; omega,⟨by show j - (H+1)≤q; omega,by show _≤H+1; omega,by show H+1≤j; omega,g4,hE⟩,BI hC.m [] (by rw [show ((H+1:Nat):Int)=((i:Int)+j) / 2+1 from by omega]; rfl)⟩
  ·rw [Ti _ hij] at hE
   subst hE;have cE:((M+m - S:Nat):Int)=((a:Int)+b) / 2+m - S:=by omega
   have cM:(M:Int)=((a:Int)+b) / 2:=by omega
   by_cases xr:S<M
   ·skip
    by_cases xs:a<S
    ·skip
     by_cases xt:M+m - S<b
     ·skip
      have hRR:R=KE m (M+m - S - S) (m - S) (M+m - S - m) D:=by rw [hR,if_pos ⟨by omega,by omega⟩]
      have cr:=Jg f e1 e2 D S m (M+m - S) hl (by omega) (by omega) (by omega);rw [← hRR,cE] at cr;clear hRR hR;have cs1:=ih R a S M (by omega) (by omega) (fun z hz=>hD z (hRm z hz)) (by omega) (by omega) (by omega);rw [cM] at cs1;have hQl:=DG c k R a S M;have hQm:=Fo c k R a S M (by omega) (by omega) (by omega);rw [show (if a<S∧S<M then DV c k R a S M else R)=DV c k R a S M from if_pos ⟨by omega,by omega⟩] at hT;generalize DV c k R a S M=Q at *;have cs2:=ih Q M (M+m - S) b (by omega) (by omega) (fun z hz=>hD z (hRm z (hQm z hz))) (by omega) (by omega) (by omega);rw [if_pos ⟨by omega,by omega⟩] at hT;rw [hT,cE,cM] at cs2;clear hT;clear ih;refine Aj ?_;refine Bn [(0,0)] cr ?_;refine A5 ?_;refine Ak ⟨rfl,?_⟩;refine Aj ?_;refine Bn [(0,0)] cs1 ?_;refine A5 ?_;refine Ak ⟨rfl,?_⟩;refine Aj ?_;refine Bn [(0,0)] cs2 ?_;refine A5 ?_;refine Ak ⟨rfl,?_⟩;refine Aj ?_;exact BZ []
     ·skip
      have hRR:R=KE m (M+m - S - S) (m - S) (M+m - S - m) D:=by rw [hR,if_pos ⟨by omega,by omega⟩]
      have cr:=Jg f e1 e2 D S m (M+m - S) hl (by omega) (by omega) (by omega);rw [← hRR,cE] at cr;clear hRR hR;have cs1:=ih R a S M (by omega) (by omega) (fun z hz=>hD z (hRm z hz)) (by omega) (by omega) (by omega);rw [cM] at cs1;have hQl:=DG c k R a S M;have hQm:=Fo c k R a S M (by omega) (by omega) (by omega);rw [show (if a<S∧S<M then DV c k R a S M else R)=DV c k R a S M from if_pos ⟨by omega,by omega⟩] at hT;generalize DV c k R a S M=Q at *;rw [if_neg (by omega)] at hT;subst hT;clear ih;refine Aj ?_;refine Bn [(0,0)] cr ?_;refine A5 ?_;refine Ak ⟨rfl,?_⟩;refine Aj ?_;refine Bn [(0,0)] cs1 ?_;refine A5 ?_;refine Ak ⟨rfl,?_⟩;refine Aj ?_;exact BZ []
    ·skip
     by_cases xt:M+m - S<b
     ·skip
      exfalso; omega
     ·skip
      have hRR:R=KE m (M+m - S - S) (m - S) (M+m - S - m) D:=by rw [hR,if_pos ⟨by omega,by omega⟩]
      have cr:=Jg f e1 e2 D S m (M+m - S) hl (by omega) (by omega) (by omega);rw [← hRR,cE] at cr;clear hRR hR;rw [show (if a<S∧S<M then DV c k R a S M else R)=R from if_neg (by omega)] at hT;rw [if_neg (by omega)] at hT;subst hT;clear ih;refine Aj ?_;refine Bn [(0,0)] cr ?_;refine A5 ?_;refine Ak ⟨rfl,?_⟩;refine Aj ?_;exact BZ []
   ·skip
    by_cases xs:a<S
    ·skip
     have hRR:R=D:=by rw [hR,if_neg (by omega)]
     clear hR;subst hRR;rw [show (if a<S∧S<M then DV c k R a S M else R)=R from if_neg (by omega)] at hT;have cs2:=ih R M (M+m - S) b (by omega) (by omega) (fun z hz=>hD z (hRm z hz)) (by omega) (by omega) (by omega);rw [if_pos ⟨by omega,by omega⟩] at hT;rw [hT,cE,cM] at cs2;clear hT;clear ih;refine Aj ?_;refine Bn [(0,0)] cs2 ?_;refine A5 ?_;refine Ak ⟨rfl,?_⟩;refine Aj ?_;exact BZ []
    ·skip
     exfalso; omega
 ·rw [if_neg hmM,if_neg hmM] at hS
  refine Aj ?_
  refine Ai [0,1,2,3,4,18,19,22] [0] (fun p:Nat × Nat × Nat=>[(20,nA p.2.1),(21,nA p.2.2)]) (fun _=>[]) 1
   (fun p=>p.2.2 - p.2.1≤p.1∧a≤p.2.1∧p.2.1≤p.2.2∧p.2.2≤m∧S=WR (fun h => !decide (c (D.getD (M+m - 1 - h) 0) (D.getD h 0)<0)) p.1 p.2.1 p.2.2) (fun p=>p.1) (b,a,m) ⟨by show m - (a)≤b; omega,Nat.le_refl _,by show a≤m; omega,Nat.le_refl _,hS⟩ ?_
  rintro ⟨q,i,j⟩ ⟨g1,g2,g3,g4,hE⟩;dsimp only [List.cons_append,List.nil_append] at g1 g2 g3 g4 hE ⊢;clear hS;by_cases hij:i<j
  ·obtain ⟨q,rfl⟩:∃ x,q=x+1:=⟨q - 1,by omega⟩
   rw [WR,if_pos hij] at hE;obtain ⟨H,hH⟩:∃ H,H=(i+j) / 2:=⟨_,rfl⟩;rw [← hH] at hE;have gh:=Ga (D:=D) (i:=H) (by omega);have gp:=Ga (D:=D) (i:=M+m - 1 - H) (by omega);have ghk:(Ab .i64 D)[(((i:Int)+j) / 2).toNat]? = some [.lit (.int .i64 (D.getD H 0))]:=by rw [show (((i:Int)+j) / 2).toNat=H from by omega]; exact Az gh.2
   have gpk:(Ab .i64 D)[(((a:Int)+b) / 2+m - 1 - ((i:Int)+j) / 2).toNat]? = some [.lit (.int .i64 (D.getD (M+m - 1 - H) 0))]:=by rw [show (((a:Int)+b) / 2+m - 1 - ((i:Int)+j) / 2).toNat=M+m - 1 - H from by omega]; exact Az gp.2
   have w1:IntKind.u64.wrap ((i:Int)+j)=(i:Int)+j:=IntWalk.u64_in _ ⟨by omega,by omega⟩;have w2:IntKind.i64.wrap (((i:Int)+j) / 2)=((i:Int)+j) / 2:=IntWalk.i64_in _ ⟨by omega,by omega⟩;have c1:=hf _ _ (hD _ gp.1) (hD _ gh.1);generalize D.getD H 0=u at *;generalize D.getD (M+m - 1 - H) 0=v at *;generalize c v u=t at *;clear ih hT hR;by_cases ht:t<0
   ·rw [if_neg (by simpa using ht)] at hE
    refine Aj ?_;exact ⟨(q,i,H),by show q<q+1; omega,⟨by show H - i≤q; omega,g2,by show i≤H; omega,by show H≤_; omega,hE⟩,BI hC.m [] (by rw [show (H:Int)=((i:Int)+j) / 2 from by omega]; rfl)⟩
   ·rw [if_pos (by simpa using ht)] at hE
    refine Aj ?_;exact ⟨(q,H+1,j),by show q<q+1; omega,⟨by show j - (H+1)≤q; omega,by show _≤H+1; omega,by show H+1≤j; omega,g4,hE⟩,BI hC.m [] (by rw [show ((H+1:Nat):Int)=((i:Int)+j) / 2+1 from by omega]; rfl)⟩
  ·rw [Ti _ hij] at hE
   subst hE;have cE:((M+m - S:Nat):Int)=((a:Int)+b) / 2+m - S:=by omega
   have cM:(M:Int)=((a:Int)+b) / 2:=by omega
   by_cases xr:S<m
   ·skip
    by_cases xs:a<S
    ·skip
     by_cases xt:M+m - S<b
     ·skip
      have hRR:R=KE m (M+m - S - S) (m - S) (M+m - S - m) D:=by rw [hR,if_pos ⟨by omega,by omega⟩]
      have cr:=Jg f e1 e2 D S m (M+m - S) hl (by omega) (by omega) (by omega);rw [← hRR,cE] at cr;clear hRR hR;have cs1:=ih R a S M (by omega) (by omega) (fun z hz=>hD z (hRm z hz)) (by omega) (by omega) (by omega);rw [cM] at cs1;have hQl:=DG c k R a S M;have hQm:=Fo c k R a S M (by omega) (by omega) (by omega);rw [show (if a<S∧S<M then DV c k R a S M else R)=DV c k R a S M from if_pos ⟨by omega,by omega⟩] at hT;generalize DV c k R a S M=Q at *;have cs2:=ih Q M (M+m - S) b (by omega) (by omega) (fun z hz=>hD z (hRm z (hQm z hz))) (by omega) (by omega) (by omega);rw [if_pos ⟨by omega,by omega⟩] at hT;rw [hT,cE,cM] at cs2;clear hT;clear ih;refine Aj ?_;refine Bn [(0,0)] cr ?_;refine A5 ?_;refine Ak ⟨rfl,?_⟩;refine Aj ?_;refine Bn [(0,0)] cs1 ?_;refine A5 ?_;refine Ak ⟨rfl,?_⟩;refine Aj ?_;refine Bn [(0,0)] cs2 ?_;refine A5 ?_;refine Ak ⟨rfl,?_⟩;refine Aj ?_;exact BZ []
     ·skip
      exfalso; omega
    ·skip
     by_cases xt:M+m - S<b
     ·skip
      have hRR:R=KE m (M+m - S - S) (m - S) (M+m - S - m) D:=by rw [hR,if_pos ⟨by omega,by omega⟩]
      have cr:=Jg f e1 e2 D S m (M+m - S) hl (by omega) (by omega) (by omega);rw [← hRR,cE] at cr;clear hRR hR;rw [show (if a<S∧S<M then DV c k R a S M else R)=R from if_neg (by omega)] at hT;have cs2:=ih R M (M+m - S) b (by omega) (by omega) (fun z hz=>hD z (hRm z hz)) (by omega) (by omega) (by omega);rw [if_pos ⟨by omega,by omega⟩] at hT;rw [hT,cE,cM] at cs2;clear hT;clear ih;refine Aj ?_;refine Bn [(0,0)] cr ?_;refine A5 ?_;refine Ak ⟨rfl,?_⟩;refine Aj ?_;refine Bn [(0,0)] cs2 ?_;refine A5 ?_;refine Ak ⟨rfl,?_⟩;refine Aj ?_;exact BZ []
     ·skip
      have hRR:R=KE m (M+m - S - S) (m - S) (M+m - S - m) D:=by rw [hR,if_pos ⟨by omega,by omega⟩]
      have cr:=Jg f e1 e2 D S m (M+m - S) hl (by omega) (by omega) (by omega);rw [← hRR,cE] at cr;clear hRR hR;rw [show (if a<S∧S<M then DV c k R a S M else R)=R from if_neg (by omega)] at hT;rw [if_neg (by omega)] at hT;subst hT;clear ih;refine Aj ?_;refine Bn [(0,0)] cr ?_;refine A5 ?_;refine Ak ⟨rfl,?_⟩;refine Aj ?_;exact BZ []
   ·skip
    by_cases xs:S<M
    ·skip
     have hRR:R=D:=by rw [hR,if_neg (by omega)]
     clear hR;subst hRR;have cs1:=ih R a S M (by omega) (by omega) (fun z hz=>hD z (hRm z hz)) (by omega) (by omega) (by omega);rw [cM] at cs1;have hQl:=DG c k R a S M;have hQm:=Fo c k R a S M (by omega) (by omega) (by omega);rw [show (if a<S∧S<M then DV c k R a S M else R)=DV c k R a S M from if_pos ⟨by omega,by omega⟩] at hT;generalize DV c k R a S M=Q at *;rw [if_neg (by omega)] at hT;subst hT;clear ih;refine Aj ?_;refine Bn [(0,0)] cs1 ?_;refine A5 ?_;refine Ak ⟨rfl,?_⟩;refine Aj ?_;exact BZ []
    ·skip
     have hRR:R=D:=by rw [hR,if_neg (by omega)]
     clear hR;subst hRR;rw [show (if a<S∧S<M then DV c k R a S M else R)=R from if_neg (by omega)] at hT;rw [if_neg (by omega)] at hT;subst hT;clear ih;refine Aj ?_;exact BZ []
end Go.Proofs.YtjcolpcfcdkckaaGreat
