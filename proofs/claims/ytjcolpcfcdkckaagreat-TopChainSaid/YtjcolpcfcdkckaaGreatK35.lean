/- Take and drop. -/
import Derived.Test.YtjcolpcfcdkckaaGreatK34
set_option maxRecDepth 10000
set_option maxHeartbeats 4000000
namespace Go.Proofs.YtjcolpcfcdkckaaGreat
set_option linter.unusedVariables false
open Go.RowKit
def CA (F b:List Int) (j:Nat):List Int:=F.take j++b.drop j
theorem G3 (F b:List Int):CA F b 0=b:=by simp [CA]
theorem Jl {F b:List Int} (h:F.length≤b.length) {j:Nat} (hj:j≤F.length):(CA F b j).length=b.length:=by simp [CA]; omega
theorem HD {F b:List Int} (h:F.length≤b.length) {j:Nat} (hj:j<F.length):(CA F b j)[j]? = b[j]? := by
 rw [CA,List.getElem?_append_right (by simp; omega),List.length_take,Nat.min_eq_left (by omega),Nat.sub_self,List.getElem?_drop,Nat.add_zero]
theorem Gd {F b:List Int} (h:F.length≤b.length) {j:Nat} {v:Int} (hv:F[j]? = some v):(CA F b j).set j v=CA F b (j+1):=by
 have hj:=(List.getElem?_eq_some_iff.1 hv).1;obtain ⟨x,hx⟩:∃ x,b[j]? = some x:=⟨_,List.getElem?_eq_getElem (by omega)⟩;rw [CA,CA,List.set_append_right _ _ (by simp; omega),BO hv,AU hx,List.length_take,Nat.min_eq_left (by omega),Nat.sub_self,List.set_cons_zero,List.append_assoc];rfl
theorem Ab2 {F b:List Int} (h:F.length≤b.length) {j:Nat} {v:Int} (hv:F[j]? = some v):(CA F b (j+1))[j]? = some v:=by
 have hj:=(List.getElem?_eq_some_iff.1 hv).1;rw [CA,List.getElem?_append_left (by simp; omega),List.getElem?_take,if_pos (by omega)]; exact hv
theorem XN {F b:List Int} (h:F.length≤b.length) {j:Nat} {v:Int} (hv:F[j]? = some v) (hb:b[j]? = some v):CA F b j=CA F b (j+1):=by
 rw [← Gd h hv];have hj:=(List.getElem?_eq_some_iff.1 hv).1;have hg:(CA F b j)[j]? = some v:=(HD h hj).trans hb;obtain ⟨hl,hg2⟩:=List.getElem?_eq_some_iff.1 hg
 conv=>lhs; rw [← List.set_getElem_self hl]
 rw [hg2]
def BW (F b:List Int):List Int:=F++b.drop F.length
theorem Jm (F b:List Int):CA F b F.length=BW F b:=by simp [CA,BW]
def MY (f g:Int→Int→Int) (N A:Al):Al × Int :=
 if (Jq N A).2.2≠0 then (zA,(Jq N A).2.2) else
 if (Co (BW (List.zipWith f (Jq N A).1 (Jq N A).2.1) (Jq N A).2.1)).2≠0 then (zA,(Co (BW (List.zipWith f (Jq N A).1 (Jq N A).2.1) (Jq N A).2.1)).2) else
 (.mk (A.s ||| A8 N) (BW (List.zipWith f (Jq N A).1 (Jq N A).2.1) (Jq N A).2.1)
  (EX (BW (List.zipWith g (Jq N A).1 (Jq N A).2.1) (List.replicate (Jq N A).2.1.length 0)) (BW (List.zipWith f (Jq N A).1 (Jq N A).2.1) (Jq N A).2.1) (Jq N A).2.1 A
   (Co (BW (List.zipWith f (Jq N A).1 (Jq N A).2.1) (Jq N A).2.1)).1.toNat),0)
def Ry (k z:Int):Int:=Fq k
def Qd (k z:Int):Int:=if k<0 then z - Fq k else 0
def SX (k z:Int):Int:=z - min (Fq k) z
def Qe (k z:Int):Int:=if k > 0 then min (Fq k) z else 0
theorem XO:∀ {cs:List Ah} {l:List Int},Ez cs=some l→∀ z ∈ l,-9223372036854775808≤z∧z≤9223372036854775807
 | [],l,h,z,hz=>by simp only [Ez,Option.some.injEq] at h; subst h; simp at hz
 | c::cs,l,h,z,hz=>by
   rw [Ez] at h;split at h
   ·rename_i y l' h1 h2
    simp only [Option.some.injEq] at h; subst h;rcases List.mem_cons.1 hz with rfl|hz
    ·unfold intOf at h1
     split at h1
     ·split at h1
      ·simp only [Option.some.injEq] at h1
       rw [← h1]; unfold Df;split
       ·exact PB _ _
       ·simp
      ·cases h1
     ·cases h1
    ·exact XO h2 z hz
   ·cases h
theorem XP (N:Al):∀ z ∈ (AB N).1,-9223372036854775808≤z∧z≤9223372036854775807:=by
 unfold AB;split
 ·simp
 ·split
  ·rename_i l hl; exact XO hl
  ·simp
theorem AiX:∀ n:Nat,n≤6→Co (List.replicate n 1)=(1,0)
 | 0,_=>rfl
 | 1,_=>rfl
 | 2,_=>rfl
 | 3,_=>rfl
 | 4,_=>rfl
 | 5,_=>rfl
 | 6,_=>rfl
 | n+7,h=>by omega
theorem AiY {N A:Al} (kA:CI A) (h:(Jq N A).2.2=0):(Jq N A).1.length≤(Jq N A).2.1.length∧(Co (Jq N A).2.1).2=0∧AA (Jq N A).2.1=A.cells.length∧∀ z ∈ (Jq N A).1,-9223372036854775808≤z∧z≤9223372036854775807:=by
 have hr:=XP N;unfold Jq at h ⊢;split at h
 ·rename_i h1; exact absurd h h1
 ·rename_i h1
  rw [if_neg h1];split at h
  ·rename_i h2
   rw [if_pos h2];split at h
   ·cases h
   ·rename_i h3
    rw [if_neg h3];exact ⟨by dsimp only; omega,kA.e,kA.prod,hr⟩
  ·rename_i h2
   rw [if_neg h2];split at h
   ·cases h
   ·rename_i h3
    rw [if_neg h3];have hc:=AiX (AB N).1.length (by omega);have hs:A.shape=[]:=List.eq_nil_of_length_eq_zero (by omega);have hp:=kA.c;rw [hs] at hp;refine ⟨by simp,by dsimp only; rw [hc],?_,hr⟩;dsimp only;rw [← E7 (by rw [hc]),hc];exact hp
theorem AiZ {l s:List Int} (hs:Small s):∀ f ∈ BW (List.zipWith Qd l s) (List.replicate s.length 0),-10000≤f∧f≤10000:=by
 intro f hf;rcases List.mem_append.1 hf with h|h
 ·obtain ⟨j,hj⟩:=List.getElem?_of_mem h
  rw [List.getElem?_zipWith] at hj;split at hj
  ·rename_i k z hk hz
   simp only [Option.some.injEq] at hj
   have:=hs z (List.mem_of_getElem? hz)
   have:=Qb k
   rw [← hj]; unfold Qd; split<;>omega
  ·cases hj
 ·have:=List.mem_of_mem_drop h
  rw [(List.mem_replicate.1 this).2]; omega
theorem Amu (N A:Al) (hN:arrOK N) (kN:CI N) (kA:CI A):Ae Tryz.prog 21 [.agg (Ao N),.agg (Ao A)] (.tup [.agg (Ao (MY Ry Qd N A).1),nA (MY Ry Qd N A).2]):=by
 have hB:A2=1000000000:=rfl;have c0:=AiP N A hN kN kA.len;have hok := @AiY N A kA;have hAs:=kA.ok.parts.1;have hAl:=kA.cells;unfold MY;generalize Jq N A=x at c0 hok ⊢;obtain ⟨l,s,e⟩:=x;dsimp only at c0 hok ⊢;by_cases h0:e=0
 ·subst h0
  rw [if_neg (show ¬ ((0:Int)≠0) from fun h=>h rfl)];obtain ⟨k1,k2,k3,k4⟩:=hok rfl;clear hok;have ls6:=CF k2;have sms:=BG k2;have hfr:=AiZ (l:=l) sms;by_cases hs0:s.length=0
  ·obtain rfl:=List.eq_nil_of_length_eq_zero hs0
   obtain rfl:l=[]:=List.eq_nil_of_length_eq_zero (by simpa using k1);have e1:BW (List.zipWith Ry [] []) []=[]:=rfl;have e2:BW (List.zipWith Qd [] []) (List.replicate ([]:List Int).length 0)=[]:=rfl;rw [e1,e2,JZ,if_neg (show ¬ ((0:Int)≠0) from fun h=>h rfl)];have co:=AiR [] (by simp);have cc:=FT [];rw [JZ] at cc;have cs:=ZS [] [] [] A 1 rfl rfl rfl (by simp) rfl k3 hAl;have ct:=ZQ N A [] (EX [] [] [] A 1) kN.ok hAs;rw [show ((1:Int),(0:Int)).1.toNat=1 from rfl];generalize EX [] [] [] A 1=CS at cs ct ⊢;refine AE IC Iy fun C hC => ?_;refine Aj ?_;intro ds;refine Aj ?_;refine Ai [2,3,4,5,6,7,8,26,27] [0,1,2,3,4] (fun j:Nat=>[(28,nA 0)]) (fun j=>[]) 5 (fun j=>True) (fun j=>j) 0 trivial ?_;rintro j -;dsimp only [List.cons_append,List.nil_append];refine Aj ?_;exact Am
  have ll:=Ac .i64 l;have ls:=Ac .i64 s;have hSl:(List.zipWith Ry l s).length≤s.length:=by simp; omega
  have hGl:(List.zipWith Qd l s).length≤(List.replicate s.length (0:Int)).length:=by simp; omega
  have hSn:(List.zipWith Ry l s).length=l.length:=by simp; omega
  have hGn:(List.zipWith Qd l s).length=l.length:=by simp; omega
  have hSa:∀ j k z,l[j]? = some k→s[j]? = some z→(List.zipWith Ry l s)[j]? = some (Ry k z):=fun j k z h1 h2=>by rw [List.getElem?_zipWith,h1,h2]
  have hGa:∀ j k z,l[j]? = some k→s[j]? = some z→(List.zipWith Qd l s)[j]? = some (Qd k z):=fun j k z h1 h2=>by rw [List.getElem?_zipWith,h1,h2]
  generalize List.zipWith Ry l s=SF at *;generalize List.zipWith Qd l s=GF at *;have hEl:(BW GF (List.replicate s.length 0)).length=(BW SF s).length:=by simp [BW]; omega
  have cc:=FT (BW SF s);have co:=AiQ s (by omega) ls6;have hcz := @E6 (BW SF s)
  have seen:(Co (BW SF s)).2=0→Ae Tryz.prog 70 [.agg [.sl 1 (Ab .i64 (BW GF (List.replicate s.length 0))),.sl 1 (Ab .i64 (BW SF s))],.agg (Ao A),.sl 1 (Ab .i64 s),nA (Co (BW SF s)).1] (.sl 7 ((EX (BW GF (List.replicate s.length 0)) (BW SF s) s A (Co (BW SF s)).1.toNat).map Av)):=fun h=>by
   have:=ZS (BW GF (List.replicate s.length 0)) (BW SF s) s A (Co (BW SF s)).1.toNat h (by omega) hEl hfr k2 k3 hAl
   rw [Int.toNat_of_nonneg hcz.1] at this;exact this
  have told:∀ CS:List Ah,Ae Tryz.prog 69 [.agg (Ao N),.agg (Ao A),.sl 1 (Ab .i64 (BW SF s)),.sl 7 (CS.map Av)] (.agg (Ao (.mk (A.s ||| A8 N) (BW SF s) CS))):=fun CS=>ZQ N A (BW SF s) CS kN.ok hAs;generalize hL:EX (BW GF (List.replicate s.length 0)) (BW SF s) s A (Co (BW SF s)).1.toNat=L at seen ⊢;generalize Co (BW SF s)=w at cc seen hcz ⊢;obtain ⟨n,e⟩:=w;dsimp only at cc seen hcz ⊢;refine AE IC Iy fun C hC => ?_;refine Aj ?_;intro ds;refine Aj ?_;refine AaL [] co ?_;refine A5 ?_;refine Ak ⟨rfl,?_⟩;refine Aj ?_
  refine Ai [2,3,4,5,6,7,8,26,27] [0,1,2,3,6] (fun j:Nat=>[(28,nA j)])
   (fun j=>[(4,some ⟨true,false,3,1,Ab .i64 (CA GF (List.replicate s.length 0) j)⟩),(5,some ⟨true,false,3,1,Ab .i64 (CA SF s j)⟩)]) 7
   (fun j=>j≤l.length) (fun j=>l.length - j) 0 (Nat.zero_le _) ?_ (hh:=by rw [G3,G3]; rfl)
  intro j hj;dsimp only [List.cons_append,List.nil_append] at hj ⊢;have lS:=Ac .i64 (CA SF s j);rw [Jl hSl (by omega)] at lS;have lG:=Ac .i64 (CA GF (List.replicate s.length 0) j);rw [Jl hGl (by omega),List.length_replicate] at lG;by_cases hlt:j<l.length
  ·obtain ⟨k,hk⟩:∃ k,l[j]? = some k:=⟨_,List.getElem?_eq_getElem hlt⟩
   obtain ⟨z,hz⟩:∃ z,s[j]? = some z:=⟨_,List.getElem?_eq_getElem (by omega)⟩;have hkr:=k4 k (List.mem_of_getElem? hk);have hzr:=sms z (List.mem_of_getElem? hz);have hkk:=Az (k:=.i64) hk;have hzk:=Az (k:=.i64) hz;have hS:=hSa j k z hk hz;have hG:=hGa j k z hk hz;have hz0:(List.replicate s.length (0:Int))[j]? = some 0:=by rw [List.getElem?_replicate,if_pos (by omega)]
   have c1:=Ab1 k hkr.1 hkr.2;have hgr:=Qb k;have set1:(Ab .i64 (CA SF s j)).set j [.lit (.int .i64 (Ry k z))]=Ab .i64 (CA SF s (j+1)):=by rw [← Gd hSl hS]; simp [Ab,List.map_set]
   have got1:=Az (k:=.i64) (Ab2 hSl hS);have old1:=Az (k:=.i64) ((HD hSl (by omega:j<SF.length)).trans hz);have old2:=Az (k:=.i64) ((HD hGl (by omega:j<GF.length)).trans hz0);clear cc seen told co;by_cases hk0:k<0
   ·rw [show Qd k z=z - Fq k from if_pos hk0] at hG
    have set2:(Ab .i64 (CA GF (List.replicate s.length 0) j)).set j [.lit (.int .i64 (z - Fq k))]=Ab .i64 (CA GF (List.replicate s.length 0) (j+1)):=by rw [← Gd hGl hG]; simp [Ab,List.map_set]
    rw [show Ry k z=Fq k from rfl] at set1 got1;rw [← set1] at got1;clear c0 hS hG;generalize Fq k=q at *;refine Aj ?_;exact ⟨j+1,by omega,by omega,BI hC.m [] (by rw [← set1,← set2]; rfl)⟩
   ·rw [show Qd k z=0 from if_neg hk0] at hG
    have same:=XN hGl hG hz0;rw [show Ry k z=Fq k from rfl] at set1 got1;clear c0 hS hG;refine Aj ?_;exact ⟨j+1,by omega,by omega,BI hC.m [] (by rw [← set1,← same]; rfl)⟩
  ·obtain rfl:j=l.length:=by omega
   have eS:CA SF s l.length=BW SF s:=by rw [← hSn,Jm]
   have eG:CA GF (List.replicate s.length 0) l.length=BW GF (List.replicate s.length 0):=by rw [← hGn,Jm]
   rw [eS] at lS;rw [eG] at lG;rw [eS,eG];clear co;refine A4 4 rfl ?_;refine A4 5 rfl ?_;by_cases he:e=0
   ·subst he
    have c2:=seen rfl;have c3:=told L;rw [if_neg (show ¬ ((0:Int)≠0) from fun h=>h rfl)];refine Aj ?_;exact Am
   ·rw [if_pos he]
    refine Aj ?_;exact Am
 ·rw [if_pos h0]
  refine AE IC Iy fun C hC => ?_;refine Aj ?_;intro ds;refine Aj ?_;exact Am
theorem Ai0 {l s:List Int} (hs:Small s):∀ f ∈ BW (List.zipWith Qe l s) (List.replicate s.length 0),-10000≤f∧f≤10000:=by
 intro f hf;rcases List.mem_append.1 hf with h|h
 ·obtain ⟨j,hj⟩:=List.getElem?_of_mem h
  rw [List.getElem?_zipWith] at hj;split at hj
  ·rename_i k z hk hz
   simp only [Option.some.injEq] at hj
   have:=hs z (List.mem_of_getElem? hz)
   have:=Qb k
   rw [← hj]; unfold Qe; split<;>omega
  ·cases hj
 ·have:=List.mem_of_mem_drop h
  rw [(List.mem_replicate.1 this).2]; omega
theorem Amv (N A:Al) (hN:arrOK N) (kN:CI N) (kA:CI A):Ae Tryz.prog 22 [.agg (Ao N),.agg (Ao A)] (.tup [.agg (Ao (MY SX Qe N A).1),nA (MY SX Qe N A).2]):=by
 have hB:A2=1000000000:=rfl;have c0:=AiP N A hN kN kA.len;have hok := @AiY N A kA;have hAs:=kA.ok.parts.1;have hAl:=kA.cells;unfold MY;generalize Jq N A=x at c0 hok ⊢;obtain ⟨l,s,e⟩:=x;dsimp only at c0 hok ⊢;by_cases h0:e=0
 ·subst h0
  rw [if_neg (show ¬ ((0:Int)≠0) from fun h=>h rfl)];obtain ⟨k1,k2,k3,k4⟩:=hok rfl;clear hok;have ls6:=CF k2;have sms:=BG k2;have hfr:=Ai0 (l:=l) sms;by_cases hs0:s.length=0
  ·obtain rfl:=List.eq_nil_of_length_eq_zero hs0
   obtain rfl:l=[]:=List.eq_nil_of_length_eq_zero (by simpa using k1);have e1:BW (List.zipWith SX [] []) []=[]:=rfl;have e2:BW (List.zipWith Qe [] []) (List.replicate ([]:List Int).length 0)=[]:=rfl;rw [e1,e2,JZ,if_neg (show ¬ ((0:Int)≠0) from fun h=>h rfl)];have co:=AiR [] (by simp);have cc:=FT [];rw [JZ] at cc;have cs:=ZS [] [] [] A 1 rfl rfl rfl (by simp) rfl k3 hAl;have ct:=ZQ N A [] (EX [] [] [] A 1) kN.ok hAs;rw [show ((1:Int),(0:Int)).1.toNat=1 from rfl];generalize EX [] [] [] A 1=CS at cs ct ⊢;refine AE ID Iz fun C hC => ?_;refine Aj ?_;intro ds;refine Aj ?_;refine Ai [2,3,4,5,6,7,8,27,28] [0,1,2,3,4] (fun j:Nat=>[(29,nA 0)]) (fun j=>[]) 5 (fun j=>True) (fun j=>j) 0 trivial ?_;rintro j -;dsimp only [List.cons_append,List.nil_append];refine Aj ?_;exact Am
  have ll:=Ac .i64 l;have ls:=Ac .i64 s;have hSl:(List.zipWith SX l s).length≤s.length:=by simp; omega
  have hGl:(List.zipWith Qe l s).length≤(List.replicate s.length (0:Int)).length:=by simp; omega
  have hSn:(List.zipWith SX l s).length=l.length:=by simp; omega
  have hGn:(List.zipWith Qe l s).length=l.length:=by simp; omega
  have hSa:∀ j k z,l[j]? = some k→s[j]? = some z→(List.zipWith SX l s)[j]? = some (SX k z):=fun j k z h1 h2=>by rw [List.getElem?_zipWith,h1,h2]
  have hGa:∀ j k z,l[j]? = some k→s[j]? = some z→(List.zipWith Qe l s)[j]? = some (Qe k z):=fun j k z h1 h2=>by rw [List.getElem?_zipWith,h1,h2]
  generalize List.zipWith SX l s=SF at *;generalize List.zipWith Qe l s=GF at *;have hEl:(BW GF (List.replicate s.length 0)).length=(BW SF s).length:=by simp [BW]; omega
  have cc:=FT (BW SF s);have co:=AiQ s (by omega) ls6;have hcz := @E6 (BW SF s)
  have seen:(Co (BW SF s)).2=0→Ae Tryz.prog 70 [.agg [.sl 1 (Ab .i64 (BW GF (List.replicate s.length 0))),.sl 1 (Ab .i64 (BW SF s))],.agg (Ao A),.sl 1 (Ab .i64 s),nA (Co (BW SF s)).1] (.sl 7 ((EX (BW GF (List.replicate s.length 0)) (BW SF s) s A (Co (BW SF s)).1.toNat).map Av)):=fun h=>by
   have:=ZS (BW GF (List.replicate s.length 0)) (BW SF s) s A (Co (BW SF s)).1.toNat h (by omega) hEl hfr k2 k3 hAl
   rw [Int.toNat_of_nonneg hcz.1] at this;exact this
  have told:∀ CS:List Ah,Ae Tryz.prog 69 [.agg (Ao N),.agg (Ao A),.sl 1 (Ab .i64 (BW SF s)),.sl 7 (CS.map Av)] (.agg (Ao (.mk (A.s ||| A8 N) (BW SF s) CS))):=fun CS=>ZQ N A (BW SF s) CS kN.ok hAs;generalize hL:EX (BW GF (List.replicate s.length 0)) (BW SF s) s A (Co (BW SF s)).1.toNat=L at seen ⊢;generalize Co (BW SF s)=w at cc seen hcz ⊢;obtain ⟨n,e⟩:=w;dsimp only at cc seen hcz ⊢;refine AE ID Iz fun C hC => ?_;refine Aj ?_;intro ds;refine Aj ?_;refine AaL [] co ?_;refine A5 ?_;refine Ak ⟨rfl,?_⟩;refine Aj ?_
  refine Ai [2,3,4,5,6,7,8,27,28] [0,1,2,3,6] (fun j:Nat=>[(29,nA j)])
   (fun j=>[(4,some ⟨true,false,3,1,Ab .i64 (CA GF (List.replicate s.length 0) j)⟩),(5,some ⟨true,false,3,1,Ab .i64 (CA SF s j)⟩)]) 7
   (fun j=>j≤l.length) (fun j=>l.length - j) 0 (Nat.zero_le _) ?_ (hh:=by rw [G3,G3]; rfl)
  intro j hj;dsimp only [List.cons_append,List.nil_append] at hj ⊢;have lS:=Ac .i64 (CA SF s j);rw [Jl hSl (by omega)] at lS;have lG:=Ac .i64 (CA GF (List.replicate s.length 0) j);rw [Jl hGl (by omega),List.length_replicate] at lG;by_cases hlt:j<l.length
  ·obtain ⟨k,hk⟩:∃ k,l[j]? = some k:=⟨_,List.getElem?_eq_getElem hlt⟩
   obtain ⟨z,hz⟩:∃ z,s[j]? = some z:=⟨_,List.getElem?_eq_getElem (by omega)⟩;have hkr:=k4 k (List.mem_of_getElem? hk);have hzr:=sms z (List.mem_of_getElem? hz);have hkk:=Az (k:=.i64) hk;have hzk:=Az (k:=.i64) hz;have hS:=hSa j k z hk hz;have hG:=hGa j k z hk hz;have hz0:(List.replicate s.length (0:Int))[j]? = some 0:=by rw [List.getElem?_replicate,if_pos (by omega)]
   have c1:=Ab1 k hkr.1 hkr.2;have hgr:=Qb k;have set1:(Ab .i64 (CA SF s j)).set j [.lit (.int .i64 (SX k z))]=Ab .i64 (CA SF s (j+1)):=by rw [← Gd hSl hS]; simp [Ab,List.map_set]
   have got1:=Az (k:=.i64) (Ab2 hSl hS);have old1:=Az (k:=.i64) ((HD hSl (by omega:j<SF.length)).trans hz);have old2:=Az (k:=.i64) ((HD hGl (by omega:j<GF.length)).trans hz0);clear cc seen told co;rw [show SX k z=z - min (Fq k) z from rfl] at set1;by_cases hk0:k > 0
   ·rw [show Qe k z=min (Fq k) z from if_pos hk0] at hG
    have set2:(Ab .i64 (CA GF (List.replicate s.length 0) j)).set j [.lit (.int .i64 (min (Fq k) z))]=Ab .i64 (CA GF (List.replicate s.length 0) (j+1)):=by rw [← Gd hGl hG]; simp [Ab,List.map_set]
    have hmn:(Fq k≤z∧min (Fq k) z=Fq k)∨(z<Fq k∧min (Fq k) z=z):=by omega
    clear c0 hS hG;generalize Fq k=q at *;generalize min q z=mn at *;refine Aj ?_;refine Ady (a:=q) (b:=z) mn hmn ?_;refine A5 ?_;refine Ak ⟨rfl,?_⟩;refine Aj ?_;exact ⟨j+1,by omega,by omega,BI hC.m [] (by rw [← set1,← set2]; rfl)⟩
   ·rw [show Qe k z=0 from if_neg hk0] at hG
    have same:=XN hGl hG hz0;have hmn:(Fq k≤z∧min (Fq k) z=Fq k)∨(z<Fq k∧min (Fq k) z=z):=by omega
    clear c0 hS hG;generalize Fq k=q at *;generalize min q z=mn at *;refine Aj ?_;refine Ady (a:=q) (b:=z) mn hmn ?_;refine A5 ?_;refine Ak ⟨rfl,?_⟩;refine Aj ?_;exact ⟨j+1,by omega,by omega,BI hC.m [] (by rw [← set1,← same]; rfl)⟩
  ·obtain rfl:j=l.length:=by omega
   have eS:CA SF s l.length=BW SF s:=by rw [← hSn,Jm]
   have eG:CA GF (List.replicate s.length 0) l.length=BW GF (List.replicate s.length 0):=by rw [← hGn,Jm]
   rw [eS] at lS;rw [eG] at lG;rw [eS,eG];clear co;refine A4 4 rfl ?_;refine A4 5 rfl ?_;by_cases he:e=0
   ·subst he
    have c2:=seen rfl;have c3:=told L;rw [if_neg (show ¬ ((0:Int)≠0) from fun h=>h rfl)];refine Aj ?_;exact Am
   ·rw [if_pos he]
    refine Aj ?_;exact Am
 ·rw [if_pos h0]
  refine AE ID Iz fun C hC => ?_;refine Aj ?_;intro ds;refine Aj ?_;exact Am
end Go.Proofs.YtjcolpcfcdkckaaGreat
