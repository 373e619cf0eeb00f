/- Choosing along an axis: pick.Expand. -/
import Derived.Test.YtjcolpcfcdkckaaGreatK48
set_option maxRecDepth 10000
set_option maxHeartbeats 8000000
namespace Go.Proofs.YtjcolpcfcdkckaaGreat
set_option linter.unusedVariables false
open Go.RowKit
theorem AgJ {l:List Int} (h:LI l=true):∀ k ∈ l,k=0∨k=1:=fun k hk=>by
 have:=List.all_eq_true.1 h k hk
 simpa using this
theorem Acv (l:List Int):D5 l≤l.length:=List.length_filter_le _ _
theorem Aab (l:List Int) (j:Nat):D5 (l.take j)≤l.length:=Nat.le_trans (Acv _) (by simp; omega)
theorem Acw (N A:Al) (first:Bool) (hN:arrOK N) (kN:CI N) (kA:CI A):Ae Tryz.prog 79 [.agg (Ao N),.agg (Ao A),.lit (.bool first)] (.tup [.agg (Ao (Qh N A first).1),nA (Qh N A first).2]):=by
 have hB:A2=1000000000:=rfl;have c0:=Ef N hN kN.ok;have ll:=Ac .i64 (AB N).1;have hle:=G4 kN.cells;have c1:=Ai5 (AB N).1 (by omega);have c2:=AeW A first kA.len
 obtain ⟨lo,hx,hxg,hlo,hsm,h6,hpr,hxl⟩:=AjH kA first
 have hAs:=kA.ok.parts.1;have hAl:=kA.cells;have rowsC:=fun F h1 h2=>Ai6 N A (EB A) (Fr A first) lo F kN.ok hAs hAl hsm h6 hpr hx h1 h2;have ls:=Ac .i64 (EB A);have hxk:=Az (k:=.i64) hx;have hx6:Fr A first<6:=by omega
 unfold Qh;rw [hxg];generalize EB A=s at *;generalize Fr A first=x at *
 by_cases h0:(AB N).2=0
 ·rw [h0] at c0
  rw [if_neg (fun h=>h h0)];clear h0;generalize (AB N).1=l at *;cases hb:LI l
  ·rw [hb] at c1
   rw [if_pos rfl];clear rowsC;refine AE FE FC fun C hC => ?_;refine Aj ?_;intro ds;refine Aj ?_;exact Am
  ·rw [hb] at c1
   rw [if_neg (by simp)];have hbits:=AgJ hb;have hFl:=Aca 0 l;have hFr:=ZU 0 l;have hFa:=fun i k h=>ZV l 0 i k h;have hon:=Acv l;generalize RC 0 l=F at *;have hZl:(List.replicate l.length (0:Int)).length=l.length:=List.length_replicate;have e0:List.replicate l.length [AV.lit (.int .i64 0)]=Ab .i64 (CA F (List.replicate l.length 0) 0):=by rw [G3]; simp [Ab]
   refine AE FE FC fun C hC => ?_;refine Aj ?_;intro ds;refine Aj ?_
   refine Ai [3,4,6,7,9,10,39,40,11] [0,1,2,3] (fun j:Nat=>[(12,nA (D5 (l.take j))),(41,nA j)]) (fun j=>[(4,some ⟨true,false,3,1,Ab .i64 (CA F (List.replicate l.length 0) j)⟩)]) 5
    (fun j=>j≤l.length) (fun j=>l.length - j) 0 (Nat.zero_le _) ?_ (hh:=by rw [← e0]; simp only [Int.toNat_natCast]; rfl)
   intro j hj;dsimp only [List.cons_append,List.nil_append] at hj ⊢;clear c0 c1 c2 e0;have lR:=Ac .i64 (CA F (List.replicate l.length 0) j);rw [Jl (by omega) (by omega),hZl] at lR;have hjo:=Aab l j;by_cases hlt:j<l.length
   ·obtain ⟨k,hk⟩:∃ k,l[j]? = some k:=⟨_,List.getElem?_eq_getElem hlt⟩
    have hkk:=Az (k:=.i64) hk;have hz0:(List.replicate l.length (0:Int))[j]? = some 0:=by rw [List.getElem?_replicate,if_pos hlt]
    have old:=Az (k:=.i64) ((HD (F:=F) (b:=List.replicate l.length 0) (by omega) (by omega:j<F.length)).trans hz0);have hF:=hFa j k hk;have hon1:=Agt hk;clear rowsC;by_cases hk1:k=1
    ·subst hk1
     rw [if_pos rfl] at hF hon1;rw [Nat.zero_add] at hF
     have set1:((Ab .i64 (CA F (List.replicate l.length 0) j)).set j [.lit (.int .i64 (-1))]).set j [.lit (.int .i64 (D5 (l.take j):Nat))]=Ab .i64 (CA F (List.replicate l.length 0) (j+1)):=by
      rw [List.set_set,← Gd (by omega) hF]; simp [Ab,List.map_set]
     have hon2:((D5 (l.take (j+1)):Nat):Int)=(D5 (l.take j):Int)+1:=by omega
     generalize D5 (l.take j)=o0 at *;generalize Ab .i64 (CA F (List.replicate l.length 0) j)=R at *;have lR2:((R.set j [.lit (.int .i64 (-1))]).length:Int)=l.length:=by rw [List.length_set]; exact lR
     have got:(R.set j [.lit (.int .i64 (-1))])[j]? = some [.lit (.int .i64 (-1))]:=List.getElem?_set_self (by omega);refine Aj ?_;exact ⟨j+1,by omega,by omega,BI hC.m [] (by rw [hon2,← set1]; rfl)⟩
    ·rw [if_neg hk1] at hF hon1
     have set1:(Ab .i64 (CA F (List.replicate l.length 0) j)).set j [.lit (.int .i64 (-1))]=Ab .i64 (CA F (List.replicate l.length 0) (j+1)):=by
      rw [← Gd (by omega) hF]; simp [Ab,List.map_set]
     rw [Nat.add_zero] at hon1;refine Aj ?_;exact ⟨j+1,by omega,by omega,BI hC.m [] (by rw [hon1,← set1]; rfl)⟩
   ·obtain rfl:j=l.length:=by omega
    have eF:CA F (List.replicate l.length 0) l.length=F:=by
     rw [← hFl,Jm]; unfold BW; rw [List.drop_of_length_le (by simp),List.append_nil]
    rw [eF] at lR ⊢;rw [List.take_of_length_le (Nat.le_refl _)];clear hjo hFa;by_cases h1:(lo:Int)=1
    ·rw [if_pos (show (lo:Int)=1 from h1)]
     have lM:(F.map fun k=>min k 0).length=F.length:=List.length_map ..;have hMa:∀ (i:Nat) z,F[i]? = some z→(F.map fun k=>min k 0)[i]? = some (min z 0):=fun i z h=>by rw [List.getElem?_map,h]; rfl
     have c4:=rowsC (F.map fun k=>min k 0) (by omega) (fun k hk=>by
      obtain ⟨z,_,rfl⟩:=List.mem_map.1 hk;omega)
     clear rowsC;generalize (F.map fun k=>min k 0)=M at *;refine Aj ?_
     refine Ai [3,4,6,7,9,10,11,64] [0,1,2,3] (fun i:Nat=>[(65,nA i)]) (fun i=>[(4,some ⟨true,false,3,1,Ab .i64 (CA M F i)⟩)]) 5
      (fun i=>i≤F.length) (fun i=>F.length - i) 0 (Nat.zero_le _) ?_ (hh:=by rw [G3]; rfl)
     intro i hi;dsimp only [List.cons_append,List.nil_append] at hi ⊢;have lQ:=Ac .i64 (CA M F i);rw [Jl (by omega) (by omega)] at lQ;by_cases hil:i<F.length
     ·obtain ⟨z,hz⟩:∃ z,F[i]? = some z:=⟨_,List.getElem?_eq_getElem hil⟩
      have old:=Az (k:=.i64) ((HD (F:=M) (b:=F) (by omega) (by omega:i<M.length)).trans hz)
      have set1:(Ab .i64 (CA M F i)).set i [.lit (.int .i64 (min z 0))]=Ab .i64 (CA M F (i+1)):=by
       rw [← Gd (by omega) (hMa i z hz)]; simp [Ab,List.map_set]
      have hmn:(z≤0∧min z 0=z)∨(0<z∧min z 0=0):=by omega
      clear c4;generalize min z 0=mn at *;refine Aj ?_;refine Ady (a:=z) (b:=0) mn hmn ?_;refine A5 ?_;refine Ak ⟨rfl,?_⟩;refine Aj ?_;exact ⟨i+1,by omega,by omega,BI hC.m [] (by rw [← set1]; rfl)⟩
     ·obtain rfl:i=F.length:=by omega
      have eM:CA M F F.length=M:=by
       rw [← lM,Jm]; unfold BW; rw [List.drop_of_length_le (by omega),List.append_nil]
      rw [eM] at lQ ⊢;refine A4 4 rfl ?_;refine Aj ?_;exact Am
    ·rw [if_neg (show ¬ ((lo:Int)=1) from h1)]
     by_cases h2:(D5 l:Int)=lo
     ·rw [if_neg (show ¬ ((D5 l:Int)≠lo) from fun h=>h h2)]
      have c4:=rowsC F (by omega) (fun k hk=>by have:=(hFr k hk).1; omega);clear rowsC;refine A4 4 rfl ?_;refine Aj ?_;exact Am
     ·rw [if_pos (show (D5 l:Int)≠lo from h2)]
      clear rowsC;refine Aj ?_;exact Am
 ·rw [if_pos h0]
  clear rowsC c1;generalize (AB N).2=e at *;generalize (AB N).1=l at *;refine AE FE FC fun C hC => ?_;refine Aj ?_;intro ds;refine Aj ?_;exact Am
end Go.Proofs.YtjcolpcfcdkckaaGreat
