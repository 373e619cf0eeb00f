/- Functions of one array: find.Iota, find.Unique, pick.Where. -/
import Derived.Test.YtjcolpcfcdkckaaGreatK41
set_option maxRecDepth 10000
set_option maxHeartbeats 4000000
namespace Go.Proofs.YtjcolpcfcdkckaaGreat
set_option linter.unusedVariables false
open Go.RowKit
def Qn (n:Nat):List Ah:=(List.range n).map fun i:Nat=>BV ((i:Int)+1)
def WT (N:Al):Al × Int :=
 if (AB N).2≠0 then (zA,(AB N).2) else
 if (AB N).1.length≠1 then (zA,4) else
 if (AB N).1.headD 0<0 then (zA,3) else
 if (AB N).1.headD 0 > 2048 then (zA,7) else
 (FQ (.mk 0 [((Qn ((AB N).1.headD 0).toNat).length:Int)] (Qn ((AB N).1.headD 0).toNat)) (A8 N),0)
theorem Ak6 (n:Nat) (hn:n≤2048):∀ c ∈ Qn n,okC c:=fun c hc=>by
 obtain ⟨i,hi,rfl⟩:=List.mem_map.1 hc
 have:=List.mem_range.1 hi
 exact Y7 _ (by omega)
theorem AmA (N:Al) (hN:arrOK N) (kN:CI N):Ae Tryz.prog 34 [.agg (Ao N)] (.tup [.agg (Ao (WT N).1),nA (WT N).2]):=by
 have hB:A2=1000000000:=rfl;have c0:=Ef N hN kN.ok;have ll:=Ac .i64 (AB N).1;have hle:=G4 kN.cells;unfold WT;by_cases h0:(AB N).2=0
 ·rw [h0] at c0
  rw [if_neg (fun h=>h h0)];clear h0;generalize (AB N).1=l at *;by_cases h1:l.length=1
  ·obtain ⟨z,rfl⟩:=List.length_eq_one_iff.1 h1
   rw [if_neg (fun h=>h h1)];rw [show ([z]:List Int).headD 0=z from rfl];have hz:(Ab .i64 [z])[(0:Int).toNat]? = some [.lit (.int .i64 z)]:=rfl;generalize hL:Ab .i64 [z]=L at *;have ll:(L.length:Int)=1:=ll;clear hL hle h1;by_cases h2:z<0
   ·rw [if_pos h2]
    refine Aa D2 fun C hC => ?_;refine Aj ?_;exact Am
   ·rw [if_neg h2]
    by_cases h3:z > 2048
    ·rw [if_pos h3]
     refine Aa D2 fun C hC => ?_;refine Aj ?_;exact Am
    ·rw [if_neg h3]
     obtain ⟨n,rfl⟩:=Int.eq_ofNat_of_zero_le (show 0≤z by omega);rw [Int.toNat_natCast];have hok:=Ak6 n (by omega);have hCS:∀ k,k<n→(Qn n)[k]? = some (BV ((k:Int)+1)):=fun k hk=>by simp [Qn,hk]
     have hCl:(Qn n).length=n:=by simp [Qn]
     have c2:=Jb (Qn n) (by omega) (fun c hc=>(hok c hc).lens);have c3:=C9 N kN.ok;have c4:=Gu (.mk 0 [((Qn n).length:Int)] (Qn n)) (A8 N) (by show 0<_; omega) (Bg N kN.ok);generalize FQ (.mk 0 [((Qn n).length:Int)] (Qn n)) (A8 N)=Z at *;clear hok;generalize Qn n=CS at *;have e0:=DI Au Bd CS;rw [hCl] at e0;refine Aa D2 fun C hC => ?_;refine Aj ?_;refine Eu 39 (nA (n:Int)) (by show AV.lit (.int .i64 ((List.replicate _ _).length:Int))=_; rw [List.length_replicate]; rfl) ?_
     refine Ai [1,2,3,6,39] [0,1] (fun k:Nat=>[(40,nA k)]) (fun k=>[(2,some ⟨true,false,43,7,Gk Au Bd CS k⟩)]) 3
      (fun k=>k≤n) (fun k=>n - k) 0 (Nat.zero_le _) ?_ (hh:=by rw [← e0]; rfl)
     intro k hk;dsimp only [List.cons_append,List.nil_append] at hk ⊢;by_cases hlt:k<n
     ·have hset:=DY Au Bd CS k _ (hCS k hlt)
      have hget:=DX Au Bd CS k (by omega);have hll:=DW Au Bd CS k (by omega);have c5:=DJ ((k:Int)+1) (by omega) (by omega);clear c0 c2 c3 c4 hCS;refine Aj ?_;exact ⟨k+1,by omega,by omega,BI hC.m [] (by rw [← hset]; rfl)⟩
     ·rw [DZ Au Bd CS k (by omega),show CS.map Au=CS.map Av from by simp [Bv]]
      refine A4 2 rfl ?_;refine Aj ?_;exact Am
  ·rw [if_pos h1]
   refine Aa D2 fun C hC => ?_;refine Aj ?_;exact Am
 ·rw [if_pos h0]
  generalize (AB N).2=e at *;generalize (AB N).1=l at *;refine Aa D2 fun C hC => ?_;refine Aj ?_;exact Am
def Jo (l:List Int) (j:Nat):List Ah:=((List.range j).filter fun i=>decide (l.getD i 0=1)).map fun i:Nat=>BV ((i:Int)+1)
theorem AgF (l:List Int) (j:Nat):Jo l (j+1)=if l.getD j 0=1 then Jo l j++[BV ((j:Int)+1)] else Jo l j:=by
 unfold Jo;rw [List.range_succ,List.filter_append,List.map_append];by_cases h:l.getD j 0=1
 ·rw [if_pos h]; simp only [List.filter_cons,h,decide_true,if_true]; rfl
 ·rw [if_neg h]; simp only [List.filter_cons,h,decide_false]; simp
theorem V2 (l:List Int) (j:Nat):(Jo l j).length≤j:=by
 unfold Jo; rw [List.length_map]
 have:=List.length_filter_le (fun i=>decide (l.getD i 0=1)) (List.range j)
 rw [List.length_range] at this; exact this
theorem Ak7 (l:List Int) (n:Nat) (hn:n≤2048):∀ c ∈ Jo l n,okC c:=fun c hc=>by
 obtain ⟨i,hi,rfl⟩:=List.mem_map.1 hc
 have:=List.mem_range.1 (List.mem_filter.1 hi).1
 exact Y7 _ (by omega)
def WU (A:Al):Al × Int :=
 if (AB A).2≠0 then (zA,(AB A).2) else
 if A.shape.length=0 then (zA,5) else
 if LI (AB A).1=false then (zA,3) else
 (FQ (.mk 0 [((Jo (AB A).1 (AB A).1.length).length:Int)] (Jo (AB A).1 (AB A).1.length)) (A8 A),0)
theorem Ak8 (A:Al) (hA:arrOK A) (kA:CI A):Ae Tryz.prog 37 [.agg (Ao A)] (.tup [.agg (Ao (WU A).1),nA (WU A).2]):=by
 have hB:A2=1000000000:=rfl;have c0:=Ef A hA kA.ok;have ll:=Ac .i64 (AB A).1;have hle:=G4 kA.cells;have c1:=Ai5 (AB A).1 (by omega);have ls:=Ac .i64 A.shape;unfold WU;by_cases h0:(AB A).2=0
 ·rw [h0] at c0
  rw [if_neg (fun h=>h h0)];clear h0;generalize (AB A).1=l at *;by_cases h1:A.shape.length=0
  ·rw [if_pos h1]
   refine Aa ED fun C hC => ?_;refine Aj ?_;exact Am
  ·rw [if_neg h1]
   cases hb:LI l
   ·rw [hb] at c1
    rw [if_pos rfl];refine Aa ED fun C hC => ?_;refine Aj ?_;exact Am
   ·rw [hb] at c1
    rw [if_neg (by simp)];have hok:=Ak7 l l.length hle;have hlen:=V2 l l.length;have c2:=Jb (Jo l l.length) (by omega) (fun c hc=>(hok c hc).lens);have c3:=C9 A kA.ok;have c4:=Gu (.mk 0 [((Jo l l.length).length:Int)] (Jo l l.length)) (A8 A) (by show 0<_; omega) (Bg A kA.ok);clear hok;refine Aa ED fun C hC => ?_;refine Aj ?_
    refine Ai [1,2,3,28,29] [0,1] (fun j:Nat=>[(6,.own 2),(30,nA j)]) (fun j=>[(2,some ⟨true,false,43,7,(Jo l j).map Av⟩)]) 3
     (fun j=>j≤l.length) (fun j=>l.length - j) 0 (Nat.zero_le _) ?_
    intro j hj;dsimp only [List.cons_append,List.nil_append] at hj ⊢;clear c0 c1;by_cases hlt:j<l.length
    ·obtain ⟨k,hk⟩:∃ k,l[j]? = some k:=⟨_,List.getElem?_eq_getElem hlt⟩
     have hkk:=Az (k:=.i64) hk;have hg:l.getD j 0=k:=by rw [List.getD_eq_getElem?_getD,hk]; rfl
     have hst:=AgF l j;have hl2:=V2 l j;rw [hg] at hst;have c5:=DJ ((j:Int)+1) (by omega) (by omega);have hS:((Jo l j).map Av).length≤2048:=by rw [List.length_map]; omega
     clear c2 c3 c4;by_cases hk1:k=1
     ·subst hk1
      rw [if_pos rfl] at hst;have hm:(Jo l j).map Av++[Au (BV ((j:Int)+1))]=(Jo l (j+1)).map Av:=by rw [hst]; simp [Bv]
      generalize (Jo l j).map Av=S at hS hm ⊢;have hb:(S.length+1) * 104≤140737488355328:=by omega
      refine Aj ?_;exact ⟨j+1,by omega,by omega,BI hC.m [(2,4)] (by rw [← hm]; rfl)⟩
     ·rw [if_neg hk1] at hst
      rw [← hst];refine Aj ?_;exact ⟨j+1,by omega,by omega,BI hC.m []⟩
    ·obtain rfl:j=l.length:=by omega
     generalize FQ (.mk 0 [((Jo l l.length).length:Int)] (Jo l l.length)) (A8 A)=Z at *;generalize Jo l l.length=W at *;refine A4 2 rfl ?_;refine Aj ?_;exact Am
 ·rw [if_pos h0]
  clear c1;generalize (AB A).2=e at *;generalize (AB A).1=l at *;refine Aa ED fun C hC => ?_;refine Aj ?_;exact Am
def Jp (L:List Ah) (j:Nat):List Ah:=((List.range j).filter fun i:Nat=>decide (C1 L (L.getD i AS)=(i:Int))).map fun i=>L.getD i AS
theorem AgG (L:List Ah) (j:Nat):Jp L (j+1)=if C1 L (L.getD j AS)=(j:Int) then Jp L j++[L.getD j AS] else Jp L j:=by
 unfold Jp;rw [List.range_succ,List.filter_append,List.map_append];by_cases h:C1 L (L.getD j AS)=(j:Int)
 ·rw [if_pos h]; simp only [List.filter_cons,h,decide_true,if_true]; rfl
 ·rw [if_neg h]; simp only [List.filter_cons,h,decide_false]; simp
theorem V3 (L:List Ah) (j:Nat):(Jp L j).length≤j:=by
 unfold Jp; rw [List.length_map]
 have:=List.length_filter_le (fun i:Nat=>decide (C1 L (L.getD i AS)=(i:Int))) (List.range j)
 rw [List.length_range] at this; exact this
theorem Ak9 {L:List Ah} (h:∀ c ∈ L,okC c) (n:Nat):∀ c ∈ Jp L n,okC c:=fun c hc=>by
 obtain ⟨i,_,rfl⟩:=List.mem_map.1 hc;exact Ae8 h i
def WV (A:Al):Al × Int:=if A.shape.length > 1 then (zA,5) else
 (FQ (.mk 0 [((Jp A.cells A.cells.length).length:Int)] (Jp A.cells A.cells.length)) (A8 A),0)
theorem Ajx (A:Al) (kA:CI A):Ae Tryz.prog 36 [.agg (Ao A)] (.tup [.agg (Ao (WV A).1),nA (WV A).2]):=by
 have hB:A2=1000000000:=rfl;have hAl:=kA.cells;have sA:=GV kA.ok.parts.2.2.2;have c1:=Qf A.cells (by omega) sA;have cl:=fun c hc=>L9 A.cells c (by omega) hc sA;have hok:=Ak9 sA A.cells.length;have hlen:=V3 A.cells A.cells.length;have c2:=Jb (Jp A.cells A.cells.length) (by omega) (fun c hc=>(hok c hc).lens);have c3:=C9 A kA.ok;have c4:=Gu (.mk 0 [((Jp A.cells A.cells.length).length:Int)] (Jp A.cells A.cells.length)) (A8 A) (by show 0<_; omega) (Bg A kA.ok);have ls:=Ac .i64 A.shape;have lA:=AK A;unfold XQ at c1;unfold WV;generalize Ab3 (MZ A.cells)=R at c1 cl;clear hok;refine AE Rb RD fun C hC => ?_;by_cases h:A.shape.length > 1
 ·rw [if_pos h]
  refine Aj ?_;intro ds;refine Aj ?_;exact Am
 ·rw [if_neg h]
  refine Aj ?_;intro ds;refine Aj ?_
  refine Ai [1,2,3,4,19,20] [0,1,2] (fun j:Nat=>[(5,.own 3),(21,nA j)]) (fun j=>[(3,some ⟨true,false,43,7,(Jp A.cells j).map Av⟩)]) 4
   (fun j=>j≤A.cells.length) (fun j=>A.cells.length - j) 0 (Nat.zero_le _) ?_
  intro j hj;dsimp only [List.cons_append,List.nil_append] at hj ⊢;clear c1;by_cases hlt:j<A.cells.length
  ·obtain ⟨c,hc⟩:∃ c,A.cells[j]? = some c:=⟨_,List.getElem?_eq_getElem hlt⟩
   have hck:=A9 hc;have hg:A.cells.getD j AS=c:=by rw [List.getD_eq_getElem?_getD,hc]; rfl
   have c5:=cl c (sA c (List.mem_of_getElem? hc));have hst:=AgG A.cells j;rw [hg] at hst;have hl2:=V3 A.cells j;have hS:((Jp A.cells j).map Av).length≤2048:=by rw [List.length_map]; omega
   clear c2 c3 c4;generalize C1 A.cells c=q at *;by_cases hq:q=(j:Int)
   ·subst hq
    rw [if_pos rfl] at hst;have hm:(Jp A.cells j).map Av++[Au c]=(Jp A.cells (j+1)).map Av:=by rw [hst]; simp [Bv]
    generalize (Jp A.cells j).map Av=S at hS hm ⊢;have hb:(S.length+1) * 104≤140737488355328:=by omega
    refine Aj ?_;exact ⟨j+1,by omega,by omega,BI hC.m [(3,6)] (by rw [← hm]; rfl)⟩
   ·rw [if_neg hq] at hst
    rw [← hst];refine Aj ?_;exact ⟨j+1,by omega,by omega,BI hC.m []⟩
  ·obtain rfl:j=A.cells.length:=by omega
   generalize FQ (.mk 0 [((Jp A.cells A.cells.length).length:Int)] (Jp A.cells A.cells.length)) (A8 A)=Z at *;generalize Jp A.cells A.cells.length=W at *;refine A4 3 rfl ?_;refine Aj ?_;exact Am
end Go.Proofs.YtjcolpcfcdkckaaGreat
