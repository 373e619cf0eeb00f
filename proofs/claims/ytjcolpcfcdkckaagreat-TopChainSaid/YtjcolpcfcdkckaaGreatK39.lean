/- The scalar functions of two arrays, to any depth: the walk through the cells. -/
import Derived.Test.YtjcolpcfcdkckaaGreatK38
set_option maxRecDepth 10000
set_option maxHeartbeats 4000000
namespace Go.Proofs.YtjcolpcfcdkckaaGreat
set_option linter.unusedVariables false
open Go.RowKit
def IJ:List Int→Int
 | []=>0
 | e::es=>if e≠0 then e else IJ es
def IK (A B:Al):Nat:=if A.shape.length=0 then B.cells.length else A.cells.length
noncomputable def SY (two:Al→Al→Al × Int) (f:Int) (A B:Al):Al × Int :=
 if Ru f=false then (zA,8) else
 if (LG A.shape B.shape).2≠0 then (zA,(LG A.shape B.shape).2) else
 if IJ ((List.range (IK A B)).map fun i=>(EZ two f (Db A i) (Db B i)).2)≠0 then (zA,IJ ((List.range (IK A B)).map fun i=>(EZ two f (Db A i) (Db B i)).2)) else
 (.mk (A.s ||| B.s) (LG A.shape B.shape).1 ((List.range (IK A B)).map fun i=>(EZ two f (Db A i) (Db B i)).1),0)
noncomputable def VQ (f:Int):Nat→Al→Al→Al × Int
 | 0=>SY (fun _ _=>(zA,3)) f
 | d+1=>SY (VQ f d) f
theorem AkW {s t:List Int} (h:(LG s t).2=0):s.length=0∨t.length=0∨s=t:=by
 unfold LG at h;split at h
 ·exact .inl (by assumption)
 ·split at h
  ·exact .inr (.inl (by assumption))
  ·split at h
   ·cases h
   ·split at h
    ·cases h
    ·rename_i h4
     rw [Ah7] at h4;exact .inr (.inr (by simpa using h4))
theorem AeX {A B:Al} (hA:EA A) (hB:EA B) (h:(LG A.shape B.shape).2=0) {i:Nat} (hi:i<IK A B):A.cells[if A.shape.length=0 then 0 else i]? = some (Db A i):=by
 have hlt:(if A.shape.length=0 then 0 else i)<A.cells.length:=by
  by_cases h0:A.shape.length=0
  ·rw [if_pos h0,hA.one (List.eq_nil_of_length_eq_zero h0)]; exact Nat.one_pos
  ·rw [if_neg h0]; unfold IK at hi; rw [if_neg h0] at hi; exact hi
 unfold Db;rw [List.getD_eq_getElem?_getD,List.getElem?_eq_getElem hlt]; rfl
theorem AeY {A B:Al} (hA:EA A) (hB:EA B) (h:(LG A.shape B.shape).2=0) {i:Nat} (hi:i<IK A B):B.cells[if B.shape.length=0 then 0 else i]? = some (Db B i):=by
 have hlt:(if B.shape.length=0 then 0 else i)<B.cells.length:=by
  by_cases h0:B.shape.length=0
  ·rw [if_pos h0,hB.one (List.eq_nil_of_length_eq_zero h0)]; exact Nat.one_pos
  ·rw [if_neg h0]
   unfold IK at hi;by_cases h1:A.shape.length=0
   ·rw [if_pos h1] at hi; exact hi
   ·rw [if_neg h1] at hi
    rcases AkW h with h2|h2|h2
    ·exact absurd h2 h1
    ·exact absurd h2 h0
    ·have:=hA.2.2; have h3:=hB.2.2; rw [h2] at this; rw [h3] at this; omega
 unfold Db;rw [List.getD_eq_getElem?_getD,List.getElem?_eq_getElem hlt]; rfl
theorem Ai8 {p:Al→Prop} (two:Al→Al→Al × Int) (f:Int) (A B:Al) (hA:EA A) (hB:EA B) (kA:∀ c ∈ A.cells,Cz p c) (kB:∀ c ∈ B.cells,Cz p c)
 (ht:∀ x y,Cz p x→Cz p y→Ae Tryz.prog 140 [nA f,.agg (Au x),.agg (Au y)] (.tup [.agg (Au (EZ two f x y).1),nA (EZ two f x y).2])) :
 Ae Tryz.prog 80 [nA f,.agg (Ao A),.agg (Ao B)] (.tup [.agg (Ao (SY two f A B).1),nA (SY two f A B).2]):=by
 have hB0:A2=1000000000:=rfl;have lsA:=hA.len;have lsB:=hB.len;have lcA:=hA.cells;have lcB:=hB.cells;have cc:=Amr A B (by omega) (by omega);have cj:=FF A.s B.s hA.1 hB.1;have ls:=Ac .i64 A.shape;have lA:=AK A;have lB:=AK B;unfold SY;cases h1:Ru f with
 | false =>
   have c1:=Ain h1;rw [if_pos rfl];refine Aa Gm fun C hC => ?_;refine Aj ?_;exact Am
 | true =>
 have c1:=Af9 h1;rw [if_neg (by decide)];by_cases h2:(LG A.shape B.shape).2=0
 ·rw [if_neg (fun h=>h h2)]
  have gl:∀ i,i<IK A B→A.cells[if A.shape.length=0 then 0 else i]? = some (Db A i):=fun i hi=>AeX hA hB h2 hi;have gr:∀ i,i<IK A B→B.cells[if B.shape.length=0 then 0 else i]? = some (Db B i):=fun i hi=>AeY hA hB h2 hi;rw [h2] at cc;generalize (LG A.shape B.shape).1=sh at cc ⊢;have hn:IK A B≤2048:=by unfold IK; split<;>omega
  have hcnt:(A.shape.length=0∧IK A B=B.cells.length)∨(A.shape.length≠0∧IK A B=A.cells.length):=by
   unfold IK; split
   ·exact .inl ⟨by assumption,rfl⟩
   ·exact .inr ⟨by assumption,rfl⟩
  generalize IK A B=n at gl gr hn hcnt ⊢;obtain ⟨g,hg⟩:∃ g,g=fun i=>EZ two f (Db A i) (Db B i):=⟨_,rfl⟩;have hg1:(fun i=>(EZ two f (Db A i) (Db B i)).1)=fun i=>(g i).1:=by rw [hg]
  have hg2:(fun i=>(EZ two f (Db A i) (Db B i)).2)=fun i=>(g i).2:=by rw [hg]
  rw [hg1,hg2]
  have hcall:∀ i,i<n→Ae Tryz.prog 140 [nA f,.agg (Au (Db A i)),.agg (Au (Db B i))] (.tup [.agg (Au (g i).1),nA (g i).2]):=fun i hi=>by
   rw [hg]; exact ht _ _ (kA _ (List.mem_of_getElem? (gl i hi))) (kB _ (List.mem_of_getElem? (gr i hi)))
  clear hg hg1 hg2 ht;obtain ⟨CS,hCS⟩:∃ CS,CS=(List.range n).map fun i=>(g i).1:=⟨_,rfl⟩;obtain ⟨ES,hES⟩:∃ ES,ES=(List.range n).map fun i=>(g i).2:=⟨_,rfl⟩;have hCg:∀ i,i<n→CS[i]? = some (g i).1:=fun i hi=>by rw [hCS]; simp [hi]
  have hEg:∀ i,i<n→ES[i]? = some (g i).2:=fun i hi=>by rw [hES]; simp [hi]
  have hCl:CS.length=n:=by rw [hCS]; simp
  have hEl:ES.length=n:=by rw [hES]; simp
  rw [← hCS,← hES];clear hCS hES;subst hCl;have e0:=DI Au Bd CS;refine Aa Gm fun C hC => ?_;rcases hcnt with ⟨z1,z2⟩|⟨z1,z2⟩
  all_goals
   refine Aj ?_;refine F8 3 (Gk Au Bd CS 0) rfl (by dsimp only; rw [Int.toNat_natCast,← z2]; exact e0) ?_
   refine Ai [0,4,5,6,7,8,10,11,48] [0,1,2,4] (fun k:Nat=>[(49,nA k)]) (fun k=>[(3,some ⟨true,false,43,7,Gk Au Bd CS k⟩)]) 5
    (fun k=>k≤CS.length∧IJ ES=IJ (ES.drop k)) (fun k=>CS.length - k) 0 ⟨Nat.zero_le _,rfl⟩ ?_
   rintro k ⟨hk,hE⟩;dsimp only [List.cons_append,List.nil_append] at hk hE ⊢;by_cases hlt:k<CS.length
   ·have p1:=AiM A k _ (by omega) (by omega) (gl k hlt)
    have p2:=AiM B k _ (by omega) (by omega) (gr k hlt);have c2:=hcall k hlt;have hset:=DY Au Bd CS k _ (hCg k hlt);have hget:=DX Au Bd CS k hlt;have hll:=DW Au Bd CS k hk;rw [AU (hEg k hlt),IJ] at hE;generalize Db A k=X at p1 c2;generalize Db B k=Y at p2 c2;generalize g k=r at c2 hset hE;obtain ⟨c,e⟩:=r;dsimp only at c2 hset hE;by_cases he:e=0
    ·subst he
     rw [if_neg (fun h=>h rfl)] at hE;refine Aj ?_;exact ⟨k+1,by omega,⟨by omega,hE⟩,BI hC.m [] (by rw [← hset]; rfl)⟩
    ·rw [if_pos he] at hE
     rw [hE,if_pos he];refine Aj ?_;exact Am
   ·rw [List.drop_eq_nil_of_le (by omega),IJ] at hE
    rw [hE,if_neg (fun h=>h rfl)];rw [DZ Au Bd CS k hlt,show CS.map Au=CS.map Av from by simp [Bv]];refine Aj ?_;exact Am
 ·rw [if_pos h2]
  refine Aa Gm fun C hC => ?_;refine Aj ?_;exact Am
theorem Ai9 (f:Int):∀ (d:Nat) (A B:Al),Gb d A→Gb d B→Ae Tryz.prog 80 [nA f,.agg (Ao A),.agg (Ao B)] (.tup [.agg (Ao (VQ f d A B).1),nA (VQ f d A B).2])
 | 0,A,B,hA,hB=>Ai8 (p:=fun _=>False) _ f A B hA.1 hB.1 hA.2 hB.2 fun x y hx hy=>VP _ f x y hx hy fun h=>by
  exfalso;rcases h with h|h
  ·rcases hx.2 with h1|h1|⟨_,_,_,_,_,h1⟩
   ·omega
   ·omega
   ·exact h1
  ·rcases hy.2 with h1|h1|⟨_,_,_,_,_,h1⟩
   ·omega
   ·omega
   ·exact h1
 | d+1,A,B,hA,hB=>Ai8 (p:=Gb d) _ f A B hA.1 hB.1 hA.2 hB.2 fun x y hx hy=>VP _ f x y hx hy fun _=>Ai9 f d _ _ (Ji hx) (Ji hy)
end Go.Proofs.YtjcolpcfcdkckaaGreat
