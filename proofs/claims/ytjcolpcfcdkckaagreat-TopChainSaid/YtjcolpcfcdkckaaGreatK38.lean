/- The scalar functions of two arrays, to any depth: the walks. -/
import Derived.Test.YtjcolpcfcdkckaaGreatK33
set_option maxRecDepth 10000
set_option maxHeartbeats 2000000
namespace Go.Proofs.YtjcolpcfcdkckaaGreat
set_option linter.unusedVariables false
open Go.RowKit
noncomputable def EZ (two:Al→Al→Al × Int) (f:Int) (x y:Ah):Ah × Int :=
 if x.kind=2∨y.kind=2 then (.mk (x.l ||| y.l) 2 zN 0 [(two (CD x) (CD y)).1],(two (CD x) (CD y)).2)
 else if x.kind=0∧y.kind=0 then (.mk (x.l ||| y.l) 0 (HB f x.n y.n).1 0 [],(HB f x.n y.n).2)
 else if f=61∨f=8800 then (.mk (x.l ||| y.l) 0 (Amq (decide (x.kind=y.kind∧x.c=y.c) == decide (f=61))) 0 [],0)
 else (.mk (x.l ||| y.l) 0 zN 0 [],3)
theorem VP {p:Al→Prop} (two:Al→Al→Al × Int) (f:Int) (x y:Ah) (hx:Cz p x) (hy:Cz p y)
 (ht:x.kind=2∨y.kind=2→Ae Tryz.prog 80 [nA f,.agg (Ao (CD x)),.agg (Ao (CD y))] (.tup [.agg (Ao (two (CD x) (CD y)).1),nA (two (CD x) (CD y)).2])) :
 Ae Tryz.prog 140 [nA f,.agg (Au x),.agg (Au y)] (.tup [.agg (Au (EZ two f x y).1),nA (EZ two f x y).2]):=by
 have zn:zN.top=[]∧zN.bot=[]∧zN.neg=false:=⟨rfl,rfl,rfl⟩;have c0:=FF x.l y.l hx.1 hy.1;unfold EZ;by_cases h2:x.kind=2∨y.kind=2
 ·rw [if_pos h2]
  have c1:=AiN x hx;have c2:=AiN y hy;have c3:=ht h2;generalize two (CD x) (CD y)=r at c3 ⊢;obtain ⟨r,e⟩:=r;dsimp only at c3 ⊢;have hrow:[r].map Dg=[Ao r]:=by simp [OY]
  rw [show Au (.mk (x.l ||| y.l) 2 zN 0 [r])=[CG (x.l ||| y.l),nA 2,.lit (.bool false),.sl 1 [],.sl 1 [],nA 0,.sl 3 [Ao r]] from by rw [← hrow]; rfl];refine Aa C8 fun C hC => ?_;by_cases hk:x.kind=2
  ·refine Aj ?_
   exact Am
  ·have hk':y.kind=2:=by omega
   refine Aj ?_;exact Am
 ·rw [if_neg h2]
  clear ht;have h21:x.kind≠2:=fun h=>h2 (.inl h);have h22:y.kind≠2:=fun h=>h2 (.inr h);by_cases h0:x.kind=0∧y.kind=0
  ·rw [if_pos h0]
   have nx:JY x.n:=by rcases hx.2 with h|h|h<;>first|exact h.2.2.2|(exfalso; omega)
   have ny:JY y.n:=by rcases hy.2 with h|h|h<;>first|exact h.2.2.2|(exfalso; omega)
   have c1:=(AeS f nx ny).2;generalize HB f x.n y.n=r at c1 ⊢;obtain ⟨r,e⟩:=r;obtain ⟨h01,h02⟩:=h0;refine Aa C8 fun C hC => ?_;refine Aj ?_;exact Am
  ·rw [if_neg h0]
   by_cases hf:f=61∨f=8800
   ·rw [if_pos hf]
    have c1:=FP (decide (x.kind=y.kind∧x.c=y.c) == decide (f=61));refine Aa C8 fun C hC => ?_;by_cases k0:x.kind=0
    ·have k0':y.kind≠0:=fun h=>h0 ⟨k0,h⟩
     have hne:x.kind≠y.kind:=by omega
     rw [decide_eq_false (fun h:x.kind=y.kind∧x.c=y.c=>hne h.1)] at c1 ⊢;rcases hf with hf|hf<;>subst hf
     ·refine Aj ?_
      exact Am
     ·refine Aj ?_
      exact Am
    ·by_cases hkk:x.kind=y.kind
     ·by_cases hcc:x.c=y.c
      ·rw [decide_eq_true (show x.kind=y.kind∧x.c=y.c from ⟨hkk,hcc⟩)] at c1 ⊢
       rcases hf with hf|hf<;>subst hf
       ·refine Aj ?_
        exact Am
       ·refine Aj ?_
        exact Am
      ·rw [decide_eq_false (fun h:x.kind=y.kind∧x.c=y.c=>hcc h.2)] at c1 ⊢
       rcases hf with hf|hf<;>subst hf
       ·refine Aj ?_
        exact Am
       ·refine Aj ?_
        exact Am
     ·rw [decide_eq_false (fun h:x.kind=y.kind∧x.c=y.c=>hkk h.1)] at c1 ⊢
      rcases hf with hf|hf<;>subst hf
      ·refine Aj ?_
       exact Am
      ·refine Aj ?_
       exact Am
   ·rw [if_neg hf]
    have hf1:f≠61:=fun h=>hf (.inl h);have hf2:f≠8800:=fun h=>hf (.inr h);refine Aa C8 fun C hC => ?_;by_cases k0:x.kind=0
    ·have k0':y.kind≠0:=fun h=>h0 ⟨k0,h⟩
     refine Aj ?_;exact Am
    ·refine Aj ?_
     exact Am
end Go.Proofs.YtjcolpcfcdkckaaGreat
