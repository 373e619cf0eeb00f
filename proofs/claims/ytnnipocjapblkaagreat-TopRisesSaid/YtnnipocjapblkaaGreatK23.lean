/- The scalar functions of two arrays, to any depth: the walks. -/
import Derived.Test.YtnnipocjapblkaaGreatK22
set_option maxRecDepth 10000
set_option maxHeartbeats 2000000
namespace Go.Proofs.YtnnipocjapblkaaGreat
set_option linter.unusedVariables false
open Go.RowKit
noncomputable def twoC (two:Arr→Arr→Arr × Int) (f:Int) (x y:Cell):Cell × Int :=
 if x.kind=2∨y.kind=2 then (.mk (x.l ||| y.l) 2 zN 0 [(two (contP x) (contP y)).1],(two (contP x) (contP y)).2)
 else if x.kind=0∧y.kind=0 then (.mk (x.l ||| y.l) 0 (numsF f x.n y.n).1 0 [],(numsF f x.n y.n).2)
 else if f=61∨f=8800 then (.mk (x.l ||| y.l) 0 (truN (decide (x.kind=y.kind∧x.c=y.c) == decide (f=61))) 0 [],0)
 else (.mk (x.l ||| y.l) 0 zN 0 [],3)
theorem twoCells_a {p:Arr→Prop} (two:Arr→Arr→Arr × Int) (f:Int) (x y:Cell) (hx:okTC p x) (hy:okTC p y)
 (ht:x.kind=2∨y.kind=2→ACalls Tryz.prog 87 [nA f,.agg (arrV (contP x)),.agg (arrV (contP y))] (.tup [.agg (arrV (two (contP x) (contP y)).1),nA (two (contP x) (contP y)).2])) :
 ACalls Tryz.prog 152 [nA f,.agg (cellV x),.agg (cellV y)] (.tup [.agg (cellV (twoC two f x y).1),nA (twoC two f x y).2]):=by
 have zn:zN.top=[]∧zN.bot=[]∧zN.neg=false:=⟨rfl,rfl,rfl⟩
 have c0:=join_a x.l y.l hx.1 hy.1
 unfold twoC
 by_cases h2:x.kind=2∨y.kind=2
 ·rw [if_pos h2]
  have c1:=cont_a x hx
  have c2:=cont_a y hy
  have c3:=ht h2
  generalize two (contP x) (contP y)=r at c3 ⊢
  obtain ⟨r,e⟩:=r
  dsimp only at c3 ⊢
  have hrow:[r].map arrR=[arrV r]:=by simp [arrR_eq]
  rw [show cellV (.mk (x.l ||| y.l) 2 zN 0 [r])=[labV (x.l ||| y.l),nA 2,.lit (.bool false),.sl 1 [],.sl 1 [],nA 0,.sl 3 [arrV r]] from by rw [← hrow]; rfl]
  refine acalls_of code_scalar_twoCells (by simp [fn_scalar_twoCells]) fun C hC => ?_
  by_cases hk:x.kind=2
  ·refine wk5 ?_
   exact fin
  ·have hk':y.kind=2:=by omega
   refine wk5 ?_
   exact fin
 ·rw [if_neg h2]
  clear ht
  have h21:x.kind≠2:=fun h=>h2 (.inl h)
  have h22:y.kind≠2:=fun h=>h2 (.inr h)
  by_cases h0:x.kind=0∧y.kind=0
  ·rw [if_pos h0]
   have nx:NumQ x.n:=by rcases hx.2 with h|h|h<;>first|exact h.2.2.2|(exfalso; omega)
   have ny:NumQ y.n:=by rcases hy.2 with h|h|h<;>first|exact h.2.2.2|(exfalso; omega)
   have c1:=(numsF_a f nx ny).2
   generalize numsF f x.n y.n=r at c1 ⊢
   obtain ⟨r,e⟩:=r
   obtain ⟨h01,h02⟩:=h0
   refine acalls_of code_scalar_twoCells (by simp [fn_scalar_twoCells]) fun C hC => ?_
   refine wk5 ?_
   exact fin
  ·rw [if_neg h0]
   by_cases hf:f=61∨f=8800
   ·rw [if_pos hf]
    have c1:=stru_a (decide (x.kind=y.kind∧x.c=y.c) == decide (f=61))
    refine acalls_of code_scalar_twoCells (by simp [fn_scalar_twoCells]) fun C hC => ?_
    by_cases k0:x.kind=0
    ·have k0':y.kind≠0:=fun h=>h0 ⟨k0,h⟩
     have hne:x.kind≠y.kind:=by omega
     rw [decide_eq_false (fun h:x.kind=y.kind∧x.c=y.c=>hne h.1)] at c1 ⊢
     rcases hf with hf|hf<;>subst hf
     ·refine wk5 ?_
      exact fin
     ·refine wk5 ?_
      exact fin
    ·by_cases hkk:x.kind=y.kind
     ·by_cases hcc:x.c=y.c
      ·rw [decide_eq_true (show x.kind=y.kind∧x.c=y.c from ⟨hkk,hcc⟩)] at c1 ⊢
       rcases hf with hf|hf<;>subst hf
       ·refine wk5 ?_
        exact fin
       ·refine wk5 ?_
        exact fin
      ·rw [decide_eq_false (fun h:x.kind=y.kind∧x.c=y.c=>hcc h.2)] at c1 ⊢
       rcases hf with hf|hf<;>subst hf
       ·refine wk5 ?_
        exact fin
       ·refine wk5 ?_
        exact fin
     ·rw [decide_eq_false (fun h:x.kind=y.kind∧x.c=y.c=>hkk h.1)] at c1 ⊢
      rcases hf with hf|hf<;>subst hf
      ·refine wk5 ?_
       exact fin
      ·refine wk5 ?_
       exact fin
   ·rw [if_neg hf]
    have hf1:f≠61:=fun h=>hf (.inl h)
    have hf2:f≠8800:=fun h=>hf (.inr h)
    refine acalls_of code_scalar_twoCells (by simp [fn_scalar_twoCells]) fun C hC => ?_
    by_cases k0:x.kind=0
    ·have k0':y.kind≠0:=fun h=>h0 ⟨k0,h⟩
     refine wk5 ?_
     exact fin
    ·refine wk5 ?_
     exact fin
end Go.Proofs.YtnnipocjapblkaaGreat
