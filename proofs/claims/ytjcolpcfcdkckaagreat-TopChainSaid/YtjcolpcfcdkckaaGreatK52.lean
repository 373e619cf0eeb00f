/- Two functions, the one behind the other: the law's walk. -/
import Derived.Test.YtjcolpcfcdkckaaGreatK47
import Derived.Test.YtjcolpcfcdkckaaGreatK51
set_option maxRecDepth 10000
set_option maxHeartbeats 16000000
namespace Go.Proofs.YtjcolpcfcdkckaaGreat
set_option linter.unusedVariables false
open Go.RowKit
theorem AdL (f g:Int) (A B U V X Y P Q R S:Al) (i j k m:Int) (o:Nat)
 (f1:Ae Tryz.prog 4 [.agg (Ao A)] (.lit (.bool true))) (f2:Ae Tryz.prog 4 [.agg (Ao B)] (.lit (.bool true)))
 (f3:Ae Tryz.prog 4 [.agg (Ao U)] (.lit (.bool true))) (f4:Ae Tryz.prog 4 [.agg (Ao V)] (.lit (.bool true)))
 (l1:Ae Tryz.prog 5 [.agg (Ao A),.agg (Ao B),CG o] (.lit (.bool true))) (l2:Ae Tryz.prog 5 [.agg (Ao U),.agg (Ao V),CG o] (.lit (.bool true)))
 (p1:Ae Tryz.prog 7 [nA f,.agg (Ao A),.agg (Ao U)] (.tup [.agg (Ao X),nA 0])) (p2:Ae Tryz.prog 7 [nA f,.agg (Ao B),.agg (Ao V)] (.tup [.agg (Ao Y),nA 0]))
 (f5:Ae Tryz.prog 4 [.agg (Ao X)] (.lit (.bool true))) (f6:Ae Tryz.prog 4 [.agg (Ao Y)] (.lit (.bool true)))
 (p3:Ae Tryz.prog 7 [nA g,.agg (Ao A),.agg (Ao X)] (.tup [.agg (Ao P),nA i])) (p4:Ae Tryz.prog 7 [nA g,.agg (Ao B),.agg (Ao Y)] (.tup [.agg (Ao Q),nA j]))
 (p5:Ae Tryz.prog 8 [nA g,.agg (Ao X)] (.tup [.agg (Ao R),nA k])) (p6:Ae Tryz.prog 8 [nA g,.agg (Ao Y)] (.tup [.agg (Ao S),nA m]))
 (h1:i=0→j=0→Ae Tryz.prog 5 [.agg (Ao P),.agg (Ao Q),CG o] (.lit (.bool true)))
 (h2:k=0→m=0→Ae Tryz.prog 5 [.agg (Ao R),.agg (Ao S),CG o] (.lit (.bool true))) :
 Ae Tryz.prog 3 [nA f,nA g,.agg (Ao A),.agg (Ao B),.agg (Ao U),.agg (Ao V),CG o] (.lit (.bool true)):=by
 have c0:=AjM
 have e1:(i=0∧j=0∧Ae Tryz.prog 5 [.agg (Ao P),.agg (Ao Q),CG o] (.lit (.bool true)))∨(i=0∧j≠0)∨i≠0:=by
  by_cases hi:i=0
  ·by_cases hj:j=0
   ·exact .inl ⟨hi,hj,h1 hi hj⟩
   ·exact .inr (.inl ⟨hi,hj⟩)
  ·exact .inr (.inr hi)
 have e2:(k=0∧m=0∧Ae Tryz.prog 5 [.agg (Ao R),.agg (Ao S),CG o] (.lit (.bool true)))∨(k=0∧m≠0)∨k≠0:=by
  by_cases hi:k=0
  ·by_cases hj:m=0
   ·exact .inl ⟨hi,hj,h2 hi hj⟩
   ·exact .inr (.inl ⟨hi,hj⟩)
  ·exact .inr (.inr hi)
 clear h1 h2;rcases e1 with ⟨rfl,rfl,l3⟩|⟨rfl,hj⟩|hi
 all_goals
  rcases e2 with ⟨rfl,rfl,l4⟩|⟨rfl,hm⟩|hk
  all_goals
   refine Aa A3 fun C hC => ?_;refine Aj ?_;exact Am
theorem AjN (f g:Int) (A B U V:Al) (o:Nat) (hf:(Lit.int .i64 f).wf=true) (hg:(Lit.int .i64 g).wf=true) (hA:arrOK A) (hB:arrOK B) (hU:arrOK U) (hV:arrOK V) (ho:o<18446744073709551616)
 (K:EY A=true→EY B=true→EY U=true→EY V=true→AJ o A B=true→AJ o U V=true→(J2 f 8 A U).2=0→(J2 f 8 B V).2=0→EY (J2 f 8 A U).1=true→EY (J2 f 8 B V).1=true→Ae Tryz.prog 3 [nA f,nA g,.agg (Ao A),.agg (Ao B),.agg (Ao U),.agg (Ao V),CG o] (.lit (.bool true))) :
 Ae Tryz.prog 3 [nA f,nA g,.agg (Ao A),.agg (Ao B),.agg (Ao U),.agg (Ao V),CG o] (.lit (.bool true)):=by
 have f1:=Gw A hA;have f2:=Gw B hB;have f3:=Gw U hU;have f4:=Gw V hV;have c0:=AjM;cases b1:EY A
 ·rw [b1] at f1
  clear K;clear f2 f3 f4;refine Aa A3 fun C hC => ?_;refine Aj ?_;exact Am
 cases b2:EY B
 ·rw [b1] at f1
  rw [b2] at f2;clear K;clear f3 f4;refine Aa A3 fun C hC => ?_;refine Aj ?_;exact Am
 cases b3:EY U
 ·rw [b1] at f1
  rw [b2] at f2;rw [b3] at f3;clear K;clear f4;refine Aa A3 fun C hC => ?_;refine Aj ?_;exact Am
 cases b4:EY V
 ·rw [b1] at f1
  rw [b2] at f2;rw [b3] at f3;rw [b4] at f4;clear K;refine Aa A3 fun C hC => ?_;refine Aj ?_;exact Am
 rw [b1] at f1;rw [b2] at f2;rw [b3] at f3;rw [b4] at f4;cases a1:AJ o A B
 ·have l1:=Da A B o ho hA hB a1
  clear K;refine Aa A3 fun C hC => ?_;refine Aj ?_;exact Am
 cases a2:AJ o U V
 ·have l1:=Da A B o ho hA hB a1
  have l2:=Da U V o ho hU hV a2;clear K;refine Aa A3 fun C hC => ?_;refine Aj ?_;exact Am
 have l1:=Da A B o ho hA hB a1;have l2:=Da U V o ho hU hV a2;have tA:=EC hA b1;have tB:=EC hB b2;have tU:=EC hU b3;have tV:=EC hV b4;have p1:=Ox f (d:=8) A U tA tU;have p2:=Ox f (d:=8) B V tB tV;have oX:=G5 f tA tU (Gt b3);have oY:=G5 f tB tV (Gt b4);generalize J2 f 8 A U=X at *;generalize J2 f 8 B V=Y at *;obtain ⟨X,e⟩:=X;obtain ⟨Y,h⟩:=Y;dsimp only at p1 p2 oX oY K;have f5:=Gw X oX;have f6:=Gw Y oY;by_cases he:e=0
 case neg =>
  clear f5 f6 oX oY K tA tB tU tV b1 b2 b3 b4 a1 a2;refine Aa A3 fun C hC => ?_;refine Aj ?_;exact Am
 by_cases hh:h=0
 case neg =>
  subst he;clear f5 f6 oX oY K tA tB tU tV b1 b2 b3 b4 a1 a2;refine Aa A3 fun C hC => ?_;refine Aj ?_;exact Am
 subst he;subst hh;cases b5:EY X
 ·rw [b5] at f5
  clear f6;clear K;refine Aa A3 fun C hC => ?_;refine Aj ?_;exact Am
 cases b6:EY Y
 ·rw [b5] at f5
  rw [b6] at f6;clear K;refine Aa A3 fun C hC => ?_;refine Aj ?_;exact Am
 exact K b1 b2 b3 b4 a1 a2 rfl rfl b5 b6
theorem AdM (f g:Int) (A B U V:Al) (o:Nat) (hf:(Lit.int .i64 f).wf=true) (hg:(Lit.int .i64 g).wf=true) (hA:arrOK A) (hB:arrOK B) (hU:arrOK U) (hV:arrOK V) (ho:o<18446744073709551616) :
 Ae Tryz.prog 3 [nA f,nA g,.agg (Ao A),.agg (Ao B),.agg (Ao U),.agg (Ao V),CG o] (.lit (.bool true)):=by
 refine AjN f g A B U V o hf hg hA hB hU hV ho fun b1 b2 b3 b4 a1 a2 e h b5 b6 => ?_;have tA:=EC hA b1;have tB:=EC hB b2;have tU:=EC hU b3;have tV:=EC hV b4;have p1:=Ox f (d:=8) A U tA tU;have p2:=Ox f (d:=8) B V tB tV;rw [e] at p1;rw [h] at p2;have oX:=G5 f tA tU (Gt b3);have oY:=G5 f tB tV (Gt b4);have aX:=Ae5 ho tA.okA tB.okA tU.okA tV.okA a1 a2 f 8 e h;have f5:=Gw _ oX;have f6:=Gw _ oY;rw [b5] at f5;rw [b6] at f6;have tX:=EC oX b5;have tY:=EC oY b6;have rX:=Gt b5;have rY:=Gt b6;have nX:=Acy b5;have nY:=Acy b6;have f1:=Gw A hA;have f2:=Gw B hB;have f3:=Gw U hU;have f4:=Gw V hV;rw [b1] at f1;rw [b2] at f2;rw [b3] at f3;rw [b4] at f4;generalize (J2 f 8 A U).1=X at *;generalize (J2 f 8 B V).1=Y at *
 exact AdL f g A B U V X Y _ _ _ _ _ _ _ _ o f1 f2 f3 f4 (Da A B o ho hA hB a1) (Da U V o ho hU hV a2) p1 p2 f5 f6 (Ox g (d:=8) A X tA tX) (Ox g (d:=8) B Y tB tY) (AjG g (d:=8) X tX rX (by omega)) (AjG g (d:=8) Y tY rY (by omega))
  (fun i j=>Da _ _ o ho (G5 g tA tX rX) (G5 g tB tY rY) (Ae5 ho tA.okA tB.okA tX.okA tY.okA a1 aX g 8 i j))
  (fun i j=>Da _ _ o ho (X2 g tX rX) (X2 g tY rY) (Alc ho tX.j tY.j aX g 8 i j))
end Go.Proofs.YtjcolpcfcdkckaaGreat
