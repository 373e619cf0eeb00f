/- All cells that are no boxes, along one axis: mold.Enlist. -/
import Derived.Test.YtjcolpcfcdkckaaGreatK33
set_option maxRecDepth 10000
set_option maxHeartbeats 16000000
namespace Go.Proofs.YtjcolpcfcdkckaaGreat
set_option linter.unusedVariables false
open Go.RowKit
mutual
def HF:Al→List Ah
 | .mk _ _ cs=>DT cs
def DT:List Ah→List Ah
 | []=>[]
 | c::cs=>Z8 c++DT cs
def Z8:Ah→List Ah
 | .mk l k n ch ins=>if k=2 then VX ins else [.mk l k n ch ins]
def VX:List Al→List Ah
 | []=>[]
 | a::us=>HF a++VX us
end
theorem RK:∀ (us:List Ah) (vs:List Ah),DT (us++vs)=DT us++DT vs
 | [],vs=>rfl
 | c::us,vs=>by rw [List.cons_append,DT,DT,RK us vs,List.append_assoc]
theorem Ql {c:Ah} {a:Al} (h:c.kind=2) (ha:c.ins=[a]):Z8 c=HF a:=by
 obtain ⟨l,k,n,ch,ins⟩:=c;dsimp only [Ah.kind,Ah.ins] at h ha;subst h; subst ha;rw [Z8,if_pos rfl,VX,VX,List.append_nil]
theorem J3 {c:Ah} (h:¬ c.kind=2):Z8 c=[c]:=by
 obtain ⟨l,k,n,ch,ins⟩:=c;have h:¬ k=2:=h;rw [Z8,if_neg h]
def RL (X cs:List Ah) (j:Nat):List Ah:=X++DT (cs.take j)
theorem Me (X cs:List Ah):X=RL X cs 0:=by unfold RL; rw [List.take_zero,DT,List.append_nil]
theorem Mf (X:List Ah) {cs:List Ah} {j:Nat} {c:Ah} (h:cs[j]? = some c):RL X cs j++Z8 c=RL X cs (j+1):=by
 unfold RL;rw [List.take_add_one,h,RK,← List.append_assoc];show _=_++(Z8 c++[]);rw [List.append_nil]
theorem Qm (X cs:List Ah) {j:Nat} (h:¬ j<cs.length):RL X cs j=X++DT cs:=by unfold RL; rw [List.take_of_length_le (by omega)]
theorem Tq (X cs:List Ah) (j:Nat):(RL X cs j).length≤(X++DT cs).length:=by
 unfold RL
 conv=>rhs; rw [← List.take_append_drop j cs,RK]
 simp only [List.length_append]; omega
def WS (A:Al):Al × Int:=if (HF A).length > 2048 then (zA,7) else (.mk (A8 A) [((HF A).length:Int)] (HF A),0)
def VY (A:Al) (X:List Ah):Prop :=
 Dn Tryz.prog 93 [.own 0,.agg (Ao A)] [(0,some ⟨true,false,43,7,X.map Av⟩)] 1 (.tup [.own 1,.lit (.bool true)]) [(1,some ⟨true,false,43,7,(X++HF A).map Av⟩),(0,none)] 2
def Ack (A:Al) (X:List Ah):Prop :=
 Dn Tryz.prog 93 [.own 0,.agg (Ao A)] [(0,some ⟨true,false,43,7,X.map Av⟩)] 1 (.tup [.lit (.slice none 0 0),.lit (.bool false)]) [(0,none)] 1
def AdE (A:Al):Prop :=
 Dn Tryz.prog 93 [.lit (.slice none 0 0),.agg (Ao A)] [] 0 (.tup [.own 0,.lit (.bool true)]) [(0,some ⟨true,false,43,7,(HF A).map Av⟩)] 1
def AdF (A:Al):Prop :=
 Dn Tryz.prog 93 [.lit (.slice none 0 0),.agg (Ao A)] [] 0 (.tup [.lit (.slice none 0 0),.lit (.bool false)]) [] 0
def AgD (A:Al):Prop:=∀ X:List Ah,X.length≤2048→((X++HF A).length≤2048→VY A X)∧(2048<(X++HF A).length→Ack A X)
theorem Aff {p:Al→Prop} (A:Al) (hA:EA A) (kA:∀ c ∈ A.cells,Cz p c) (X:List Ah) (hX:X.length≤2048) (h:(X++HF A).length≤2048) (ih:∀ a,p a→AgD a):VY A X:=by
 have lA:=AK A;have hcl:=hA.cells;unfold VY;have hE:HF A=DT A.cells:=by cases A; rfl
 rw [hE] at h ⊢;have hle:=fun j=>Tq X A.cells j;have e0:=Me X A.cells;have hst:=fun j c (h:A.cells[j]? = some c)=>Mf X h;have hen:=fun j (h:¬ j<A.cells.length)=>Qm X A.cells h;generalize X++DT A.cells=T at *;generalize RL X A.cells=J at *;refine BK Ec fun C hC => ?_;refine PE 0 0 rfl rfl rfl rfl ?_;refine Aj ?_
 refine Ai [3,12,13] [0,2] (fun j:Nat=>[(0,.own 1),(14,nA j)]) (fun j=>[(1,some ⟨true,false,43,7,(J j).map Av⟩)]) 3
  (fun j=>j≤A.cells.length) (fun j=>A.cells.length - j) 0 (Nat.zero_le _) ?_ (hh:=(by rw [← e0]; rfl))
 intro j hj;dsimp only [List.cons_append,List.nil_append] at hj ⊢;have hJ:(J j).length≤2048:=Nat.le_trans (hle j) h;by_cases hlt:j<A.cells.length
 ·obtain ⟨c,hc⟩:∃ c,A.cells[j]? = some c:=⟨_,List.getElem?_eq_getElem hlt⟩
  have hck:=A9 hc;have hs:=hst j c hc;have hle1:=hle (j+1);have hco:=kA c (List.mem_of_getElem? hc);generalize J j=Y at *;generalize hZ:J (j+1)=Z at *;clear hst hen kA e0 hle;by_cases hk:c.kind=2
  ·obtain ⟨a,ha,pa⟩:∃ a,c.ins=[a]∧p a:=by
    rcases hco.2 with g|g|⟨_,_,_,a,ha,pa⟩
    ·have:=g.1; omega
    ·have:=g.1; omega
    ·exact ⟨a,ha,pa⟩
   rw [Ql hk ha] at hs;have hak:(c.ins.map Dg)[(0:Int).toNat]? = some (Ao a):=by rw [ha]; exact CY rfl
   have hal:((c.ins.map Dg).length:Int)=1:=by rw [ha]; rfl
   have cb:=ih a pa Y hJ;rw [hs] at cb;clear ih hco;have c1:=cb.1 (by omega);unfold VY at c1;rw [hs] at c1;clear cb;generalize hZR:Z.map Av=ZR at *;refine Aj ?_;refine CM 2 ?_;refine Ea ?_;refine Aj ?_;refine Cw [(1,0)] c1 ?_;refine A5 ?_;refine Ak ⟨rfl,?_⟩;refine Aj ?_;exact ⟨j+1,by omega,by omega,BI hC.m [(1,5)] (by rw [hZ,hZR]; rfl)⟩
  ·rw [J3 hk] at hs
   clear ih hco;have hzl:Z.length=Y.length+1:=by rw [← hs]; simp
   have hm:Y.map Av++[Au c]=Z.map Av:=by rw [← hs]; simp [Bv]
   have hyl:(Y.map Av).length=Y.length:=List.length_map ..;generalize Y.map Av=YR at *;generalize hZR:Z.map Av=ZR at *;have hb:(YR.length+1) * 104≤140737488355328:=by omega
   have hb2:(YR.length:Int)≠2048:=by omega
   refine Aj ?_;exact ⟨j+1,by omega,by omega,BI hC.m [(1,5)] (by rw [hZ,hZR,← hm]; rfl)⟩
 ·have hT:=hen j hlt
  rw [hT];clear ih kA hst hen e0 hle;refine Aj ?_;exact BZ [(1,1)]
theorem Aju {p:Al→Prop} (A:Al) (hA:EA A) (kA:∀ c ∈ A.cells,Cz p c) (h:(([]:List Ah)++HF A).length≤2048) (ih:∀ a,p a→AgD a):AdE A:=by
 have lA:=AK A;have hcl:=hA.cells;unfold AdE;have hE:HF A=DT A.cells:=by cases A; rfl
 rw [hE] at h ⊢;obtain ⟨X,hX0⟩:∃ X:List Ah,X=[]:=⟨_,rfl⟩;have hX:X.length≤2048:=by rw [hX0]; simp
 rw [show DT A.cells=X++DT A.cells from by rw [hX0]; rfl] at ⊢;rw [← hX0] at h;have hle:=fun j=>Tq X A.cells j;have e0:=Me X A.cells;have hst:=fun j c (h:A.cells[j]? = some c)=>Mf X h;have hen:=fun j (h:¬ j<A.cells.length)=>Qm X A.cells h;generalize X++DT A.cells=T at *;generalize RL X A.cells=J at *;refine BK Ec fun C hC => ?_;refine Ud 0 43 7 rfl ?_;refine PE 0 0 rfl rfl rfl rfl ?_;refine Aj ?_
 refine Ai [3,12,13] [0,2] (fun j:Nat=>[(0,.own 1),(14,nA j)]) (fun j=>[(1,some ⟨true,false,43,7,(J j).map Av⟩)]) 3
  (fun j=>j≤A.cells.length) (fun j=>A.cells.length - j) 0 (Nat.zero_le _) ?_ (hh:=(by rw [← e0,hX0]; rfl))
 intro j hj;dsimp only [List.cons_append,List.nil_append] at hj ⊢;have hJ:(J j).length≤2048:=Nat.le_trans (hle j) h;by_cases hlt:j<A.cells.length
 ·obtain ⟨c,hc⟩:∃ c,A.cells[j]? = some c:=⟨_,List.getElem?_eq_getElem hlt⟩
  have hck:=A9 hc;have hs:=hst j c hc;have hle1:=hle (j+1);have hco:=kA c (List.mem_of_getElem? hc);generalize J j=Y at *;generalize hZ:J (j+1)=Z at *;clear hst hen kA e0 hle;by_cases hk:c.kind=2
  ·obtain ⟨a,ha,pa⟩:∃ a,c.ins=[a]∧p a:=by
    rcases hco.2 with g|g|⟨_,_,_,a,ha,pa⟩
    ·have:=g.1; omega
    ·have:=g.1; omega
    ·exact ⟨a,ha,pa⟩
   rw [Ql hk ha] at hs;have hak:(c.ins.map Dg)[(0:Int).toNat]? = some (Ao a):=by rw [ha]; exact CY rfl
   have hal:((c.ins.map Dg).length:Int)=1:=by rw [ha]; rfl
   have cb:=ih a pa Y hJ;rw [hs] at cb;clear ih hco;have c1:=cb.1 (by omega);unfold VY at c1;rw [hs] at c1;clear cb;generalize hZR:Z.map Av=ZR at *;refine Aj ?_;refine CM 2 ?_;refine Ea ?_;refine Aj ?_;refine Cw [(1,0)] c1 ?_;refine A5 ?_;refine Ak ⟨rfl,?_⟩;refine Aj ?_;exact ⟨j+1,by omega,by omega,BI hC.m [(1,5)] (by rw [hZ,hZR]; rfl)⟩
  ·rw [J3 hk] at hs
   clear ih hco;have hzl:Z.length=Y.length+1:=by rw [← hs]; simp
   have hm:Y.map Av++[Au c]=Z.map Av:=by rw [← hs]; simp [Bv]
   have hyl:(Y.map Av).length=Y.length:=List.length_map ..;generalize Y.map Av=YR at *;generalize hZR:Z.map Av=ZR at *;have hb:(YR.length+1) * 104≤140737488355328:=by omega
   have hb2:(YR.length:Int)≠2048:=by omega
   refine Aj ?_;exact ⟨j+1,by omega,by omega,BI hC.m [(1,5)] (by rw [hZ,hZR,← hm]; rfl)⟩
 ·have hT:=hen j hlt
  rw [hT];clear ih kA hst hen e0 hle;refine Aj ?_;exact BZ [(0,1)]
theorem Afg {p:Al→Prop} (A:Al) (hA:EA A) (kA:∀ c ∈ A.cells,Cz p c) (X:List Ah) (hX:X.length≤2048) (h:2048<(X++HF A).length) (ih:∀ a,p a→AgD a):Ack A X:=by
 have lA:=AK A;have hcl:=hA.cells;unfold Ack;have hE:HF A=DT A.cells:=by cases A; rfl
 rw [hE] at h;have hle:=fun j=>Tq X A.cells j;have e0:=Me X A.cells;have hst:=fun j c (h:A.cells[j]? = some c)=>Mf X h;have hen:=fun j (h:¬ j<A.cells.length)=>Qm X A.cells h;generalize X++DT A.cells=T at *;generalize RL X A.cells=J at *;refine BK Ec fun C hC => ?_;refine PE 0 0 rfl rfl rfl rfl ?_;refine Aj ?_
 refine Ai [3,12,13] [0,2] (fun j:Nat=>[(0,.own 1),(14,nA j)]) (fun j=>[(1,some ⟨true,false,43,7,(J j).map Av⟩)]) 3
  (fun j=>j≤A.cells.length∧(J j).length≤2048) (fun j=>A.cells.length - j) 0 ⟨Nat.zero_le _,by rw [← e0]; exact hX⟩ ?_ (hh:=(by rw [← e0]; rfl))
 rintro j ⟨hj,hJ⟩;dsimp only [List.cons_append,List.nil_append] at hj ⊢;by_cases hlt:j<A.cells.length
 ·obtain ⟨c,hc⟩:∃ c,A.cells[j]? = some c:=⟨_,List.getElem?_eq_getElem hlt⟩
  have hck:=A9 hc;have hs:=hst j c hc;have hle1:=hle (j+1);have hco:=kA c (List.mem_of_getElem? hc);generalize J j=Y at *;generalize hZ:J (j+1)=Z at *;clear hst hen kA e0 hle;by_cases hk:c.kind=2
  ·obtain ⟨a,ha,pa⟩:∃ a,c.ins=[a]∧p a:=by
    rcases hco.2 with g|g|⟨_,_,_,a,ha,pa⟩
    ·have:=g.1; omega
    ·have:=g.1; omega
    ·exact ⟨a,ha,pa⟩
   rw [Ql hk ha] at hs;have hak:(c.ins.map Dg)[(0:Int).toNat]? = some (Ao a):=by rw [ha]; exact CY rfl
   have hal:((c.ins.map Dg).length:Int)=1:=by rw [ha]; rfl
   have cb:=ih a pa Y hJ;rw [hs] at cb;clear ih hco;by_cases hz:Z.length≤2048
   ·have c1:=cb.1 (by omega)
    unfold VY at c1;rw [hs] at c1;clear cb;generalize hZR:Z.map Av=ZR at *;refine Aj ?_;refine CM 2 ?_;refine Ea ?_;refine Aj ?_;refine Cw [(1,0)] c1 ?_;refine A5 ?_;refine Ak ⟨rfl,?_⟩;refine Aj ?_;exact ⟨j+1,by omega,⟨by omega,by rw [hZ]; omega⟩,BI hC.m [(1,5)] (by rw [hZ,hZR]; rfl)⟩
   ·have c1:=cb.2 (by omega)
    unfold Ack at c1;clear cb;refine Aj ?_;refine CM 2 ?_;refine Ea ?_;refine Aj ?_;refine Bn [(1,0)] c1 ?_;refine A5 ?_;refine Ak ⟨rfl,?_⟩;refine Aj ?_;exact BZ []
  ·rw [J3 hk] at hs
   clear ih hco;have hzl:Z.length=Y.length+1:=by rw [← hs]; simp
   have hm:Y.map Av++[Au c]=Z.map Av:=by rw [← hs]; simp [Bv]
   have hyl:(Y.map Av).length=Y.length:=List.length_map ..;generalize Y.map Av=YR at *;generalize hZR:Z.map Av=ZR at *;by_cases hz:YR.length=2048
   ·have hz2:(YR.length:Int)=2048:=by omega
    clear hz;refine Aj ?_;exact BZ []
   ·have hb:(YR.length+1) * 104≤140737488355328:=by omega
    have hb2:(YR.length:Int)≠2048:=by omega
    refine Aj ?_;exact ⟨j+1,by omega,⟨by omega,by rw [hZ]; omega⟩,BI hC.m [(1,5)] (by rw [hZ,hZR,← hm]; rfl)⟩
 ·have hT:=hen j hlt
  rw [hT] at hJ;omega
theorem Ajv {p:Al→Prop} (A:Al) (hA:EA A) (kA:∀ c ∈ A.cells,Cz p c) (h:2048<(([]:List Ah)++HF A).length) (ih:∀ a,p a→AgD a):AdF A:=by
 have lA:=AK A;have hcl:=hA.cells;unfold AdF;have hE:HF A=DT A.cells:=by cases A; rfl
 rw [hE] at h;obtain ⟨X,hX0⟩:∃ X:List Ah,X=[]:=⟨_,rfl⟩;have hX:X.length≤2048:=by rw [hX0]; simp
 rw [← hX0] at h;have hle:=fun j=>Tq X A.cells j;have e0:=Me X A.cells;have hst:=fun j c (h:A.cells[j]? = some c)=>Mf X h;have hen:=fun j (h:¬ j<A.cells.length)=>Qm X A.cells h;generalize X++DT A.cells=T at *;generalize RL X A.cells=J at *;refine BK Ec fun C hC => ?_;refine Ud 0 43 7 rfl ?_;refine PE 0 0 rfl rfl rfl rfl ?_;refine Aj ?_
 refine Ai [3,12,13] [0,2] (fun j:Nat=>[(0,.own 1),(14,nA j)]) (fun j=>[(1,some ⟨true,false,43,7,(J j).map Av⟩)]) 3
  (fun j=>j≤A.cells.length∧(J j).length≤2048) (fun j=>A.cells.length - j) 0 ⟨Nat.zero_le _,by rw [← e0]; exact hX⟩ ?_ (hh:=(by rw [← e0,hX0]; rfl))
 rintro j ⟨hj,hJ⟩;dsimp only [List.cons_append,List.nil_append] at hj ⊢;by_cases hlt:j<A.cells.length
 ·obtain ⟨c,hc⟩:∃ c,A.cells[j]? = some c:=⟨_,List.getElem?_eq_getElem hlt⟩
  have hck:=A9 hc;have hs:=hst j c hc;have hle1:=hle (j+1);have hco:=kA c (List.mem_of_getElem? hc);generalize J j=Y at *;generalize hZ:J (j+1)=Z at *;clear hst hen kA e0 hle;by_cases hk:c.kind=2
  ·obtain ⟨a,ha,pa⟩:∃ a,c.ins=[a]∧p a:=by
    rcases hco.2 with g|g|⟨_,_,_,a,ha,pa⟩
    ·have:=g.1; omega
    ·have:=g.1; omega
    ·exact ⟨a,ha,pa⟩
   rw [Ql hk ha] at hs;have hak:(c.ins.map Dg)[(0:Int).toNat]? = some (Ao a):=by rw [ha]; exact CY rfl
   have hal:((c.ins.map Dg).length:Int)=1:=by rw [ha]; rfl
   have cb:=ih a pa Y hJ;rw [hs] at cb;clear ih hco;by_cases hz:Z.length≤2048
   ·have c1:=cb.1 (by omega)
    unfold VY at c1;rw [hs] at c1;clear cb;generalize hZR:Z.map Av=ZR at *;refine Aj ?_;refine CM 2 ?_;refine Ea ?_;refine Aj ?_;refine Cw [(1,0)] c1 ?_;refine A5 ?_;refine Ak ⟨rfl,?_⟩;refine Aj ?_;exact ⟨j+1,by omega,⟨by omega,by rw [hZ]; omega⟩,BI hC.m [(1,5)] (by rw [hZ,hZR]; rfl)⟩
   ·have c1:=cb.2 (by omega)
    unfold Ack at c1;clear cb;refine Aj ?_;refine CM 2 ?_;refine Ea ?_;refine Aj ?_;refine Bn [(1,0)] c1 ?_;refine A5 ?_;refine Ak ⟨rfl,?_⟩;refine Aj ?_;exact BZ []
  ·rw [J3 hk] at hs
   clear ih hco;have hzl:Z.length=Y.length+1:=by rw [← hs]; simp
   have hm:Y.map Av++[Au c]=Z.map Av:=by rw [← hs]; simp [Bv]
   have hyl:(Y.map Av).length=Y.length:=List.length_map ..;generalize Y.map Av=YR at *;generalize hZR:Z.map Av=ZR at *;by_cases hz:YR.length=2048
   ·have hz2:(YR.length:Int)=2048:=by omega
    clear hz;refine Aj ?_;exact BZ []
   ·have hb:(YR.length+1) * 104≤140737488355328:=by omega
    have hb2:(YR.length:Int)≠2048:=by omega
    refine Aj ?_;exact ⟨j+1,by omega,⟨by omega,by rw [hZ]; omega⟩,BI hC.m [(1,5)] (by rw [hZ,hZR,← hm]; rfl)⟩
 ·have hT:=hen j hlt
  rw [hT] at hJ;omega
theorem AdG:∀ (d:Nat) (A:Al),Gb d A→AgD A
 | 0,A,h=>fun X hX=>⟨fun g=>Aff A h.1 h.2 X hX g fun _ h=>h.elim,fun g=>Afg A h.1 h.2 X hX g fun _ h=>h.elim⟩
 | d+1,A,h=>fun X hX=>⟨fun g=>Aff A h.1 h.2 X hX g (AdG d),fun g=>Afg A h.1 h.2 X hX g (AdG d)⟩
theorem Gb.sub {d:Nat} {A:Al} (h:Gb d A):∃ p,EA A∧(∀ c ∈ A.cells,Cz p c)∧∀ a,p a→AgD a:=by
 cases d with
 | zero=>exact ⟨_,h.1,h.2,fun _ h=>h.elim⟩
 | succ d=>exact ⟨_,h.1,h.2,AdG d⟩
theorem Ajw {d:Nat} (A:Al) (tA:Gb d A):Ae Tryz.prog 35 [.agg (Ao A)] (.tup [.agg (Ao (WS A).1),nA (WS A).2]):=by
 obtain ⟨p,h1,h2,h3⟩:=tA.sub;have c2:=C9 A tA.okA;unfold WS;by_cases h:(HF A).length > 2048
 ·rw [if_pos h]
  have c1:=Ajv A h1 h2 h h3;unfold AdF at c1;clear c2;refine Aa I6 fun C hC => ?_;refine Aj ?_;refine Bn [] c1 ?_;refine A5 ?_;refine Ak ⟨rfl,?_⟩;refine Aj ?_;exact Am
 ·rw [if_neg h]
  have c1:=Aju A h1 h2 (by show (HF A).length≤2048; omega) h3;unfold AdE at c1;have hl:(((HF A).map Av).length:Int)=(HF A).length:=by rw [List.length_map]
  refine Aa I6 fun C hC => ?_;refine Aj ?_;refine Cw [] c1 ?_;refine A5 ?_;refine Ak ⟨rfl,?_⟩;refine Aj ?_;exact Am
end Go.Proofs.YtjcolpcfcdkckaaGreat
