/- Which of two comes first: cmp.Compare, slices.Compare, grade.cells, grade.arrays. -/
import Derived.Test.YtjcolpcfcdkckaaGreatK39
import Derived.Test.YtjcolpcfcdkckaaGreatK40
set_option maxRecDepth 10000
set_option maxHeartbeats 4000000
namespace Go.Proofs.YtjcolpcfcdkckaaGreat
set_option linter.unusedVariables false
open Go.RowKit
def SZ (a b:Int):Int:=if a<b then -1 else if a > b then 1 else 0
theorem Afh (a:Int):Ae Tryz.prog 180 [nA a] (.lit (.bool false)):=by
 refine Aa MQ fun C hC => ?_;refine Aj ?_;exact Am
theorem Z9 (a b:Int):Ae Tryz.prog 148 [nA a,nA b] (nA (SZ a b)):=by
 have c1:=Afh a;have c2:=Afh b;unfold SZ;by_cases h1:a<b
 ·rw [if_pos h1]
  refine Aa DL fun C hC => ?_;refine Aj ?_;exact Am
 ·rw [if_neg h1]
  by_cases h2:a > b
  ·rw [if_pos h2]
   refine Aa DL fun C hC => ?_;refine Aj ?_;exact Am
  ·rw [if_neg h2]
   refine Aa DL fun C hC => ?_;refine Aj ?_;exact Am
theorem AgE {a b:Int} (h:SZ a b=0):a=b:=by
 unfold SZ at h;split at h
 ·omega
 ·split at h<;>omega
def M0:List Int→List Int→Int
 | [],[]=>0
 | [],_::_ => -1
 | _::_,[]=>1
 | a::s,b::t=>if SZ a b≠0 then SZ a b else M0 s t
theorem XX:∀ {s t:List Int},M0 s t=0→s=t
 | [],[],_=>rfl
 | [],_::_,h=>by rw [M0] at h; omega
 | _::_,[],h=>by rw [M0] at h; omega
 | a::s,b::t,h=>by
   rw [M0] at h;split at h
   ·rename_i g; exact absurd h g
   ·rename_i g
    rw [AgE (Classical.not_not.1 g),XX h]
theorem Amz (s t:List Int) (hs:s.length≤100) (ht:t.length≤100):Ae Tryz.prog 184 [.sl 1 (Ab .i64 s),.sl 1 (Ab .i64 t)] (nA (M0 s t)):=by
 have ls:=Ac .i64 s;have lt:=Ac .i64 t;refine Aa I8 fun C hC => ?_;refine Aj ?_;refine Ai [0,1,4,9,10] [] (fun j:Nat=>[(11,nA j)]) (fun _=>[]) 0 (fun j=>j≤s.length∧M0 s t=M0 (s.drop j) (t.drop j)) (fun j=>s.length - j) 0 ⟨Nat.zero_le _,rfl⟩ ?_;rintro j ⟨hj,hE⟩;dsimp only [List.cons_append,List.nil_append] at hj hE ⊢;generalize M0 s t=R at hE ⊢;by_cases hlt:j<s.length
 ·obtain ⟨a,ha⟩:∃ a,s[j]? = some a:=⟨_,List.getElem?_eq_getElem hlt⟩
  have hak:=Az (k:=.i64) ha;rw [AU ha] at hE;by_cases hlt2:j<t.length
  ·obtain ⟨b,hb⟩:∃ b,t[j]? = some b:=⟨_,List.getElem?_eq_getElem hlt2⟩
   have hbk:=Az (k:=.i64) hb;rw [AU hb,M0] at hE;have c1:=Z9 a b;generalize SZ a b=k at c1 hE;by_cases hk:k=0
   ·subst hk
    rw [if_neg (fun h=>h rfl)] at hE;refine Aj ?_;exact ⟨j+1,by omega,⟨by omega,hE⟩,BI hC.m []⟩
   ·rw [if_pos hk] at hE
    subst hE;refine Aj ?_;exact Am
  ·rw [List.drop_eq_nil_of_le (by omega:t.length≤j),M0] at hE
   subst hE;refine Aj ?_;exact Am
 ·obtain rfl:j=s.length:=by omega
  rw [List.drop_eq_nil_of_le (Nat.le_refl _)] at hE;by_cases hl:s.length<t.length
  ·obtain ⟨b,hb⟩:∃ b,t[s.length]? = some b:=⟨_,List.getElem?_eq_getElem hl⟩
   rw [AU hb,M0] at hE;subst hE;refine Aj ?_;exact Am
  ·rw [List.drop_eq_nil_of_le (by omega),M0] at hE
   subst hE;refine Aj ?_;exact Am
open Classical in
noncomputable def VZ (x y:Ah):Int:=if h:∃ k:Int,Ae Tryz.prog 100 [.agg (Au x),.agg (Au y)] (nA k) then Classical.choose h else 0
theorem AdH {x y:Ah} (h:∃ k:Int,Ae Tryz.prog 100 [.agg (Au x),.agg (Au y)] (nA k)):Ae Tryz.prog 100 [.agg (Au x),.agg (Au y)] (nA (VZ x y)):=by
 unfold VZ;rw [dif_pos h];exact Classical.choose_spec h
noncomputable def XY (A B:Al):List Int:=(List.range A.cells.length).map fun i=>VZ (A.cells.getD i AS) (B.cells.getD i AS)
theorem Afi (A B:Al) (hA:EA A) (hB:EA B) (hc:∀ x ∈ A.cells,∀ y ∈ B.cells,Ae Tryz.prog 100 [.agg (Au x),.agg (Au y)] (nA (VZ x y))) :
 ∃ k:Int,Ae Tryz.prog 150 [.agg (Ao A),.agg (Ao B)] (nA k):=by
 have a6:=hA.len;have b6:=hB.len;have aC:=hA.cells;have ls:=Ac .i64 A.shape;have lt:=Ac .i64 B.shape;have lA:=AK A;have lB:=AK B;have c1:=Z9 (A.shape.length:Int) (B.shape.length:Int);have c2:=Amz A.shape B.shape (by omega) (by omega);by_cases h1:SZ (A.shape.length:Int) (B.shape.length:Int)=0
 ·rw [h1] at c1
  by_cases h2:M0 A.shape B.shape=0
  ·have hsh:=XX h2
   have hlen:B.cells.length=A.cells.length:=by have e1:=hA.2.2; have e2:=hB.2.2; rw [hsh] at e1; omega
   rw [h2] at c2;refine ⟨IJ (XY A B),?_⟩;have hEg:∀ i,i<A.cells.length→(XY A B)[i]? = some (VZ (A.cells.getD i AS) (B.cells.getD i AS)):=fun i hi=>by simp [XY,hi]
   have hEl:(XY A B).length=A.cells.length:=by simp [XY]
   generalize XY A B=ES at *;refine Aa Fc fun C hC => ?_;refine Aj ?_;refine Ai [2,3,28,29] [0,1] (fun j:Nat=>[(30,nA j)]) (fun _=>[]) 2 (fun j=>j≤A.cells.length∧IJ ES=IJ (ES.drop j)) (fun j=>A.cells.length - j) 0 ⟨Nat.zero_le _,rfl⟩ ?_;rintro j ⟨hj,hE⟩;dsimp only [List.cons_append,List.nil_append] at hj hE ⊢;clear c1 c2;by_cases hlt:j<A.cells.length
   ·obtain ⟨x,hx⟩:∃ x,A.cells[j]? = some x:=⟨_,List.getElem?_eq_getElem hlt⟩
    obtain ⟨y,hy⟩:∃ y,B.cells[j]? = some y:=⟨_,List.getElem?_eq_getElem (by omega)⟩;have hxk:=A9 hx;have hyk:=A9 hy;have c3:=hc x (List.mem_of_getElem? hx) y (List.mem_of_getElem? hy);have e:=hEg j hlt;rw [show A.cells.getD j AS=x from by rw [List.getD_eq_getElem?_getD,hx]; rfl,show B.cells.getD j AS=y from by rw [List.getD_eq_getElem?_getD,hy]; rfl] at e;rw [AU e,IJ] at hE;generalize VZ x y=k at c3 hE;generalize IJ ES=R at *;clear hc hEg;by_cases hk:k=0
    ·subst hk
     rw [if_neg (fun h=>h rfl)] at hE;refine Aj ?_;exact ⟨j+1,by omega,⟨by omega,hE⟩,BI hC.m []⟩
    ·rw [if_pos hk] at hE
     subst hE;refine Aj ?_;exact Am
   ·rw [List.drop_eq_nil_of_le (by omega),IJ] at hE
    rw [hE];clear hc hEg;refine Aj ?_;exact Am
  ·refine ⟨M0 A.shape B.shape,?_⟩
   clear hc;generalize M0 A.shape B.shape=k at *;refine Aa Fc fun C hC => ?_;refine Aj ?_;exact Am
 ·refine ⟨SZ (A.shape.length:Int) (B.shape.length:Int),?_⟩
  clear hc c2;generalize SZ (A.shape.length:Int) (B.shape.length:Int)=k at *;refine Aa Fc fun C hC => ?_;refine Aj ?_;exact Am
theorem V0 {p:Al→Prop} (x y:Ah) (hx:Cz p x) (hy:Cz p y) (ha:x.kind=2→y.kind=2→∀ a b,x.ins=[a]→y.ins=[b]→∃ k:Int,Ae Tryz.prog 150 [.agg (Ao a),.agg (Ao b)] (nA k)) :
 ∃ k:Int,Ae Tryz.prog 100 [.agg (Au x),.agg (Au y)] (nA k):=by
 by_cases h:x.kind=y.kind
 ·have num:∀ {c:Ah},Cz p c→c.kind=0→JY c.n:=fun {c} hc h0=>by
   rcases hc.2 with h|h|h
   ·exact h.2.2.2
   ·have:=h.1; omega
   ·have:=h.1; omega
  have box:∀ {c:Ah},Cz p c→c.kind=2→∃ a,c.ins=[a]:=fun {c} hc h0=>by
   rcases hc.2 with h|h|h
   ·have:=h.1; omega
   ·have:=h.1; omega
   ·obtain ⟨_,_,_,a,e,_⟩:=h; exact ⟨a,e⟩
  have kinds:x.kind=0∨x.kind=1∨x.kind=2:=by
   rcases hx.2 with h|h|h
   ·exact .inl h.1
   ·exact .inr (.inl h.1)
   ·exact .inr (.inr h.1)
  rcases kinds with k0|k1|k2
  ·have k0':y.kind=0:=by omega
   obtain ⟨z,q,e1,_,lz,lq⟩:=num hx k0;obtain ⟨w,r,e2,_,lw,lr⟩:=num hy k0';have c1:=ZO z q w r (by omega) (by omega) (by omega) (by omega);rw [← e1,← e2] at c1;generalize PV (z * r) (w * q)=k at c1;refine ⟨k,?_⟩;clear ha;refine Aa Ed fun C hC => ?_;refine Aj ?_;exact Am
  ·have k1':y.kind=1:=by omega
   have c1:=Z9 x.c y.c;generalize SZ x.c y.c=k at c1;refine ⟨k,?_⟩;clear ha;refine Aa Ed fun C hC => ?_;refine Aj ?_;exact Am
  ·have k2':y.kind=2:=by omega
   obtain ⟨a,e1⟩:=box hx k2;obtain ⟨b,e2⟩:=box hy k2';obtain ⟨k,c1⟩:=ha k2 k2' a b e1 e2;have hv1:(x.ins.map Dg)[(0:Int).toNat]? = some (Ao a):=by rw [e1]; exact CY rfl
   have hv2:(y.ins.map Dg)[(0:Int).toNat]? = some (Ao b):=by rw [e2]; exact CY rfl
   have l1:((x.ins.map Dg).length:Int)=1:=by rw [e1]; rfl
   have l2:((y.ins.map Dg).length:Int)=1:=by rw [e2]; rfl
   refine ⟨k,?_⟩;clear ha;refine Aa Ed fun C hC => ?_;refine Aj ?_;exact Am
 ·have c1:=Z9 x.kind y.kind
  generalize SZ x.kind y.kind=k at c1;refine ⟨k,?_⟩;clear ha;refine Aa Ed fun C hC => ?_;refine Aj ?_;exact Am
theorem V1:∀ (d:Nat) (x y:Ah),Cz (Gb d) x→Cz (Gb d) y→Ae Tryz.prog 100 [.agg (Au x),.agg (Au y)] (nA (VZ x y))
 | 0,x,y,hx,hy=>AdH (V0 x y hx hy fun h1 h2 a b e1 e2=>by
   rcases hx.2 with h|h|⟨_,_,_,a',ea,ka⟩
   ·have:=h.1; omega
   ·have:=h.1; omega
   rcases hy.2 with h|h|⟨_,_,_,b',eb,kb⟩
   ·have:=h.1; omega
   ·have:=h.1; omega
   rw [e1] at ea; rw [e2] at eb;cases ea; cases eb;refine Afi a b ka.1 kb.1 fun x hx y hy=>AdH (V0 x y (ka.2 x hx) (kb.2 y hy) fun h1 h2 _ _ _ _ => ?_);rcases (ka.2 x hx).2 with h|h|⟨_,_,_,_,_,h⟩
   ·have:=h.1; omega
   ·have:=h.1; omega
   ·exact h.elim)
 | d+1,x,y,hx,hy=>AdH (V0 x y hx hy fun h1 h2 a b e1 e2=>by
   rcases hx.2 with h|h|⟨_,_,_,a',ea,ka⟩
   ·have:=h.1; omega
   ·have:=h.1; omega
   rcases hy.2 with h|h|⟨_,_,_,b',eb,kb⟩
   ·have:=h.1; omega
   ·have:=h.1; omega
   rw [e1] at ea; rw [e2] at eb;cases ea; cases eb;exact Afi a b ka.1 kb.1 fun x hx y hy=>V1 d x y (ka.2 x hx) (kb.2 y hy))
end Go.Proofs.YtjcolpcfcdkckaaGreat
