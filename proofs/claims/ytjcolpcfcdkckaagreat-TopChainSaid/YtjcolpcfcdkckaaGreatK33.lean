/- The scalar functions of two numbers: there is a definite result (numbers bear no labels). -/
import Derived.Test.YtjcolpcfcdkckaaGreatK32
set_option maxRecDepth 10000
set_option maxHeartbeats 4000000
namespace Go.Proofs.YtjcolpcfcdkckaaGreat
set_option linter.unusedVariables false
open Go.RowKit
def Amq (b:Bool):Fx:=HH (if b then 1 else 0)
theorem P9 (z:Int):HH z=qN z 1:=by rw [qN,BC]; exact rfl
theorem FO (b:Bool):DH (Amq b):=by
 refine .inr ⟨if b then 1 else 0,1,P9 _,by omega,?_,by rw [BC]; simp⟩;cases b
 ·rw [if_neg (by decide),LF]; omega
 ·rw [if_pos rfl]; exact L8
theorem DH.len {r:Fx} (h:DH r):r.top.length≤32∧r.bot.length≤32:=by
 rcases h with rfl|⟨z,q,rfl,_,h1,h2⟩
 ·exact ⟨Nat.zero_le _,Nat.zero_le _⟩
 ·exact ⟨h1,h2⟩
theorem FP (b:Bool):Ae Tryz.prog 172 [.lit (.bool b)] (.agg (AY (Amq b))):=by
 cases b
 ·have c1:=LA 0 (by omega) (by omega)
  refine Aa H7 fun C hC => ?_;refine Aj ?_;exact Am
 ·have c1:=LA 1 (by omega) (by omega)
  refine Aa H7 fun C hC => ?_;refine Aj ?_;exact Am
theorem AD.num {n:Fx} (h1:AD n.top) (h2:AD n.bot) (l1:n.top.length≤100000) (l2:n.bot.length≤100000):FY n:=by
 have e1:IntKind.u32.min=0:=by decide
 have e2:IntKind.u32.max=4294967295:=by decide
 have key:∀ z:Int,0≤z∧z<4294967296→(Lit.int .u32 z).wf=true:=fun z hz=>by
  have h':IntKind.u32.min≤z∧z≤IntKind.u32.max:=by omega
  simpa [Lit.wf] using h'
 exact ⟨fun z hz=>key z (h1 z hz),fun z hz=>key z (h2 z hz),Nat.le_trans l1 (by decide),Nat.le_trans l2 (by decide)⟩
theorem AiL (y:Int) (b:Nat) (ly:Cx y≤32) (lb:(limbs b).length≤32):FY (qN y b) :=
 AD.num (Ar _) (Ar _) (Nat.le_trans ly (by omega)) (Nat.le_trans lb (by omega))
theorem VG (y:Int) (b:Nat) (ly:Cx y≤32) (lb:(limbs b).length≤32):∃ (k:Int) (ok:Bool),(-9223372036854775808≤k∧k≤9223372036854775807)∧Ae Tryz.prog 111 [.agg (AY (qN y b))] (.tup [nA k,.lit (.bool ok)]):=by
 refine ⟨_,_,?_,Va (qN y b) (AiL y b ly lb) (show Cx y≤1000000000 by omega)⟩;unfold Df;split
 ·exact PB _ _
 ·simp
theorem AkR (f:Int) (x:Int) (a:Nat) (y:Int) (b:Nat) (lx:Cx x≤20000) (la:(limbs a).length≤20000) (ly:Cx y≤20000) (lb:(limbs b).length≤20000) :
 ∃ r e,DH r∧Ae Tryz.prog 214 [nA f,.agg (AY (qN x a)),.agg (AY (qN y b))] (.tup [.agg (AY r),nA e]):=by
 have c1:=ZO x a y b lx la ly lb;generalize PV (x * b) (y * a)=k at c1;by_cases h60:f=60
 ·subst h60
  by_cases hk:k<0
  ·have c2:=FP true
   refine ⟨_,0,FO true,?_⟩;refine Aa AT fun C hC => ?_;refine Aj ?_;exact Am
  ·have c2:=FP false
   refine ⟨_,0,FO false,?_⟩;refine Aa AT fun C hC => ?_;refine Aj ?_;exact Am
 by_cases h8804:f=8804
 ·subst h8804
  by_cases hk:k≤0
  ·have c2:=FP true
   refine ⟨_,0,FO true,?_⟩;refine Aa AT fun C hC => ?_;refine Aj ?_;exact Am
  ·have c2:=FP false
   refine ⟨_,0,FO false,?_⟩;refine Aa AT fun C hC => ?_;refine Aj ?_;exact Am
 by_cases h61:f=61
 ·subst h61
  by_cases hk:k=0
  ·have c2:=FP true
   refine ⟨_,0,FO true,?_⟩;refine Aa AT fun C hC => ?_;refine Aj ?_;exact Am
  ·have c2:=FP false
   refine ⟨_,0,FO false,?_⟩;refine Aa AT fun C hC => ?_;refine Aj ?_;exact Am
 by_cases h8805:f=8805
 ·subst h8805
  by_cases hk:0≤k
  ·have c2:=FP true
   refine ⟨_,0,FO true,?_⟩;refine Aa AT fun C hC => ?_;refine Aj ?_;exact Am
  ·have c2:=FP false
   refine ⟨_,0,FO false,?_⟩;refine Aa AT fun C hC => ?_;refine Aj ?_;exact Am
 by_cases h62:f=62
 ·subst h62
  by_cases hk:0<k
  ·have c2:=FP true
   refine ⟨_,0,FO true,?_⟩;refine Aa AT fun C hC => ?_;refine Aj ?_;exact Am
  ·have c2:=FP false
   refine ⟨_,0,FO false,?_⟩;refine Aa AT fun C hC => ?_;refine Aj ?_;exact Am
 by_cases h8800:f=8800
 ·subst h8800
  by_cases hk:k≠0
  ·have c2:=FP true
   refine ⟨_,0,FO true,?_⟩;refine Aa AT fun C hC => ?_;refine Aj ?_;exact Am
  ·have c2:=FP false
   refine ⟨_,0,FO false,?_⟩;refine Aa AT fun C hC => ?_;refine Aj ?_;exact Am
 refine ⟨zN,8,.inl rfl,?_⟩;have zn:AY zN=[.lit (.bool false),.sl 1 [],.sl 1 []]:=rfl;refine Aa AT fun C hC => ?_;refine Aj ?_;exact Am
theorem VH (n:Fx) (h1:n.top.length≤A2) (h2:n.bot.length≤A2):Ae Tryz.prog 185 [.agg (AY n)] (.agg (Au (.mk 0 0 n 0 []))):=by
 have c1:=Ahp (.mk 0 0 n 0 []) h1 h2 (Nat.zero_le _);refine Aa UH fun C hC => ?_;refine Aj ?_;exact Am
theorem AkS (f:Int) (x:Int) (a:Nat) (y:Int) (b:Nat) (ha:a≠0) (hb:b≠0) (lx:Cx x≤32) (la:(limbs a).length≤32) (ly:Cx y≤32) (lb:(limbs b).length≤32) :
 ∃ r e,DH r∧Ae Tryz.prog 171 [nA f,.agg (AY (qN x a)),.agg (AY (qN y b))] (.tup [.agg (AY r),nA e]):=by
 have zn:AY zN=[.lit (.bool false),.sl 1 [],.sl 1 []]:=rfl;have hB:A2=1000000000:=rfl;by_cases h43:f=43
 ·subst h43
  have c1:=Adw x a y b (by omega) (by omega) (by omega) (by omega);refine ⟨_,(Qr (x * b+y * a) (a * b:Int)).2,P7 (x * b+y * a) (a * b:Int),?_⟩;refine Aa AP fun C hC => ?_;refine Aj ?_;exact Am
 by_cases h45:f=45
 ·subst h45
  have c1:=AiG x a y b (by omega) (by omega) (by omega) (by omega);refine ⟨_,(Qr (x * b+(-y) * a) (a * b:Int)).2,P7 (x * b+(-y) * a) (a * b:Int),?_⟩;refine Aa AP fun C hC => ?_;refine Aj ?_;exact Am
 by_cases h215:f=215
 ·subst h215
  have c1:=Adx x a y b (by omega) (by omega) (by omega) (by omega);refine ⟨_,(Qr (x * y) (a * b:Int)).2,P7 (x * y) (a * b:Int),?_⟩;refine Aa AP fun C hC => ?_;refine Aj ?_;exact Am
 by_cases h247:f=247
 ·subst h247
  have c1:=ZN x a y b (by omega) (by omega) (by omega) (by omega);refine ⟨_,(Qr (x * b) (a * y:Int)).2,P7 (x * b) (a * y:Int),?_⟩;refine Aa AP fun C hC => ?_;refine Aj ?_;exact Am
 by_cases h8968:f=8968
 ·subst h8968
  have c1:=ZO x a y b (by omega) (by omega) (by omega) (by omega);have R1:DH (qN x a):=.inr ⟨x,a,rfl,ha,lx,la⟩;have R2:DH (qN y b):=.inr ⟨y,b,rfl,hb,ly,lb⟩;have c2:=VH (qN x a) (by have:=R1.len; omega) (by have:=R1.len; omega);have c3:=VH (qN y b) (by have:=R2.len; omega) (by have:=R2.len; omega);have d1:decide ((8968:Int)=8968)=true:=rfl;generalize PV (x * b) (y * a)=k at c1;by_cases hk:k<0
  ·have d2:decide (k<0)=true:=decide_eq_true hk
   refine ⟨_,0,R2,?_⟩;refine Aa AP fun C hC => ?_;refine Aj ?_;exact Am
  ·have d2:decide (k<0)=false:=decide_eq_false hk
   refine ⟨_,0,R1,?_⟩;refine Aa AP fun C hC => ?_;refine Aj ?_;exact Am
 by_cases h8970:f=8970
 ·subst h8970
  have c1:=ZO x a y b (by omega) (by omega) (by omega) (by omega);have R1:DH (qN x a):=.inr ⟨x,a,rfl,ha,lx,la⟩;have R2:DH (qN y b):=.inr ⟨y,b,rfl,hb,ly,lb⟩;have c2:=VH (qN x a) (by have:=R1.len; omega) (by have:=R1.len; omega);have c3:=VH (qN y b) (by have:=R2.len; omega) (by have:=R2.len; omega);have d1:decide ((8970:Int)=8968)=false:=rfl;generalize PV (x * b) (y * a)=k at c1;by_cases hk:k<0
  ·have d2:decide (k<0)=true:=decide_eq_true hk
   refine ⟨_,0,R1,?_⟩;refine Aa AP fun C hC => ?_;refine Aj ?_;exact Am
  ·have d2:decide (k<0)=false:=decide_eq_false hk
   refine ⟨_,0,R2,?_⟩;refine Aa AP fun C hC => ?_;refine Aj ?_;exact Am
 by_cases h124:f=124
 ·subst h124
  obtain ⟨r,e,hR,c1⟩:=Amn x a y b ha hb lx la ly lb;refine ⟨r,e,hR,?_⟩;refine Aa AP fun C hC => ?_;refine Aj ?_;exact Am
 by_cases h42:f=42
 ·subst h42
  obtain ⟨k,ok,hk,c1⟩:∃ (k:Int) (ok:Bool),(-9223372036854775808≤k∧k≤9223372036854775807)∧Ae Tryz.prog 111 [.agg (AY (qN y b))] (.tup [nA k,.lit (.bool ok)]):=VG y b (by omega) (by omega);cases ok
  ·refine ⟨zN,8,.inl rfl,?_⟩
   refine Aa AP fun C hC => ?_;refine Aj ?_;exact Am
  ·obtain ⟨r,e,hR,c2⟩:=Amp x a k hk.1 hk.2 lx la
   refine ⟨r,e,hR,?_⟩;refine Aa AP fun C hC => ?_;refine Aj ?_;exact Am
 by_cases h8743:f=8743
 ·subst h8743
  obtain ⟨r,e,hR,c1⟩:=Amo x a y b ha hb lx la ly lb;refine ⟨r,e,hR,?_⟩;refine Aa AP fun C hC => ?_;refine Aj ?_;exact Am
 by_cases h8744:f=8744
 ·subst h8744
  have c1:=AiH x a y b lx ly
  have hG:Cx (Nat.gcd x.natAbs y.natAbs:Nat)≤32:=by
   by_cases h:x.natAbs=0
   ·rw [h,Nat.gcd_zero_left]; exact ly
   ·exact Nat.le_trans (Bj (Nat.gcd_le_left _ (Nat.pos_of_ne_zero h))) lx
  have hR:DH (if a=1∧b=1 then qN (Nat.gcd x.natAbs y.natAbs) 1 else zN):=by
   split
   ·exact .inr ⟨_,1,rfl,by omega,hG,by rw [BC]; simp⟩
   ·exact .inl rfl
  refine ⟨_,(if a=1∧b=1 then 0 else 3),hR,?_⟩;refine Aa AP fun C hC => ?_;refine Aj ?_;exact Am
 obtain ⟨r,e,hR,c1⟩:=AkR f x a y b (by omega) (by omega) (by omega) (by omega);refine ⟨r,e,hR,?_⟩;refine Aa AP fun C hC => ?_;refine Aj ?_;exact Am
def JY (n:Fx):Prop:=∃ (z:Int) (q:Nat),n=qN z q∧q≠0∧Cx z≤32∧(limbs q).length≤32
theorem JY.len {n:Fx} (h:JY n):n.top.length≤32∧n.bot.length≤32:=by
 obtain ⟨z,q,rfl,_,h1,h2⟩:=h; exact ⟨h1,h2⟩
def EO (m:Fx):Fx × Int:=if m.top=[1] then (HH 4,0) else (HH 5,0)
open Classical in
noncomputable def HB (f:Int) (m n:Fx):Fx × Int :=
 if DH (EO m).1∧Ae Tryz.prog 171 [nA f,.agg (AY m),.agg (AY n)] (.tup [.agg (AY (EO m).1),nA (EO m).2]) then EO m
 else if h:∃ re:Fx × Int,DH re.1∧Ae Tryz.prog 171 [nA f,.agg (AY m),.agg (AY n)] (.tup [.agg (AY re.1),nA re.2]) then Classical.choose h else (zN,0)
theorem R9 {f:Int} {m n:Fx} (h:DH (EO m).1) (g:Ae Tryz.prog 171 [nA f,.agg (AY m),.agg (AY n)] (.tup [.agg (AY (EO m).1),nA (EO m).2])):HB f m n=EO m:=by
 unfold HB;rw [if_pos ⟨h,g⟩]
theorem AeS (f:Int) {m n:Fx} (hm:JY m) (hn:JY n):DH (HB f m n).1∧Ae Tryz.prog 171 [nA f,.agg (AY m),.agg (AY n)] (.tup [.agg (AY (HB f m n).1),nA (HB f m n).2]):=by
 obtain ⟨x,a,rfl,ha,lx,la⟩:=hm;obtain ⟨y,b,rfl,hb,ly,lb⟩:=hn;obtain ⟨r,e,hR,hc⟩:=AkS f x a y b ha hb lx la ly lb;have h:∃ re:Fx × Int,DH re.1∧Ae Tryz.prog 171 [nA f,.agg (AY (qN x a)),.agg (AY (qN y b))] (.tup [.agg (AY re.1),nA re.2]):=⟨(r,e),hR,hc⟩;unfold HB;by_cases hg:DH (EO (qN x a)).1∧Ae Tryz.prog 171 [nA f,.agg (AY (qN x a)),.agg (AY (qN y b))] (.tup [.agg (AY (EO (qN x a)).1),nA (EO (qN x a)).2])
 ·rw [if_pos hg]
  exact hg
 ·rw [if_neg hg,dif_pos h]
  exact Classical.choose_spec h
def Cz (okd:Al→Prop) (c:Ah):Prop :=
 c.l<18446744073709551616∧((c.kind=0∧c.c=0∧c.ins=[]∧JY c.n)∨(c.kind=1∧c.n=zN∧c.ins=[]∧(Lit.int .i64 c.c).wf=true)∨(c.kind=2∧c.n=zN∧c.c=0∧∃ a,c.ins=[a]∧okd a))
def EA (A:Al):Prop:=A.s<18446744073709551616∧(Co A.shape).2=0∧(Co A.shape).1=A.cells.length
def Gb:Nat→Al→Prop
 | 0,A=>EA A∧∀ c ∈ A.cells,Cz (fun _=>False) c
 | d+1,A=>EA A∧∀ c ∈ A.cells,Cz (Gb d) c
theorem Cz.mono {p q:Al→Prop} (h:∀ a,p a→q a) {c:Ah} (hc:Cz p c):Cz q c:=by
 refine ⟨hc.1,?_⟩;rcases hc.2 with h1|h1|⟨h1,h2,h3,a,h4,h5⟩
 ·exact .inl h1
 ·exact .inr (.inl h1)
 ·exact .inr (.inr ⟨h1,h2,h3,a,h4,h a h5⟩)
theorem Gb.base {d:Nat} {A:Al} (h:Gb d A):EA A:=by cases d<;>exact h.1
theorem Gb.succ:∀ {d:Nat} {A:Al},Gb d A→Gb (d+1) A
 | 0,A,h=>⟨h.1,fun c hc=>(h.2 c hc).mono (fun _ h=>h.elim)⟩
 | d+1,A,h=>⟨h.1,fun c hc=>(h.2 c hc).mono (fun _ h=>h.succ)⟩
theorem Gb.cell {d:Nat} {A:Al} (h:Gb d A) {c:Ah} (hc:c ∈ A.cells):Cz (Gb d) c:=by
 cases d with
 | zero=>exact (h.2 c hc).mono (fun _ h=>h.elim)
 | succ d=>exact (h.2 c hc).mono (fun _ h=>h.succ)
theorem Cz.len {p:Al→Prop} {c:Ah} (h:Cz p c):c.n.top.length≤32∧c.n.bot.length≤32∧c.ins.length≤1:=by
 rcases h.2 with ⟨_,_,h1,h2⟩|⟨_,h1,h2,_⟩|⟨_,h1,_,a,h2,_⟩
 ·rw [h1]; exact ⟨h2.len.1,h2.len.2,by simp⟩
 ·rw [h1,h2]; exact ⟨by simp [zN],by simp [zN],by simp⟩
 ·rw [h1,h2]; exact ⟨by simp [zN],by simp [zN],by simp⟩
theorem EA.len {A:Al} (h:EA A):A.shape.length≤6:=CF h.2.1
theorem EA.cells {A:Al} (h:EA A):A.cells.length≤2048:=by have:=(E6 A.shape).2; have:=h.2.2; omega
theorem JZ:Co []=(1,0):=rfl
theorem EA.one {A:Al} (h:EA A) (hs:A.shape=[]):A.cells.length=1:=by
 have:=h.2.2; rw [hs] at this; exact (Int.ofNat.inj this).symm
def zA:Al:=.mk 0 [] []
def LG (s t:List Int):List Int × Int :=
 if s.length=0 then (t,0) else if t.length=0 then (s,0) else if s.length≠t.length then ([],5) else if B5 s t=false then ([],4) else (s,0)
theorem Amr (A B:Al) (hA:A.shape.length≤1000) (hB:B.shape.length≤1000):Ae Tryz.prog 139 [.agg (Ao A),.agg (Ao B)] (.tup [.sl 1 (Ab .i64 (LG A.shape B.shape).1),nA (LG A.shape B.shape).2]):=by
 obtain ⟨s,sh,cs⟩:=A;obtain ⟨s',sh',cs'⟩:=B;dsimp only [Al.shape] at hA hB ⊢;have l1:=Ac .i64 sh;have l2:=Ac .i64 sh';have c1:=CN (Ab .i64 sh) (by omega);have c2:=CN (Ab .i64 sh') (by omega);have c3:=NM sh sh';refine Aa MV fun C hC => ?_;unfold LG;by_cases h1:sh.length=0
 ·rw [if_pos h1]
  refine Aj ?_;exact Am
 rw [if_neg h1];by_cases h2:sh'.length=0
 ·rw [if_pos h2]
  refine Aj ?_;exact Am
 rw [if_neg h2];by_cases h3:sh.length=sh'.length
 ·rw [if_neg (fun h=>h h3)]
  cases h4:B5 sh sh'<;>rw [h4] at c3
  ·rw [if_pos rfl]
   refine Aj ?_;exact Am
  ·rw [if_neg (by decide)]
   refine Aj ?_;exact Am
 ·rw [if_pos h3]
  refine Aj ?_;exact Am
def Db (A:Al) (i:Nat):Ah:=A.cells.getD (if A.shape.length=0 then 0 else i) (.mk 0 0 zN 0 [])
theorem AiM (A:Al) (i:Nat) (c:Ah) (hi:i≤100000) (hl:A.cells.length≤100000) (h:A.cells[if A.shape.length=0 then 0 else i]? = some c):Ae Tryz.prog 141 [.agg (Ao A),nA i] (.agg (Au c)):=by
 have l1:=Ac .i64 A.shape;have l2:=AK A;refine Aa Rr fun C hC => ?_;by_cases h1:A.shape.length=0
 ·rw [if_pos h1] at h
  have hk:=(List.getElem?_eq_some_iff.1 h).1;have hcv:(A.cells.map Av)[(0:Int).toNat]? = some (Au c):=A9 h;refine Aj ?_;exact Am
 ·rw [if_neg h1] at h
  have hk:=(List.getElem?_eq_some_iff.1 h).1;have hcv:(A.cells.map Av)[((i:Nat):Int).toNat]? = some (Au c):=A9 h;refine Aj ?_;exact Am
def CD (c:Ah):Al:=if c.kind=2 then c.ins.headD zA else .mk 0 [] [.mk 0 c.kind c.n c.c c.ins]
theorem AbZ (c:Ah) (a:Al) (h:c.ins=[a]):Ae Tryz.prog 152 [.agg (Au c)] (.agg (Ao a)):=by
 have hv:(c.ins.map Dg)[(0:Int).toNat]? = some (Ao a):=by rw [h]; exact CY rfl
 have l1:((c.ins.map Dg).length:Int)=1:=by rw [h]; rfl
 refine Aa Og fun C hC => ?_;refine Aj ?_;exact Am
theorem AiN {p:Al→Prop} (c:Ah) (hc:Cz p c):Ae Tryz.prog 170 [.agg (Au c)] (.agg (Ao (CD c))):=by
 have hB:A2=1000000000:=rfl;obtain ⟨g1,g2,g3⟩:=hc.len;by_cases hk:c.kind=2
 ·rcases hc.2 with ⟨h1,_⟩|⟨h1,_⟩|⟨_,_,_,a,h4,_⟩
  ·omega
  ·omega
  have c1:=AbZ c a h4;rw [CD,if_pos hk,h4];obtain ⟨l,k,n,ch,ins⟩:=c;dsimp only [Ah.kind] at hk;refine Aa GD fun C hC => ?_;refine Aj ?_;exact Am
 ·rw [CD,if_neg hk]
  obtain ⟨l,k,n,ch,ins⟩:=c;dsimp only [Ah.kind,Ah.n,Ah.c,Ah.ins] at hk g1 g2 g3 ⊢;have c1:=Li (.mk 0 k n ch ins) (by dsimp only [Ah.n]; omega) (by dsimp only [Ah.n]; omega) (by dsimp only [Ah.ins]; omega);rw [show Au (.mk 0 k n ch ins)=[.lit (.int .u64 0),.lit (.int .i64 k),.lit (.bool n.neg),.sl 1 (Ab .u32 n.top),.sl 1 (Ab .u32 n.bot),.lit (.int .i64 ch),.sl 3 (ins.map Dg)] from rfl] at c1;refine Aa GD fun C hC => ?_;rw [show Au (.mk l k n ch ins)=[.lit (.int .u64 l),.lit (.int .i64 k),.lit (.bool n.neg),.sl 1 (Ab .u32 n.top),.sl 1 (Ab .u32 n.bot),.lit (.int .i64 ch),.sl 3 (ins.map Dg)] from rfl];refine Aj ?_;exact Am
theorem Ji {d:Nat} {c:Ah} (hc:Cz (Gb d) c):Gb d (CD c):=by
 unfold CD;rcases hc.2 with h|h|⟨h1,h2,h3,a,h4,h5⟩
 ·rw [if_neg (by omega)]
  cases d<;>exact ⟨⟨show (0:Nat)<18446744073709551616 by decide,rfl,rfl⟩,fun x hx=>by obtain rfl:=List.mem_singleton.1 hx; exact ⟨show (0:Nat)<18446744073709551616 by decide,.inl h⟩⟩
 ·rw [if_neg (by omega)]
  cases d<;>exact ⟨⟨show (0:Nat)<18446744073709551616 by decide,rfl,rfl⟩,fun x hx=>by obtain rfl:=List.mem_singleton.1 hx; exact ⟨show (0:Nat)<18446744073709551616 by decide,.inr (.inl h)⟩⟩
 ·rw [if_pos h1,h4]; exact h5
theorem wf_i64 {z:Int} (h0 : -9223372036854775808≤z) (h1:z≤9223372036854775807):(Lit.int .i64 z).wf=true:=by
 have e1:IntKind.i64.min = -9223372036854775808:=by decide
 have e2:IntKind.i64.max=9223372036854775807:=by decide
 have h':IntKind.i64.min≤z∧z≤IntKind.i64.max:=by omega
 simpa [Lit.wf] using h'
theorem JY.ok {n:Fx} (h:JY n):FY n:=by obtain ⟨z,q,rfl,_,h1,h2⟩:=h; exact AiL z q h1 h2
theorem EA.j {A:Al} (h:EA A) (ha:okA A):CI A:=⟨ha,h.2.1,h.2.2⟩
theorem Cz.okC {p:Al→Prop} (hp:∀ a,p a→okA a) {c:Ah} (h:Cz p c):okC c:=by
 have hB:A2=1000000000:=rfl;obtain ⟨g1,g2,g3⟩:=h.len;obtain ⟨l,k,n,ch,ins⟩:=c;refine ⟨h.1,by dsimp only [Ah.n] at g1; omega,by dsimp only [Ah.n] at g2; omega,by dsimp only [Ah.ins] at g3; omega,?_⟩;rcases h.2 with ⟨_,_,h1,_⟩|⟨_,_,h1,_⟩|⟨_,_,_,a,h1,h2⟩<;>dsimp only [Ah.ins] at h1<;>subst h1
 ·trivial
 ·trivial
 ·exact ⟨hp a h2,trivial⟩
theorem Cz.cellOK {p:Al→Prop} (hp:∀ a,p a→arrOK a) {c:Ah} (h:Cz p c):cellOK c:=by
 have hz:FY zN:=⟨by simp [zN],by simp [zN],by simp [zN],by simp [zN]⟩;obtain ⟨l,k,n,ch,ins⟩:=c;rcases h.2 with ⟨h0,h1,h2,h3⟩|⟨h0,h1,h2,h3⟩|⟨h0,h1,h3,a,h2,h4⟩<;>dsimp only [Ah.kind,Ah.c,Ah.ins,Ah.n] at h0 h1 h2 h3<;>subst h0<;>subst h1<;>subst h2
 ·exact ⟨h.1,by decide,h3.ok,by decide,Nat.zero_le _,trivial⟩
 ·exact ⟨h.1,by decide,hz,h3,Nat.zero_le _,trivial⟩
 ·subst h3; exact ⟨h.1,by decide,hz,by decide,by simp [reachBytes],hp a h4,trivial⟩
theorem EA.okA {A:Al} (h:EA A) (hc:∀ c ∈ A.cells,okC c):okA A:=by
 have hB:A2=1000000000:=rfl;have h1:=h.len;have h2:=h.cells;obtain ⟨s,sh,cs⟩:=A;exact ⟨h.1,by dsimp only [Al.shape] at h1; omega,by dsimp only [Al.cells] at h2; omega,Es.2 hc⟩
theorem EA.arrOK {A:Al} (h:EA A) (hc:∀ c ∈ A.cells,cellOK c):arrOK A:=by
 have h1:=h.len;have h2:=h.cells;have h3:=BG h.2.1;obtain ⟨s,sh,cs⟩:=A;refine ⟨h.1,fun z hz => ?_,Nat.le_trans h1 (by decide),Nat.le_trans h2 (by decide),Bw.2 hc⟩
 have:=h3 z hz
 exact wf_i64 (by omega) (by omega)
theorem Gb.okA:∀ {d:Nat} {A:Al},Gb d A→okA A
 | 0,A,h=>h.1.okA fun c hc=>(h.2 c hc).okC (fun _ h=>h.elim)
 | d+1,A,h=>h.1.okA fun c hc=>(h.2 c hc).okC (fun _ h=>h.okA)
theorem Gb.arrOK:∀ {d:Nat} {A:Al},Gb d A→arrOK A
 | 0,A,h=>h.1.arrOK fun c hc=>(h.2 c hc).cellOK (fun _ h=>h.elim)
 | d+1,A,h=>h.1.arrOK fun c hc=>(h.2 c hc).cellOK (fun _ h=>h.arrOK)
theorem Gb.j {d:Nat} {A:Al} (h:Gb d A):CI A:=h.base.j h.okA
end Go.Proofs.YtjcolpcfcdkckaaGreat
