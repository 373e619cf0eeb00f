/- No label gets lower: the law. -/
import Derived.Test.YtjcolpcfcdkckaaGreatK50
set_option maxRecDepth 10000
set_option maxHeartbeats 4000000
namespace Go.Proofs.YtjcolpcfcdkckaaGreat
set_option linter.unusedVariables false
open Go.RowKit
def Fs (c:Ah):Bool:=decide (c.n.top.length≤2) && (decide (c.n.bot.length≤2) && !((Df c.n).2 && (decide ((Df c.n).1 > 300) || decide ((Df c.n).1 < -300))))
mutual
def Em:Al→Bool
 | .mk s sh cs=>decide (cs.length≤60) && Ts cs
def Ts:List Ah→Bool
 | []=>true
 | c::cs=>AjJ c && Ts cs
def AjJ:Ah→Bool
 | .mk l k n ch ins=>Fs (.mk l k n ch ins) && Tu ins
def Tu:List Al→Bool
 | []=>true
 | a::us=>Em a && Tu us
end
def HG (c:Ah):Bool:=Fs c && c.ins.all Em
def Aac (A:Al):Bool:=decide (A.cells.length≤60) && A.cells.all HG
theorem Sb:∀ us:List Al,Tu us=us.all Em
 | []=>rfl
 | a::us=>by rw [Tu,Sb us]; rfl
theorem Sc:∀ cs:List Ah,Ts cs=cs.all HG
 | []=>rfl
 | .mk l k n ch ins::cs=>by rw [Ts,AjJ,Sb,Sc cs]; rfl
theorem RO (A:Al):Em A=Aac A:=by cases A; rw [Em,Sc]; rfl
theorem AdK {α:Type} {l:List α} {j:Nat} {x:α} (p:α→Bool) (h:l[j]? = some x):(l.drop j).all p=(p x && (l.drop (j+1)).all p):=by
 obtain ⟨hj,rfl⟩:=List.getElem?_eq_some_iff.1 h;rw [List.drop_eq_getElem_cons hj]; rfl
theorem Acx (A:Al) (hl:A.cells.length≤2048) (hn:∀ c ∈ A.cells,FY c.n∧c.n.top.length≤32∧c.n.bot.length≤32∧c.ins.length≤1) (hin:∀ c ∈ A.cells,∀ a ∈ c.ins,Ae Tryz.prog 10 [.agg (Ao a)] (.lit (.bool (Em a)))) :
 Ae Tryz.prog 10 [.agg (Ao A)] (.lit (.bool (Aac A))):=by
 have hB:A2=1000000000:=rfl;have lA:=AK A;unfold Aac;by_cases h60:A.cells.length≤60
 ·rw [decide_eq_true h60,Bool.true_and]
  generalize hR:A.cells.all HG=R;refine Aa Fz fun C hC => ?_;refine Aj ?_;refine Ai [1,2] [0] (fun j:Nat=>[(3,nA j)]) (fun _=>[]) 1 (fun j=>j≤A.cells.length∧R=(A.cells.drop j).all HG) (fun j=>A.cells.length - j) 0 ⟨Nat.zero_le _,hR.symm⟩ ?_;rintro j ⟨hj,hE⟩;dsimp only [List.cons_append,List.nil_append] at hj hE ⊢;clear hR;by_cases hlt:j<A.cells.length
  ·obtain ⟨c,hc⟩:∃ c,A.cells[j]? = some c:=⟨_,List.getElem?_eq_getElem hlt⟩
   have hck:=A9 hc;rw [AdK HG hc] at hE;obtain ⟨n1,n2,n3,n4⟩:=hn c (List.mem_of_getElem? hc);have hi:=hin c (List.mem_of_getElem? hc);have c1:=Af7 c.n n1 (by omega);have lt:=Ac .u32 c.n.top;have lb:=Ac .u32 c.n.bot;have li:=E5 c;clear hn hin;have bad:Fs c=false→R=false:=fun h=>by rw [hE]; unfold HG; rw [h]; rfl
   by_cases t2:c.n.top.length > 2
   ·have hq:Fs c=false:=by unfold Fs; rw [decide_eq_false (by omega)]; rfl
    rw [bad hq];clear hE bad;refine Aj ?_;exact Am
   by_cases b2:c.n.bot.length > 2
   ·have hq:Fs c=false:=by unfold Fs; rw [decide_eq_true (by omega:c.n.top.length≤2),decide_eq_false (by omega)]; rfl
    rw [bad hq];clear hE bad;refine Aj ?_;exact Am
   have hq0:Fs c = !((Df c.n).2 && (decide ((Df c.n).1 > 300) || decide ((Df c.n).1 < -300))):=by
    unfold Fs; rw [decide_eq_true (by omega:c.n.top.length≤2),decide_eq_true (by omega:c.n.bot.length≤2)]; rfl
   generalize Df c.n=q at c1 hq0;obtain ⟨k,ok⟩:=q;dsimp only at c1 hq0;have good:Fs c=true→R=(c.ins.all Em && (A.cells.drop (j+1)).all HG):=fun h=>by rw [hE]; unfold HG; rw [h]; rfl
   have rest:R=(c.ins.all Em && (A.cells.drop (j+1)).all HG)→ok=false∨(k≤300 ∧ -300≤k)→True:=fun _ _=>trivial;clear rest;cases ok
   ·have hq:Fs c=true:=by rw [hq0]; rfl
    have hE:=good hq;clear good bad hq0;refine Aj ?_;refine Ai [1,2,3,4] [0,1] (fun i:Nat=>[(7,nA i)]) (fun _=>[]) 2 (fun i=>i≤c.ins.length∧R=((c.ins.drop i).all Em && (A.cells.drop (j+1)).all HG)) (fun i=>c.ins.length - i) 0 ⟨Nat.zero_le _,hE⟩ ?_;rintro i ⟨hi1,hE2⟩;dsimp only [List.cons_append,List.nil_append] at hi1 hE2 ⊢;clear hE c1;by_cases hil:i<c.ins.length
    ·obtain ⟨a,ha⟩:∃ a,c.ins[i]? = some a:=⟨_,List.getElem?_eq_getElem hil⟩
     have hak:=CY ha;have c2:=hi a (List.mem_of_getElem? ha);rw [AdK Em ha] at hE2;cases hb:Em a
     ·rw [hb] at c2 hE2
      simp only [Bool.false_and] at hE2;subst hE2;refine Aj ?_;exact Am
     ·rw [hb] at c2 hE2
      simp only [Bool.true_and] at hE2;refine Aj ?_;exact ⟨i+1,by omega,⟨by omega,hE2⟩,BI hC.m []⟩
    ·rw [List.drop_eq_nil_of_le (by omega)] at hE2
     simp only [List.all_nil,Bool.true_and] at hE2;clear hi;refine Aj ?_;exact ⟨j+1,by omega,⟨by omega,hE2⟩,BI hC.m []⟩
   ·by_cases k3:k > 300
    ·have hq:Fs c=false:=by rw [hq0,decide_eq_true k3]; rfl
     rw [bad hq];clear hE bad good;refine Aj ?_;exact Am
    by_cases k4:k < -300
    ·have hq:Fs c=false:=by rw [hq0,decide_eq_false k3,decide_eq_true k4]; rfl
     rw [bad hq];clear hE bad good;refine Aj ?_;exact Am
    have hq:Fs c=true:=by rw [hq0,decide_eq_false k3,decide_eq_false k4]; rfl
    have hE:=good hq;clear good bad hq0;refine Aj ?_;refine Ai [1,2,3,4] [0,1] (fun i:Nat=>[(7,nA i)]) (fun _=>[]) 2 (fun i=>i≤c.ins.length∧R=((c.ins.drop i).all Em && (A.cells.drop (j+1)).all HG)) (fun i=>c.ins.length - i) 0 ⟨Nat.zero_le _,hE⟩ ?_;rintro i ⟨hi1,hE2⟩;dsimp only [List.cons_append,List.nil_append] at hi1 hE2 ⊢;clear hE c1;by_cases hil:i<c.ins.length
    ·obtain ⟨a,ha⟩:∃ a,c.ins[i]? = some a:=⟨_,List.getElem?_eq_getElem hil⟩
     have hak:=CY ha;have c2:=hi a (List.mem_of_getElem? ha);rw [AdK Em ha] at hE2;cases hb:Em a
     ·rw [hb] at c2 hE2
      simp only [Bool.false_and] at hE2;subst hE2;refine Aj ?_;exact Am
     ·rw [hb] at c2 hE2
      simp only [Bool.true_and] at hE2;refine Aj ?_;exact ⟨i+1,by omega,⟨by omega,hE2⟩,BI hC.m []⟩
    ·rw [List.drop_eq_nil_of_le (by omega)] at hE2
     simp only [List.all_nil,Bool.true_and] at hE2;clear hi;refine Aj ?_;exact ⟨j+1,by omega,⟨by omega,hE2⟩,BI hC.m []⟩
  ·rw [List.drop_eq_nil_of_le (by omega)] at hE
   simp only [List.all_nil] at hE;subst hE;clear hn hin;refine Aj ?_;exact Am
 ·rw [decide_eq_false h60,Bool.false_and]
  refine Aa Fz fun C hC => ?_;refine Aj ?_;exact Am
theorem Cz.light {p:Al→Prop} {c:Ah} (h:Cz p c):FY c.n∧c.n.top.length≤32∧c.n.bot.length≤32∧c.ins.length≤1:=by
 have hl:=h.len;refine ⟨?_,hl⟩;rcases h.2 with ⟨_,_,_,q⟩|⟨_,q,_⟩|⟨_,q,_⟩
 ·exact q.ok
 ·rw [q]; exact AD.num (by intro z hz; simp [zN] at hz) (by intro z hz; simp [zN] at hz) (by simp [zN]) (by simp [zN])
 ·rw [q]; exact AD.num (by intro z hz; simp [zN] at hz) (by intro z hz; simp [zN] at hz) (by simp [zN]) (by simp [zN])
theorem Afp:∀ (d:Nat) (A:Al),Gb d A→Ae Tryz.prog 10 [.agg (Ao A)] (.lit (.bool (Em A)))
 | 0,A,h=>RO A ▸ Acx A h.1.cells (fun c hc=>(h.2 c hc).light) fun c hc a ha=>by
   rcases (h.2 c hc).2 with ⟨_,_,q,_⟩|⟨_,_,q,_⟩|⟨_,_,_,x,_,q⟩
   ·rw [q] at ha; simp at ha
   ·rw [q] at ha; simp at ha
   ·exact q.elim
 | d+1,A,h=>RO A ▸ Acx A h.1.cells (fun c hc=>(h.2 c hc).light) fun c hc a ha=>by
   rcases (h.2 c hc).2 with ⟨_,_,q,_⟩|⟨_,_,q,_⟩|⟨_,_,_,x,q,r⟩
   ·rw [q] at ha; simp at ha
   ·rw [q] at ha; simp at ha
   ·rw [q] at ha; simp at ha; subst ha; exact Afp d a r
def EY (A:Al):Bool:=PJ A && Em A
theorem Gw (A:Al) (hA:arrOK A):Ae Tryz.prog 4 [.agg (Ao A)] (.lit (.bool (EY A))):=by
 have c1:=Al0 A hA;unfold EY;cases h:PJ A
 ·rw [h] at c1
  rw [Bool.false_and];refine Aa Hm fun C hC => ?_;refine Aj ?_;exact Am
 ·rw [h] at c1
  rw [Bool.true_and];have c2:=Afp 8 A (Acf hA h);refine Aa Hm fun C hC => ?_;refine Aj ?_;exact Am
theorem EC {A:Al} (hA:arrOK A) (h:EY A=true):Gb 8 A:=by
 unfold EY at h;rw [Bool.and_eq_true] at h;exact Acf hA h.1
theorem Acy {A:Al} (h:EY A=true):A.cells.length≤60:=by
 unfold EY at h;rw [RO,Bool.and_eq_true] at h
 have:=h.2
 unfold Aac at this;rw [Bool.and_eq_true] at this;exact of_decide_eq_true this.1
theorem Gt {A:Al} (h:EY A=true):Cl 8 A=true:=by
 unfold EY at h;rw [Bool.and_eq_true] at h;exact UZ h.1
theorem Mg {z:Int} (h:z.natAbs<2 ^ 32):Cx z≤32:=by
 have:=Bh 32 z.natAbs h
 unfold Cx; omega
theorem V5 {z:Int} (h:z.natAbs<2 ^ 32):JY (HH z):=⟨z,1,P9 z,by omega,Mg h,by rw [BC]; simp⟩
theorem Acz (x y:Int) (hx:x.natAbs<2 ^ 32) (hy:y.natAbs<2 ^ 32):Ae Tryz.prog 171 [nA 43,.agg (AY (HH x)),.agg (AY (HH y))] (.tup [.agg (AY (Qr (x * (1:Nat)+y * (1:Nat)) ((1:Nat) * (1:Nat):Int)).1),nA (Qr (x * (1:Nat)+y * (1:Nat)) ((1:Nat) * (1:Nat):Int)).2]):=by
 have sx:=Mg hx;have sy:=Mg hy;have c1:=Adw x 1 y 1 (by omega) (by rw [BC]; simp) (by omega) (by rw [BC]; simp);rw [← P9,← P9] at c1;generalize Qr (x * (1:Nat)+y * (1:Nat)) ((1:Nat) * (1:Nat):Int)=R at *;refine Aa AP fun C hC => ?_;refine Aj ?_;exact Am
theorem Afq (z:Int) (h:z.natAbs<2 ^ 32):Qr z 1=(HH z,0):=by
 have h1:=Mg h;unfold Cx at h1;unfold Qr mkR;have e0:decide ((1:Int)<0)=false:=rfl;have e1:(1:Int).natAbs=1:=rfl;rw [e0,e1,Nat.gcd_one_right,Nat.div_one,Nat.div_one,if_neg (by omega),if_neg (by rw [BC]; simp; omega),P9];congr 1;congr 1;cases hz:decide (z<0)
 ·have:=of_decide_eq_false hz
  simp [sg]; omega
 ·have:=of_decide_eq_true hz
  simp [sg]; omega
theorem AjK:HB 43 (HH 1) (HH 3)=(HH 4,0):=by
 have hg:EO (HH 1)=(HH 4,0):=by unfold EO; rw [if_pos]; show limbs 1=[1]; rw [BC]
 have c:=Acz 1 3 (by decide) (by decide);rw [show ((1:Int) * (1:Nat)+3 * (1:Nat))=4 from rfl,show (((1:Nat):Int) * (1:Nat))=1 from rfl,Afq 4 (by decide)] at c;have hR:DH (HH 4):=.inr (V5 (by decide));rw [← hg] at c ⊢;exact R9 (by rw [hg]; exact hR) c
theorem AjL:HB 43 (HH 2) (HH 3)=(HH 5,0):=by
 have hg:EO (HH 2)=(HH 5,0):=by
  unfold EO; rw [if_neg]; show ¬ limbs 2=[1];intro e
  have:=congrArg AF e
  rw [Aq,← BC,Aq] at this;omega
 have c:=Acz 2 3 (by decide) (by decide);rw [show ((2:Int) * (1:Nat)+3 * (1:Nat))=5 from rfl,show (((1:Nat):Int) * (1:Nat))=1 from rfl,Afq 5 (by decide)] at c;have hR:DH (HH 5):=.inr (V5 (by decide));rw [← hg] at c ⊢;exact R9 (by rw [hg]; exact hR) c
def Oy (s:Nat) (x y:Int):Al:=.mk s [2] [BV x,BV y]
theorem Aad {p:Al→Prop} {z:Int} (h:z.natAbs<2 ^ 32):Cz p (BV z):=⟨by show (0:Nat)<_; omega,.inl ⟨rfl,rfl,rfl,V5 h⟩⟩
theorem AcA (s:Nat) (hs:s<18446744073709551616) {x y:Int} (hx:x.natAbs<2 ^ 32) (hy:y.natAbs<2 ^ 32):Gb 8 (Oy s x y) :=
 ⟨⟨hs,show (Co [2]).2=0 by decide,show (Co [2]).1=((2:Nat):Int) by decide⟩,fun c hc=>by
   simp only [Oy,Al.cells,List.mem_cons,List.not_mem_nil,or_false] at hc;rcases hc with rfl|rfl
   ·exact Aad hx
   ·exact Aad hy⟩
theorem Alf (s:Nat) (hs:s<18446744073709551616) {x:Int} (hx:x.natAbs<2 ^ 32):Gb 8 (.mk s [] [BV x]) :=
 ⟨⟨hs,show (Co []).2=0 by decide,show (Co []).1=((1:Nat):Int) by decide⟩,fun c hc=>by
   simp only [Al.cells,List.mem_cons,List.not_mem_nil,or_false] at hc;subst hc; exact Aad hx⟩
theorem Alg:J2 43 8 (Oy 2 1 2) (.mk 4 [] [BV 3])=(Oy 6 4 5,0):=by
 have e1:∀ two,EZ two 43 (BV 1) (BV 3)=(BV 4,0):=fun two=>by
  unfold EZ;rw [if_neg (by decide),if_pos (by decide)];show (Ah.mk (0 ||| 0) 0 (HB 43 (HH 1) (HH 3)).1 0 [],(HB 43 (HH 1) (HH 3)).2)=_;rw [AjK]; rfl
 have e2:∀ two,EZ two 43 (BV 2) (BV 3)=(BV 5,0):=fun two=>by
  unfold EZ;rw [if_neg (by decide),if_pos (by decide)];show (Ah.mk (0 ||| 0) 0 (HB 43 (HH 2) (HH 3)).1 0 [],(HB 43 (HH 2) (HH 3)).2)=_;rw [AjL]; rfl
 have hm:Kh 43 8 (Oy 2 1 2) (.mk 4 [] [BV 3])=VQ 43 8 (Oy 2 1 2) (.mk 4 [] [BV 3]):=by
  unfold Kh
  iterate 11 rw [if_neg (by decide)]
 have ht:J2 43 8 (Oy 2 1 2) (.mk 4 [] [BV 3])=Kh 43 8 (Oy 2 1 2) (.mk 4 [] [BV 3]):=by
  unfold J2
  iterate 11 rw [if_neg (by decide)]
 rw [ht,hm];show SY (VQ 43 7) 43 _ _=_;generalize VQ 43 7=two;have hc:IK (Oy 2 1 2) (.mk 4 [] [BV 3])=2:=rfl
 have l1:((List.range 2).map fun i=>(EZ two 43 (Db (Oy 2 1 2) i) (Db (.mk 4 [] [BV 3]) i)).2)=[0,0]:=by
  show [(EZ two 43 (BV 1) (BV 3)).2,(EZ two 43 (BV 2) (BV 3)).2]=_;rw [e1,e2]
 have l2:((List.range 2).map fun i=>(EZ two 43 (Db (Oy 2 1 2) i) (Db (.mk 4 [] [BV 3]) i)).1)=[BV 4,BV 5]:=by
  show [(EZ two 43 (BV 1) (BV 3)).1,(EZ two 43 (BV 2) (BV 3)).1]=_;rw [e1,e2]
 unfold SY;rw [hc,l1,l2,if_neg (by decide),if_neg (by decide),if_neg (by decide)];rfl
theorem AjM:Ae Tryz.prog 6 [] (.lit (.bool true)):=by
 have c1:Ae Tryz.prog 14 [.sl 1 [[.lit (.int .i64 1)],[.lit (.int .i64 2)]],CG 2] (.agg (Ao (Oy 2 1 2))):=R4 [1,2] 2 (by simp [A2]) (by intro z hz; simp at hz; omega);have c2:=Aku 3 4 (by omega) (by omega);have tV:=AcA 2 (by omega) (x:=1) (y:=2) (by decide) (by decide);have tO:=Alf 4 (by omega) (x:=3) (by decide);have c3:=Ox 43 (d:=8) _ _ tV tO;rw [Alg] at c3;have o6:=(AcA 6 (by omega) (x:=4) (y:=5) (by decide) (by decide)).arrOK;have c5:=AhD _ _ o6 o6;rw [AcM] at c5;dsimp only at c3;clear tV tO o6;generalize hX:Oy 2 1 2=X at *;generalize hY:Al.mk 4 [] [BV 3]=Y at *;clear hX hY;have k1:True→_:=fun _=>c1;clear c1;refine Aa NU fun C hC => ?_;refine Aj ?_;refine Ys 0 [0] (k1 trivial) ?_;refine A5 ?_;refine Ak ⟨rfl,?_⟩;clear c2 c3 k1;have c4:Ae Tryz.prog 14 [.sl 1 [[.lit (.int .i64 4)],[.lit (.int .i64 5)]],CG 6] (.agg (Ao (Oy 6 4 5))):=R4 [4,5] 6 (by simp [A2]) (by intro z hz; simp at hz; omega);generalize Oy 6 4 5=Z at *;refine Aj ?_;exact Am
end Go.Proofs.YtjcolpcfcdkckaaGreat
