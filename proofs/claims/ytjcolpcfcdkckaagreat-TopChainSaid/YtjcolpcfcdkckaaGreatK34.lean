/- Functions of arrays: fill, unpack, raise; match, reshape, what is in a box. -/
import Derived.Test.YtjcolpcfcdkckaaGreatK33
set_option maxRecDepth 10000
set_option maxHeartbeats 4000000
namespace Go.Proofs.YtjcolpcfcdkckaaGreat
set_option linter.unusedVariables false
open Go.RowKit
def FQ (A:Al) (l:Nat):Al:=.mk (A.s ||| l) A.shape A.cells
theorem Gu (A:Al) (l:Nat) (hs:A.s<18446744073709551616) (hl:l<18446744073709551616):Ae Tryz.prog 58 [.agg (Ao A),CG l] (.agg (Ao (FQ A l))):=by
 have c1:=FF A.s l hs hl;refine Aa IV fun C hC => ?_;refine Af ?_;exact Am
def Anq (z:Int):Ah:=.mk 0 1 zN z []
theorem Anh (z:Int):Ae Tryz.prog 117 [nA z] (.agg (Au (Anq z))):=by
 have zn:zN.top=[]∧zN.bot=[]∧zN.neg=false:=⟨rfl,rfl,rfl⟩;refine Aa UD fun C hC => ?_;refine Aj ?_;exact Am
def Gc (A:Al):Ah:=match A.cells with|[]=>BV 0|c::_=>if c.kind=1 then .mk c.l 1 zN 32 [] else .mk c.l 0 (HH 0) 0 []
theorem AiO {A:Al} (h:A.cells=[]):Gc A=BV 0:=by unfold Gc; rw [h]
theorem Agm {A:Al} {c:Ah} {cs:List Ah} (h:A.cells=c::cs):Gc A=if c.kind=1 then .mk c.l 1 zN 32 [] else .mk c.l 0 (HH 0) 0 []:=by unfold Gc; rw [h]
theorem ZP (A:Al):Ae Tryz.prog 50 [.agg (Ao A)] (.agg (Au (Gc A))):=by
 have c1:=DJ 0 (by omega) (by omega);have c2:=Anh 32;cases h:A.cells with
 | nil =>
   have hl:((A.cells.map Av).length:Int)=0:=by rw [h]; rfl
   rw [AiO h];refine Aa J9 fun C hC => ?_;refine Aj ?_;exact Am
 | cons c cs =>
   have hv:(A.cells.map Av)[(0:Int).toNat]? = some (Au c):=by rw [h]; exact A9 rfl
   have hl:0<((A.cells.map Av).length:Int):=by rw [h,List.length_map,List.length_cons]; omega
   rw [Agm h];refine Aa J9 fun C hC => ?_;by_cases hk:c.kind=1
   ·rw [if_pos hk]
    refine Aj ?_;exact Am
   ·rw [if_neg hk]
    refine Aj ?_;exact Am
def HC (c:Ah):Al:=if c.kind=2∧c.ins.length=1 then FQ (c.ins.headD zA) c.l else .mk (0 ||| c.l) [] [c]
theorem VI {d:Nat} (c:Ah) (hc:Cz (Gb d) c):Ae Tryz.prog 72 [.agg (Au c)] (.agg (Ao (HC c))):=by
 have hB:A2=1000000000:=rfl;obtain ⟨g1,g2,g3⟩:=hc.len;have hll:=hc.1;by_cases hk:c.kind=2
 ·rcases hc.2 with ⟨h1,_⟩|⟨h1,_⟩|⟨_,_,_,a,h4,h5⟩
  ·omega
  ·omega
  have c1:=Gu a c.l h5.base.1 hll;rw [HC,if_pos ⟨hk,by rw [h4]; rfl⟩,h4];have hv:(c.ins.map Dg)[(0:Int).toNat]? = some (Ao a):=by rw [h4]; exact CY rfl
  have l1:((c.ins.map Dg).length:Int)=1:=by rw [h4]; rfl
  show Ae _ _ _ (.agg (Ao (FQ a c.l)));refine Aa HZ fun C hC => ?_;refine Aj ?_;exact Am
 ·rw [HC,if_neg (fun h=>hk h.1)]
  have c1:=Li c (by omega) (by omega) (by omega);have c2:=Gu (.mk 0 [] [c]) c.l (show (0:Nat)<18446744073709551616 by decide) hll;have e:FQ (.mk 0 [] [c]) c.l=.mk (0 ||| c.l) [] [c]:=rfl;rw [e] at c2;refine Aa HZ fun C hC => ?_;refine Aj ?_;exact Am
theorem AeT (A B:Al):Ae Tryz.prog 125 [.agg (Ao A),.agg (Ao B)] (.lit (.bool (Rh false A B))):=by
 have c1:=Aeq false A B;refine Aa Q5 fun C hC => ?_;refine Aj ?_;exact Am
def LH (z:Int) (s:Nat):Al:=.mk (0 ||| s) [] [BV z]
theorem Agn {z:Int} (h0:0≤z) (h1:z≤4294967295):(HH z).top.length≤1∧(HH z).bot.length=1:=by
 refine ⟨?_,rfl⟩;show (limbs z.natAbs).length≤1;by_cases h:z.natAbs=0
 ·rw [h,AC]; exact Nat.zero_le _
 ·rw [Bf h,show z.natAbs / 4294967296=0 from by omega,AC]; exact Nat.le_refl _
theorem Qa (z:Int) (s:Nat) (h0:0≤z) (h1:z≤4294967295) (hs:s<18446744073709551616):Ae Tryz.prog 91 [nA z,CG s] (.agg (Ao (LH z s))):=by
 have hB:A2=1000000000:=rfl;have c1:=DJ z (by omega) (by omega);have hl:=Agn h0 h1;have c2:=Li (BV z) (show (HH z).top.length≤_ by omega) (show (HH z).bot.length≤_ by omega) (Nat.zero_le _);have c3:=Gu (.mk 0 [] [BV z]) s (show (0:Nat)<18446744073709551616 by decide) hs;refine Aa Q7 fun C hC => ?_;refine Aj ?_;exact Am
def VJ (A B:Al) (same:Bool):Al:=LH (if Rh false A B=same then 1 else 0) (A8 A ||| A8 B)
theorem Ab0 (A B:Al) (same:Bool) (hA:okA A) (hB:okA B):Ae Tryz.prog 73 [.agg (Ao A),.agg (Ao B),.lit (.bool same)] (.agg (Ao (VJ A B same))):=by
 have c1:=AeT A B;have c2:=C9 A hA;have c3:=C9 B hB;have c4:=FF (A8 A) (A8 B) (Bg A hA) (Bg B hB);have hor:=C6 (A8 A) (A8 B) (Bg A hA) (Bg B hB);unfold VJ;generalize Rh false A B=v at c1;have c5:=Qa (if v=same then 1 else 0) (A8 A ||| A8 B) (by split<;>omega) (by split<;>omega) hor;refine Aa Sz fun C hC => ?_;cases v<;>cases same
 all_goals
  simp only [Bool.false_eq_true,Bool.true_eq_false,if_true,if_false] at c5 ⊢;refine Aj ?_;exact Am
section
variable {P:Program} {tt:List (Nat × AV)} {hh:Hp} {nn dd:Nat} {g:Option (Nat × Bool)} {l:List AG} {acc:List SD} {K:List SD→St→Prop}
theorem Ams {x y:Operand} {k:IntKind} {a b:Int} (v:Int) (hv:(b≤a∧v=a)∨(a<b∧v=b)) (h:RG P (⟨⟨some dd,g,.mm true x y⟩,.lit (.int k v),[],[],0⟩::acc) l ⟨(dd,.lit (.int k v))::tt,hh,nn⟩ K)
 (hg:BD ⟨tt,hh,nn⟩ g:=by first|exact True.intro|rfl) (hx:ev ⟨tt,hh,nn⟩ x=.lit (.int k a):=by rfl) (hy:ev ⟨tt,hh,nn⟩ y=.lit (.int k b):=by rfl):RG P acc (⟨some dd,g,.mm true x y⟩::l) ⟨tt,hh,nn⟩ K :=
  RG.step ((AlJ hg hx hy).cast (by simp only [cond_true]; rcases hv with ⟨h1,rfl⟩|⟨h1,rfl⟩; rw [if_neg (by omega)]; rw [if_pos h1])) h
theorem Ady {x y:Operand} {k:IntKind} {a b:Int} (v:Int) (hv:(a≤b∧v=a)∨(b<a∧v=b)) (h:RG P (⟨⟨some dd,g,.mm false x y⟩,.lit (.int k v),[],[],0⟩::acc) l ⟨(dd,.lit (.int k v))::tt,hh,nn⟩ K)
 (hg:BD ⟨tt,hh,nn⟩ g:=by first|exact True.intro|rfl) (hx:ev ⟨tt,hh,nn⟩ x=.lit (.int k a):=by rfl) (hy:ev ⟨tt,hh,nn⟩ y=.lit (.int k b):=by rfl):RG P acc (⟨some dd,g,.mm false x y⟩::l) ⟨tt,hh,nn⟩ K :=
  RG.step ((AlJ hg hx hy).cast (by simp only [cond_false]; rcases hv with ⟨h1,rfl⟩|⟨h1,rfl⟩; rw [if_neg (by omega)]; rw [if_pos h1])) h
end
def Fq (k:Int):Int:=if k > 2049∨k < -2049 then 2049 else max k (-k)
theorem Qb (k:Int):0≤Fq k∧Fq k≤2049:=by unfold Fq; split<;>omega
theorem Ab1 (k:Int) (h0 : -9223372036854775808≤k) (h1:k≤9223372036854775807):Ae Tryz.prog 68 [nA k] (nA (Fq k)):=by
 unfold Fq;refine Aa Uy fun C hC => ?_;by_cases h:k > 2049
 ·rw [if_pos (.inl h)]
  refine Aj ?_;exact Am
 ·by_cases h2:k < -2049
  ·rw [if_pos (.inr h2)]
   refine Aj ?_;exact Am
  ·rw [if_neg (by omega)]
   refine Aj ?_;refine Ams (a:=k) (b := -k) (max k (-k)) (by omega) ?_;refine A5 ?_;refine Ak ⟨rfl,?_⟩;refine Aj ?_;exact Am
def Jq (N A:Al):List Int × List Int × Int :=
 if (AB N).2≠0 then ([],[],(AB N).2) else
 if A.shape.length > 0 then (if (AB N).1.length > A.shape.length then ([],[],4) else ((AB N).1,A.shape,0)) else
 if (AB N).1.length > 6 then ([],[],7) else ((AB N).1,List.replicate (AB N).1.length 1,0)
theorem AiP (N A:Al) (hN:arrOK N) (kN:CI N) (hA:A.shape.length≤6):Ae Tryz.prog 66 [.agg (Ao N),.agg (Ao A)] (.tup [.sl 1 (Ab .i64 (Jq N A).1),.sl 1 (Ab .i64 (Jq N A).2.1),nA (Jq N A).2.2]):=by
 have c0:=Ef N hN kN.ok;have ls:=Ac .i64 A.shape;have ll:=Ac .i64 (AB N).1
 have hle:(AB N).1.length≤2048:=by
  have:=kN.cells
  unfold AB;split
  ·exact Nat.zero_le _
  ·split
   ·rename_i l hl; have:=GZ hl; dsimp only; omega
   ·exact Nat.zero_le _
 unfold Jq;by_cases h0:(AB N).2=0
 ·rw [h0] at c0
  rw [if_neg (fun h=>h h0)];generalize (AB N).1=l at c0 ll hle ⊢;by_cases h1:A.shape.length > 0
  ·have c1:=CN (Ab .i64 A.shape) (by omega)
   rw [if_pos h1];by_cases h2:l.length > A.shape.length
   ·rw [if_pos h2]
    refine Aa Et fun C hC => ?_;refine Aj ?_;exact Am
   ·rw [if_neg h2]
    refine Aa Et fun C hC => ?_;refine Aj ?_;exact Am
  ·rw [if_neg h1]
   by_cases h2:l.length > 6
   ·rw [if_pos h2]
    refine Aa Et fun C hC => ?_;refine Aj ?_;exact Am
   ·rw [if_neg h2]
    have c1:=AbF 1 l.length (by omega);rw [show List.replicate l.length [AV.lit (.int .i64 1)]=Ab .i64 (List.replicate l.length 1) from by simp [Ab]] at c1;refine Aa Et fun C hC => ?_;refine Aj ?_;exact Am
 ·rw [if_pos h0]
  generalize (AB N).2=e at *;refine Aa Et fun C hC => ?_;refine Aj ?_;exact Am
theorem AiQ (s:List Int) (h0:0<s.length) (h1:s.length≤6):Dn Tryz.prog 67 [.sl 1 (Ab .i64 s)] [] 0 (.agg [.own 0,.own 1]) [(0,some ⟨true,false,3,1,Ab .i64 (List.replicate s.length 0)⟩),(1,some ⟨true,false,3,1,Ab .i64 s⟩)] 2:=by
 have ls:=Ac .i64 s;have e0:List.replicate s.length [AV.lit (.int .i64 0)]=Ab .i64 (List.replicate s.length 0):=by simp [Ab]
 have c1:=N8 (Ab .i64 s) (by omega) (by omega);refine BK M8 fun C hC => ?_;refine Aj ?_;refine Cw [] c1 ?_;refine A5 ?_;refine Ak ⟨rfl,?_⟩;refine F8 1 (Ab .i64 (List.replicate s.length 0)) rfl (by dsimp only; rw [Int.toNat_natCast]; exact e0) ?_;refine Aj ?_;exact BZ [(0,1),(1,2)]
theorem AiR (s:List Int) (h1:s.length≤6):Ae Tryz.prog 67 [.sl 1 (Ab .i64 s)] (.agg [.sl 1 (Ab .i64 (List.replicate s.length 0)),.sl 1 (Ab .i64 s)]):=by
 have ls:=Ac .i64 s;have e0:List.replicate s.length [AV.lit (.int .i64 0)]=Ab .i64 (List.replicate s.length 0):=by simp [Ab]
 have c1:=CN (Ab .i64 s) (by omega);refine Aa M8 fun C hC => ?_;refine Aj ?_;rw [← e0];exact Am
theorem ZQ (N A:Al) (s:List Int) (cs:List Ah) (hN:okA N) (hA:A.s<18446744073709551616):Ae Tryz.prog 69 [.agg (Ao N),.agg (Ao A),.sl 1 (Ab .i64 s),.sl 7 (cs.map Av)] (.agg (Ao (.mk (A.s ||| A8 N) s cs))):=by
 have c1:=C9 N hN;have c2:=FF A.s (A8 N) hA (Bg N hN);refine Aa Wp fun C hC => ?_;refine Aj ?_;exact Am
def Qc (d f:List Int):List Int:=List.zipWith (·+·) d f
def MX (d f:List Int) (j:Nat):List Int:=(Qc d f).take j++d.drop j
theorem Jk {d f:List Int} (h:d.length=f.length):(Qc d f).length=d.length:=by simp [Qc,h]
theorem Ago (d f:List Int):MX d f 0=d:=by simp [MX]
theorem AiS {d f:List Int} (h:d.length=f.length) {j:Nat} (hj:j≤d.length):(MX d f j).length=d.length:=by
 have:=Jk h
 simp [MX]; omega
theorem AiT {d f:List Int} (h:d.length=f.length) {j:Nat} (hj:¬ j<d.length):MX d f j=Qc d f:=by
 have:=Jk h
 rw [MX,List.take_of_length_le (by omega),List.drop_eq_nil_of_le (by omega),List.append_nil]
theorem AiU {d f:List Int} (h:d.length=f.length) {j:Nat} {x:Int} (hx:d[j]? = some x):(MX d f j)[j]? = some x:=by
 have hl:=Jk h;have hj:=(List.getElem?_eq_some_iff.1 hx).1;rw [MX,List.getElem?_append_right (by simp; omega),List.length_take,Nat.min_eq_left (by omega),Nat.sub_self,List.getElem?_drop,Nat.add_zero];exact hx
theorem AiV {d f:List Int} (h:d.length=f.length) {j:Nat} {x y:Int} (hx:d[j]? = some x) (hy:f[j]? = some y):(MX d f j).set j (x+y)=MX d f (j+1):=by
 have hl:=Jk h;have hj:=(List.getElem?_eq_some_iff.1 hx).1;have hz:(Qc d f)[j]? = some (x+y):=by unfold Qc; rw [List.getElem?_zipWith,hx,hy]
 rw [MX,MX,List.set_append_right _ _ (by simp; omega),BO hz,AU hx,List.length_take,Nat.min_eq_left (by omega),Nat.sub_self,List.set_cons_zero,List.append_assoc];rfl
theorem Amt {s d:List Int} {k:Int} (h:idx s d=(k,true)):0≤k∧k<AA s:=by
 unfold idx at h;split at h
 ·cases h
 ·rename_i hn
  have hl:d.length=s.length:=Classical.byContradiction fun hc=>hn (.inr hc);cases hc:Lj s d 0 with
  | none=>rw [hc] at h; cases h
  | some j =>
    rw [hc] at h;simp only [Aht,Prod.mk.injEq,and_true] at h;subst h;obtain ⟨j,h1,h2,h3,_⟩:=Xf s d 0 _ hl hc;omega
def VK (fr sz s:List Int) (A:Al) (i:Nat):Ah :=
 if (idx s (Qc (AQ sz i).2 fr)).2 then A.cells.getD (idx s (Qc (AQ sz i).2 fr)).1.toNat AS else Gc A
def EX (fr sz s:List Int) (A:Al) (n:Nat):List Ah:=(List.range n).map (VK fr sz s A)
theorem XM (fr sz s:List Int) (A:Al) (n:Nat):(EX fr sz s A n).length=n:=by simp [EX]
theorem AiW (fr sz s:List Int) (A:Al) {n i:Nat} (h:i<n):(EX fr sz s A n)[i]? = some (VK fr sz s A i):=by simp [EX,h]
theorem ZS (fr sz s:List Int) (A:Al) (n:Nat) (hz:(Co sz).2=0) (hn:(Co sz).1=n) (hf:fr.length=sz.length) (hb:∀ f ∈ fr,-10000≤f∧f≤10000) (hs:(Co s).2=0) (hc:AA s=A.cells.length) (hAl:A.cells.length≤2048) :
 Ae Tryz.prog 70 [.agg [.sl 1 (Ab .i64 fr),.sl 1 (Ab .i64 sz)],.agg (Ao A),.sl 1 (Ab .i64 s),nA n] (.sl 7 ((EX fr sz s A n).map Av)):=by
 have hB:A2=1000000000:=rfl;have hn2:n≤2048:=by have:=(E6 sz).2; omega
 have lsz:=CF hz;have ls:=CF hs;have smz:=BG hz;have c0:=ZP A;have lcs:=AK A;have lfr:=Ac .i64 fr;have hLl:=XM fr sz s A n;have hLa:∀ i,i<n→(EX fr sz s A n)[i]? = some (VK fr sz s A i):=fun i hi=>AiW fr sz s A hi;generalize hL:EX fr sz s A n=L at hLl hLa ⊢;refine Aa Lm fun C hC => ?_;refine Aj ?_
 refine Ai [2,4,5,9,21] [0,1,2] (fun i:Nat=>[(10,.own 3),(22,nA i)]) (fun i=>[(3,some ⟨true,false,43,7,(L.take i).map Av⟩)]) 4
  (fun i=>i≤n) (fun i=>n - i) 0 (Nat.zero_le _) ?_
 intro i hi;dsimp only [List.cons_append,List.nil_append] at hi ⊢;by_cases hlt:i<n
 ·have c1:=UU sz (i:Int) hz (by omega) (by omega)
  have hpos:=H4 smz (by rw [← E7 hz]; omega);have hdl:=Ch sz (i:Int)
  have hdr:∀ x ∈ (AQ sz (i:Int)).2,0≤x∧x≤1000000:=fun x hx=>by
   rcases UV sz (i:Int) smz x hx with h|⟨z,hz1,hz2⟩
   ·exact h
   ·have:=hpos z hz1; omega
  have hcell:VK fr sz s A i=if (idx s (Qc (AQ sz (i:Int)).2 fr)).2 then A.cells.getD (idx s (Qc (AQ sz (i:Int)).2 fr)).1.toNat AS else Gc A:=rfl
  have hLi:=hLa i hlt;generalize (AQ sz (i:Int)).2=d at c1 hdl hdr hcell;have hdf:d.length=fr.length:=by omega
  have ld:=Ac .i64 d;have hml:((L.take i).map Av).length=i:=by simp; omega
  have hsn:(L.take i).map Av++[Au (VK fr sz s A i)]=(L.take (i+1)).map Av:=by
   rw [BO hLi]; simp [Bv]
  refine Aj ?_;refine Cw [] c1 ?_;refine A5 ?_;refine Ak ⟨rfl,?_⟩;refine Aj ?_
  refine Ai [2,4,5,9,21,22,10,11,12,33] [0,1,2,3] (fun j:Nat=>[(34,nA j)]) (fun j=>[(4,some ⟨true,false,3,1,Ab .i64 (MX d fr j)⟩)]) 5
   (fun j=>j≤d.length) (fun j=>d.length - j) 0 (Nat.zero_le _) ?_ (hh:=by rw [Ago]; rfl)
  intro j hj;dsimp only [List.cons_append,List.nil_append] at hj ⊢;have hka:=Ac .i64 (MX d fr j);rw [AiS hdf hj] at hka;by_cases hjl:j<d.length
  ·obtain ⟨x,hx⟩:∃ x,d[j]? = some x:=⟨_,List.getElem?_eq_getElem hjl⟩
   obtain ⟨y,hy⟩:∃ y,fr[j]? = some y:=⟨_,List.getElem?_eq_getElem (by omega)⟩;have hxr:=hdr x (List.mem_of_getElem? hx);have hyr:=hb y (List.mem_of_getElem? hy);have hxk:=Az (k:=.i64) (AiU hdf hx);have hyk:=Az (k:=.i64) hy
   have hset:(Ab .i64 (MX d fr j)).set j [.lit (.int .i64 (x+y))]=Ab .i64 (MX d fr (j+1)):=by
    rw [← AiV hdf hx hy]; simp [Ab,List.map_set]
   clear c1;refine Aj ?_;exact ⟨j+1,by omega,by omega,BI hC.m [] (by rw [← hset]; rfl)⟩
  ·rw [AiT hdf hjl]
   have c2:=Ja s (Qc d fr) (by rw [Jk hdf]; omega) (by omega);have hlt2 := @Amt s (Qc d fr);generalize idx s (Qc d fr)=r at c2 hcell hlt2;obtain ⟨q,ok⟩:=r;have lad:=Ac .i64 (Qc d fr);rw [Jk hdf] at lad;cases ok
   ·simp only [Bool.false_eq_true,if_false] at hcell
    rw [hcell] at hsn;clear c1;refine Aj ?_;exact ⟨i+1,by omega,by omega,BI hC.m [(3,6)] (by rw [← hsn]; rfl)⟩
   ·simp only [if_true] at hcell
    obtain ⟨q0,q1⟩:=hlt2 rfl;have hql:q.toNat<A.cells.length:=by omega
    have hqc:A.cells[q.toNat]? = some (A.cells.getD q.toNat AS):=by rw [List.getD_eq_getElem?_getD,List.getElem?_eq_getElem hql]; rfl
    have hqk:=A9 hqc;rw [← hcell] at hqk;clear c1;refine Aj ?_;exact ⟨i+1,by omega,by omega,BI hC.m [(3,6)] (by rw [← hsn]; rfl)⟩
 ·rw [List.take_of_length_le (by omega)]
  refine Aj ?_;exact Am
end Go.Proofs.YtjcolpcfcdkckaaGreat
