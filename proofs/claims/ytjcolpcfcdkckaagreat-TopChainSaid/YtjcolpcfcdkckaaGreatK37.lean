/- Choosing along an axis: the parts of pick. -/
import Derived.Test.YtjcolpcfcdkckaaGreatK34
set_option maxRecDepth 10000
set_option maxHeartbeats 4000000
namespace Go.Proofs.YtjcolpcfcdkckaaGreat
set_option linter.unusedVariables false
open Go.RowKit
theorem Amw (z:Int):Ae Tryz.prog 134 [nA z] (.lit (.bool (decide (z<0)))):=by
 refine Aa KA fun C hC => ?_;by_cases h:z<0
 ·rw [decide_eq_true h]
  refine Aj ?_;exact Am
 ·rw [decide_eq_false h]
  refine Aj ?_;exact Am
def EB (A:Al):List Int:=if A.shape.length=0 then [1] else A.shape
def Fr (A:Al) (first:Bool):Nat:=if A.shape.length=0 then 0 else if first then 0 else A.shape.length - 1
theorem AeW (A:Al) (first:Bool) (h6:A.shape.length≤6):Ae Tryz.prog 135 [.agg (Ao A),.lit (.bool first)] (.tup [.sl 1 (Ab .i64 (EB A)),nA (Fr A first)]):=by
 have ls:=Ac .i64 A.shape;have c1:=CN (Ab .i64 A.shape) (by omega);unfold EB Fr;by_cases h:A.shape.length=0
 ·rw [if_pos h,if_pos h]
  refine Aa Hn fun C hC => ?_;refine Aj ?_;exact Am
 ·rw [if_neg h,if_neg h]
  cases first
  ·have e:((A.shape.length - 1:Nat):Int)=(A.shape.length:Int) - 1:=by omega
   simp only [Bool.false_eq_true,if_false];rw [e];refine Aa Hn fun C hC => ?_;refine Aj ?_;exact Am
  ·simp only [if_true]
   refine Aa Hn fun C hC => ?_;refine Aj ?_;exact Am
def LI (l:List Int):Bool:=l.all fun k=>k == 0 || k == 1
theorem Ai4 {l:List Int} {j:Nat} {k:Int} (h:l[j]? = some k):LI (l.drop j)=((k == 0 || k == 1) && LI (l.drop (j+1))):=by
 rw [AU h]; rfl
theorem Ai5 (l:List Int) (hl:l.length≤100000):Ae Tryz.prog 96 [.sl 1 (Ab .i64 l)] (.lit (.bool (LI l))):=by
 have ll:=Ac .i64 l;refine Aa UC fun C hC => ?_;refine Aj ?_;refine Ai [5,6] [] (fun j:Nat=>[(7,nA j)]) (fun _=>[]) 0 (fun j=>j≤l.length∧LI l=LI (l.drop j)) (fun j=>l.length - j) 0 ⟨Nat.zero_le _,rfl⟩ ?_;rintro j ⟨hj,hE⟩;dsimp only [List.cons_append,List.nil_append] at hj hE ⊢;by_cases hlt:j<l.length
 ·obtain ⟨k,hk⟩:∃ k,l[j]? = some k:=⟨_,List.getElem?_eq_getElem hlt⟩
  have hkk:=Az (k:=.i64) hk;rw [Ai4 hk] at hE;by_cases h0:k=0
  ·subst h0
   simp only [beq_self_eq_true,Bool.true_or,Bool.true_and] at hE;refine Aj ?_;exact ⟨j+1,by omega,⟨by omega,hE⟩,BI hC.m []⟩
  ·by_cases h1:k=1
   ·subst h1
    simp only [beq_self_eq_true,Bool.or_true,Bool.true_and] at hE;refine Aj ?_;exact ⟨j+1,by omega,⟨by omega,hE⟩,BI hC.m []⟩
   ·have hf:(k == 0 || k == 1)=false:=by simp [h0,h1]
    rw [hf,Bool.false_and] at hE;rw [hE];refine Aj ?_;exact Am
 ·rw [List.drop_eq_nil_of_le (by omega)] at hE
  rw [hE,show LI []=true from rfl];refine Aj ?_;exact Am
def Eh (A:Al) (be lo:Nat) (i:Nat) (k:Int):List Ah:=if k<0 then List.replicate be (Gc A) else (A.cells.drop ((i * lo+k.toNat) * be)).take be
def GE (A:Al) (be lo:Nat) (F:List Int) (i:Nat):List Ah:=F.flatMap (Eh A be lo i)
def Sa (A:Al) (ah be lo:Nat) (F:List Int):List Ah:=(List.range ah).flatMap (GE A be lo F)
def Gf (N A:Al) (s:List Int) (x:Nat) (F:List Int):Al × Int :=
 if (Co (s.set x F.length)).2≠0 then (zA,(Co (s.set x F.length)).2) else
 (.mk (A.s ||| A8 N) (s.set x F.length) (Sa A (Bm ((s.set x F.length).take x) 1).toNat (Bm ((s.set x F.length).drop (x+1)) 1).toNat (s.getD x 0).toNat F),0)
theorem Ab9:∀ (l:List Int) (o:Int),Bm l o=0∨Bm l o=o * AA l
 | [],o=>.inr (by simp [Bm,AA])
 | z::l,o=>by
   rw [Bm];split
   ·exact .inl rfl
   ·rcases Ab9 l (o * z) with h|h
    ·exact .inl h
    ·exact .inr (by rw [h,Cy,Int.mul_assoc])
theorem Ma {l:List Int} (h:Small l):Bm l 1≤AA l:=by
 have h0:=Dx l (fun z hz=>(h z hz).1);rcases Ab9 l 1 with e|e<;>rw [e]
 ·exact h0
 ·rw [Int.one_mul]; exact Int.le_refl _
theorem XS (A:Al) (be lo i:Nat) (k:Int):(Eh A be lo i k).length≤be:=by
 unfold Eh; split<;>simp<;>omega
theorem RA (A:Al) (be lo i:Nat):∀ (F:List Int),(GE A be lo F i).length≤F.length * be
 | []=>by simp [GE]
 | k::F=>by
   have:=RA A be lo i F
   have h2:=XS A be lo i k;unfold GE at this ⊢;rw [List.flatMap_cons,List.length_append,List.length_cons,Nat.add_mul];omega
theorem RB (A:Al) (be lo:Nat) (F:List Int):∀ n:Nat,((List.range n).flatMap (GE A be lo F)).length≤n * (F.length * be)
 | 0=>by simp
 | n+1=>by
   have:=RB A be lo F n
   have h2:=RA A be lo n F;rw [List.range_succ,List.flatMap_append,List.flatMap_singleton,List.length_append,Nat.add_mul];omega
theorem Ai6 (N A:Al) (s:List Int) (x lo:Nat) (F:List Int) (kN:okA N) (hAs:A.s<18446744073709551616) (hAl:A.cells.length≤2048) (hs:Small s) (h6:s.length≤6) (hp:AA s=A.cells.length) (hx:s[x]? = some (lo:Int)) (hFl:F.length≤3000) (hF:∀ k ∈ F,k<lo) :
 Ae Tryz.prog 136 [.agg (Ao N),.agg (Ao A),.sl 1 (Ab .i64 s),nA x,.sl 1 (Ab .i64 F)] (.tup [.agg (Ao (Gf N A s x F).1),nA (Gf N A s x F).2]):=by
 have hB:A2=1000000000:=rfl;have hxl:=(List.getElem?_eq_some_iff.1 hx).1;have lF:=Ac .i64 F;have c1:=Abm s x F.length hxl (by omega);have c2:=FT (s.set x F.length);unfold Gf;rw [show s.getD x 0=(lo:Int) from by rw [List.getD_eq_getElem?_getD,hx]; rfl,Int.toNat_natCast];by_cases he:(Co (s.set x F.length)).2=0
 ·rw [he] at c2
  rw [if_neg (fun h=>h he)];have ht:(s.set x (F.length:Int))[x]? = some (F.length:Int):=by rw [List.getElem?_set_self hxl]
  have c3:=N9 (s.set x F.length) x F.length he ht;have hst:Small (s.set x (F.length:Int)):=BG he;have e1:(s.set x (F.length:Int)).take x=s.take x:=by rw [List.take_set,List.set_eq_of_length_le (by rw [List.length_take]; omega)]
  have e2:(s.set x (F.length:Int)).drop (x+1)=s.drop (x+1):=by rw [List.drop_set_of_lt (by omega)]
  rw [e1,e2] at c3 ⊢;have s1:Small (s.take x):=fun z hz=>hs z (List.mem_of_mem_take hz);have s2:Small (s.drop (x+1)):=fun z hz=>hs z (List.mem_of_mem_drop hz);have p1:=Ma s1;have p2:=Ma s2;have r1:=D1 (s.take x) 1 (by omega) (by omega) s1;have r2:=D1 (s.drop (x+1)) 1 (by omega) (by omega) s2
  have hsp:AA (s.take x) * (lo:Int) * AA (s.drop (x+1))=A.cells.length:=by
   rw [← hp]; conv=>rhs; rw [Hx hx,Cq,Cy]
   rw [Int.mul_assoc]
  have n1:=Dx (s.take x) (fun z hz=>(s1 z hz).1);have n2:=Dx (s.drop (x+1)) (fun z hz=>(s2 z hz).1);obtain ⟨ah,hah⟩:∃ ah:Nat,Bm (s.take x) 1=ah:=⟨(Bm (s.take x) 1).toNat,by omega⟩;obtain ⟨be,hbe⟩:∃ be:Nat,Bm (s.drop (x+1)) 1=be:=⟨(Bm (s.drop (x+1)) 1).toNat,by omega⟩;rw [hah] at c3 p1 r1 ⊢;rw [hbe] at c3 p2 r2 ⊢;rw [Int.toNat_natCast,Int.toNat_natCast];have hlo:(lo:Int)≤2048:=(hs _ (List.mem_of_getElem? hx)).2
  have htot:ah * lo * be≤A.cells.length:=by
   have h1:(ah:Int) * lo≤AA (s.take x) * lo:=Int.mul_le_mul_of_nonneg_right p1 (by omega)
   have h2:(ah:Int) * lo * be≤AA (s.take x) * lo * AA (s.drop (x+1)):=by
    refine Int.le_trans (Int.mul_le_mul_of_nonneg_right h1 (by omega)) (Int.mul_le_mul_of_nonneg_left p2 (Int.mul_nonneg n1 (by omega)))
   rw [hsp] at h2
   exact_mod_cast h2
  clear p1 p2 hsp n1 n2 hah hbe e1 e2 hst;have hcn:=E6 (s.set x (F.length:Int));obtain ⟨cn,hcn2⟩:∃ cn:Nat,(Co (s.set x (F.length:Int))).1=cn:=⟨(Co (s.set x (F.length:Int))).1.toNat,by omega⟩;rw [hcn2] at c2 hcn;have c4:=ZP A;have c5:=C9 N kN;have c6:=FF A.s (A8 N) hAs (Bg N kN);have ls:=Ac .i64 s;have hxk:=Az (k:=.i64) hx;have lA:=AK A;generalize s.set x (F.length:Int)=t at *;refine Aa Lo fun C hC => ?_;refine Aj ?_
  refine Ai [2,3,4,5,6,10,11,12,16,18,20,55] [0,1,2,3] (fun i:Nat=>[(21,.own 4),(56,nA i)]) (fun i=>[(4,some ⟨true,false,43,7,((List.range i).flatMap (GE A be lo F)).map Av⟩)]) 5
   (fun i=>i≤ah) (fun i=>ah - i) 0 (Nat.zero_le _) ?_
  intro i hi;dsimp only [List.cons_append,List.nil_append] at hi ⊢;by_cases hlt:i<ah
  ·have hO:=RB A be lo F i
   have hOs:(List.range i).flatMap (GE A be lo F)++GE A be lo F i=(List.range (i+1)).flatMap (GE A be lo F):=by
    rw [List.range_succ,List.flatMap_append,List.flatMap_singleton]
   have hO2:((List.range i).flatMap (GE A be lo F)).length≤12582912000:=by
    have h1:F.length * be≤3000 * 2048:=Nat.mul_le_mul hFl (by omega);have h2:i * (F.length * be)≤2048 * (3000 * 2048):=Nat.mul_le_mul (by omega) h1;omega
   generalize (List.range i).flatMap (GE A be lo F)=O at hO hOs hO2 ⊢;clear c1 c2 c3 c5 c6;refine Aj ?_
   refine Ai [2,3,4,5,6,10,11,12,16,18,20,55,56,22,59,60] [0,1,2,3] (fun j:Nat=>[(21,.own 4),(61,nA j)]) (fun j=>[(4,some ⟨true,false,43,7,(O++(F.take j).flatMap (Eh A be lo i)).map Av⟩)]) 5
    (fun j=>j≤F.length) (fun j=>F.length - j) 0 (Nat.zero_le _) ?_ (hh:=by rw [List.take_zero,List.flatMap_nil,List.append_nil]; rfl)
   intro j hj;dsimp only [List.cons_append,List.nil_append] at hj ⊢;by_cases hjl:j<F.length
   ·obtain ⟨k,hk⟩:∃ k,F[j]? = some k:=⟨_,List.getElem?_eq_getElem hjl⟩
    have hkk:=Az (k:=.i64) hk;have hkl:=hF k (List.mem_of_getElem? hk)
    have hPs:(O++(F.take j).flatMap (Eh A be lo i))++Eh A be lo i k=O++(F.take (j+1)).flatMap (Eh A be lo i):=by
     rw [BO hk,List.flatMap_append,List.flatMap_singleton,List.append_assoc]
    have hPl:((F.take j).flatMap (Eh A be lo i)).length≤3000 * 2048:=by
     have h1:=RA A be lo i (F.take j);have h2:(F.take j).length * be≤3000 * 2048:=Nat.mul_le_mul (by simp; omega) (by omega);unfold GE at h1;omega
    have hrl:=XS A be lo i k
    have hPm:(O++(F.take j).flatMap (Eh A be lo i)).map Av++(Eh A be lo i k).map Av=(O++(F.take (j+1)).flatMap (Eh A be lo i)).map Av:=by
     rw [← hPs]; exact List.map_append.symm
    have hSl:((O++(F.take j).flatMap (Eh A be lo i)).map Av).length≤12589056000:=by rw [List.length_map,List.length_append]; omega
    generalize (O++(F.take j).flatMap (Eh A be lo i)).map Av=S at hPm hSl ⊢;by_cases hk0:k<0
    ·have hR:(Eh A be lo i k).map Av=List.replicate be (Au (Gc A)):=by
      rw [Eh,if_pos hk0,List.map_replicate,Bv]
     rw [hR] at hPm;have c7:=Af3 (Gc A) be (by omega);have hb:(S.length+(List.replicate be (Au (Gc A))).length) * 104≤140737488355328:=by rw [List.length_replicate]; omega
     refine Aj ?_;exact ⟨j+1,by omega,by omega,BI hC.m [(4,6)] (by rw [← hPm]; rfl)⟩
    ·obtain ⟨q,rfl⟩:=Int.eq_ofNat_of_zero_le (show 0≤k by omega)
     have hat:(i * lo+q) * be+be≤A.cells.length:=by
      have h1:i * lo+q+1≤ah * lo:=by
       have:(i+1) * lo≤ah * lo:=Nat.mul_le_mul_right _ hlt
       rw [Nat.add_mul,Nat.one_mul] at this;omega
      have h2:(i * lo+q+1) * be≤ah * lo * be:=Nat.mul_le_mul_right _ h1;rw [Nat.add_mul (i * lo+q) 1,Nat.one_mul] at h2;omega
     have hR:Eh A be lo i (q:Int)=(A.cells.drop ((i * lo+q) * be)).take be:=by
      rw [Eh,if_neg hk0,Int.toNat_natCast]
     have hcut:=Cut.map (f:=Av) (s:=A.cells) (a:=(i * lo+q) * be) (b:=(i * lo+q) * be+be) (by omega) hat;rw [Nat.add_sub_cancel_left,← hR] at hcut;have hil:i * lo≤2048 * 2048:=Nat.mul_le_mul (by omega) (by omega);have hm1 : -9223372036854775808≤(i:Int) * lo∧(i:Int) * lo≤9223372036854775807:=by rw [← Int.natCast_mul]; omega
     have hm2 : -9223372036854775808≤(i:Int) * lo+q∧(i:Int) * lo+q≤9223372036854775807:=by rw [← Int.natCast_mul]; omega
     have hm3 : -9223372036854775808≤((i:Int) * lo+q) * be∧((i:Int) * lo+q) * be≤9223372036854775807:=by
      rw [← Int.natCast_mul,← Int.natCast_add,← Int.natCast_mul]; omega
     have hm4 : -9223372036854775808≤((i:Int) * lo+q) * be+be∧((i:Int) * lo+q) * be+be≤9223372036854775807:=by
      rw [← Int.natCast_mul,← Int.natCast_add,← Int.natCast_mul]; omega
     have hYl:((Eh A be lo i (q:Int)).map Av).length≤2048:=by rw [List.length_map]; omega
     generalize (Eh A be lo i (q:Int)).map Av=Y at *;have hb:(S.length+Y.length) * 104≤140737488355328:=by omega
     refine Aj ?_;exact ⟨j+1,by omega,by omega,BI hC.m [(4,5)] (by rw [← hPm]; rfl)⟩
   ·have hend:O++(F.take j).flatMap (Eh A be lo i)=(List.range (i+1)).flatMap (GE A be lo F):=by
     rw [List.take_of_length_le (by omega)]; exact hOs
    rw [hend];refine Aj ?_;exact ⟨i+1,by omega,by omega,BI hC.m []⟩
  ·obtain rfl:i=ah:=by omega
   show AW _ _ _ _ _;rw [show (List.range i).flatMap (GE A be lo F)=Sa A i be lo F from rfl];refine Aj ?_;exact Am
 ·rw [if_pos he]
  generalize s.set x (F.length:Int)=t at *;generalize (Co t).2=e at *;generalize (Co t).1=e' at *;refine Aa Lo fun C hC => ?_;refine Aj ?_;exact Am
def Ic (one:Bool):Nat→List Int→List Int→Option (List Int)
 | _,[],F=>some F
 | i,k::ks,F=>if k > 2048 - (F.length:Int) then none else Ic one (i+1) ks (F++List.replicate k.toNat (if one then 0 else (i:Int)))
theorem VO (one:Bool) {l:List Int} {i:Nat} {k:Int} (h:l[i]? = some k) (F:List Int) :
 Ic one i (l.drop i) F=if k > 2048 - (F.length:Int) then none else Ic one (i+1) (l.drop (i+1)) (F++List.replicate k.toNat (if one then 0 else (i:Int))):=by
 rw [AU h,Ic]
def Ai7 (N A:Al) (first:Bool):List Int:=if N.shape.length=0 then List.replicate ((EB A).getD (Fr A first) 0).toNat ((AB N).1.headD 0) else (AB N).1
def Qg (N A:Al) (first:Bool):Al × Int :=
 if (AB N).2≠0 then (zA,(AB N).2) else
 if (AB N).1.any (fun k=>decide (k<0)) then (zA,3) else
 if N.shape.length≠0∧(EB A).getD (Fr A first) 0≠1∧((AB N).1.length:Int)≠(EB A).getD (Fr A first) 0 then (zA,4) else
 match Ic (decide ((EB A).getD (Fr A first) 0=1)) 0 (Ai7 N A first) [] with
 | none=>(zA,7)
 | some F=>Gf N A (EB A) (Fr A first) F
def RC:Nat→List Int→List Int
 | _,[]=>[]
 | o,k::ks=>if k=1 then (o:Int)::RC (o+1) ks else -1::RC o ks
def D5 (l:List Int):Nat:=(l.filter fun k=>decide (k=1)).length
def Qh (N A:Al) (first:Bool):Al × Int :=
 if (AB N).2≠0 then (zA,(AB N).2) else
 if LI (AB N).1=false then (zA,3) else
 if (EB A).getD (Fr A first) 0=1 then Gf N A (EB A) (Fr A first) ((RC 0 (AB N).1).map fun k=>min k 0) else
 if (D5 (AB N).1:Int)≠(EB A).getD (Fr A first) 0 then (zA,4) else
 Gf N A (EB A) (Fr A first) (RC 0 (AB N).1)
theorem Aca:∀ (o:Nat) (l:List Int),(RC o l).length=l.length
 | _,[]=>rfl
 | o,k::ks=>by rw [RC]; split<;>simp [Aca]
theorem ZU:∀ (o:Nat) (l:List Int),∀ z ∈ RC o l,z<(o+D5 l:Nat) ∧ -1≤z
 | _,[],z,h=>by simp [RC] at h
 | o,k::ks,z,h=>by
   rw [RC] at h
   have ho:D5 (k::ks)=(if k=1 then 1 else 0)+D5 ks:=by
    unfold D5; rw [List.filter_cons]; split<;>rename_i hk<;>simp at hk<;>simp [hk]; omega
   split at h
   ·rename_i hk
    rw [ho,if_pos hk];rcases List.mem_cons.1 h with rfl|h
    ·omega
    ·have:=ZU (o+1) ks z h; omega
   ·rename_i hk
    rw [ho,if_neg hk];rcases List.mem_cons.1 h with rfl|h
    ·omega
    ·have:=ZU o ks z h; omega
theorem Agt {l:List Int} {i:Nat} {k:Int} (h:l[i]? = some k):D5 (l.take (i+1))=D5 (l.take i)+if k=1 then 1 else 0:=by
 unfold D5;rw [BO h,List.filter_append,List.length_append,List.filter_cons];split<;>rename_i hk<;>simp at hk<;>simp [hk]
theorem ZV:∀ (l:List Int) (o i:Nat) (k:Int),l[i]? = some k→(RC o l)[i]? = some (if k=1 then ((o+D5 (l.take i):Nat):Int) else -1)
 | [],o,i,k,h=>by simp at h
 | x::xs,o,0,k,h=>by
   simp only [List.getElem?_cons_zero,Option.some.injEq] at h;subst h;rw [RC];split<;>simp [D5]
 | x::xs,o,i+1,k,h=>by
   simp only [List.getElem?_cons_succ] at h
   have ho:D5 ((x::xs).take (i+1))=(if x=1 then 1 else 0)+D5 (xs.take i):=by
    unfold D5; rw [List.take_succ_cons,List.filter_cons]; split<;>rename_i hk<;>simp at hk<;>simp [hk]; omega
   rw [RC];split
   ·rename_i hk
    rw [List.getElem?_cons_succ,ZV xs (o+1) i k h,ho,if_pos hk,Nat.add_assoc]
   ·rename_i hk
    rw [List.getElem?_cons_succ,ZV xs o i k h,ho,if_neg hk,Nat.zero_add]
end Go.Proofs.YtjcolpcfcdkckaaGreat
