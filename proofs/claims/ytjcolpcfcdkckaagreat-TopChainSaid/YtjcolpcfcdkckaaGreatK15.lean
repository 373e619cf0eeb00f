/- Arrays put together: the program's Catenate. -/
import Derived.Test.YtjcolpcfcdkckaaGreatK11
import Derived.Test.YtjcolpcfcdkckaaGreatK14
set_option maxHeartbeats 1000000
namespace Go.Proofs.YtjcolpcfcdkckaaGreat
set_option linter.unusedVariables false
open Go.RowKit
def Lz (s t:List Int) (x:Nat) (z:Int):List Int × Int:=if HN s x=HN t x then (if (Co (s.set x z)).2=0 then (s.set x z,0) else ([],(Co (s.set x z)).2)) else ([],4)
theorem Ah6 (s t:List Int) (cs ds:List Ah) (al bl:Bool) (x n1 n2:Nat) (hs:s[x]? = some (n1:Int)) (ht:t[x]? = some (n2:Int)) (hl:s.length=t.length) (h6:s.length≤6) (b1:n1≤2048) (b2:n2≤2048) :
 Ae Tryz.prog 55 [.agg (PK s cs al t ds bl x)] (.tup [.sl 1 (Ab .i64 (Lz s t x ((n1:Int)+n2)).1),.lit (.int .i64 (Lz s t x ((n1:Int)+n2)).2)]):=by
 have hB:A2=1000000000:=rfl;have ls:=Ac .i64 s;have lt:=Ac .i64 t;have lsx:=(List.getElem?_eq_some_iff.1 hs).1;have hsx:(Ab .i64 s)[((x:Nat):Int).toNat]? = some [.lit (.int .i64 (n1:Int))]:=Az hs;have htx:(Ab .i64 t)[((x:Nat):Int).toNat]? = some [.lit (.int .i64 (n2:Int))]:=Az ht;have c1:=Abm s x ((n1:Int)+n2) lsx (by omega);have c2:=FT (s.set x ((n1:Int)+n2));have hw:=Akj hl lsx;unfold Lz;generalize s.set x ((n1:Int)+n2)=u at c1 c2 ⊢;refine Aa Lv fun C hC => ?_;unfold PK;refine Af ?_;refine Ai [1,12,13,2,3] [0] (fun k:Nat=>[(14,.lit (.int .i64 k))]) (fun k=>[]) 1 (fun k=>k≤s.length∧∀ j,j<k→j≠x→s[j]? = t[j]?) (fun k=>s.length - k) 0 ⟨Nat.zero_le _,fun j hj=>absurd hj (Nat.not_lt_zero _)⟩ ?_;rintro k ⟨hk,hE⟩;dsimp only [List.cons_append,List.nil_append];by_cases hkl:k<s.length
 ·obtain ⟨a,ha⟩:∃ a,s[k]? = some a:=⟨_,List.getElem?_eq_getElem hkl⟩
  obtain ⟨b,hb⟩:∃ b,t[k]? = some b:=⟨_,List.getElem?_eq_getElem (by omega)⟩;have hak:(Ab .i64 s)[((k:Nat):Int).toNat]? = some [.lit (.int .i64 a)]:=Az ha;have hbk:(Ab .i64 t)[((k:Nat):Int).toNat]? = some [.lit (.int .i64 b)]:=Az hb;by_cases hkx:k=x
  ·have hkx':(k:Int)=x:=by omega
   clear c1 c2;refine Af ?_;refine ⟨k+1,by omega,⟨by omega,fun j hj hjx=>hE j (by omega) hjx⟩,BI hC.m [] ?_⟩;rfl
  ·have hkx':¬ (k:Int)=x:=by omega
   by_cases hab:a=b
   ·clear c1 c2
    refine Af ?_;refine ⟨k+1,by omega,⟨by omega,fun j hj hjx => ?_⟩,BI hC.m [] ?_⟩
    ·by_cases hjk:j=k
     ·subst hjk; rw [ha,hb,hab]
     ·exact hE j (by omega) hjx
    ·rfl
   ·have hne:¬ HN s x=HN t x:=fun h=>by
     have:=hw.1 h k hkx
     rw [ha,hb] at this;exact hab (Option.some.inj this)
    rw [if_neg hne];clear c1 c2;refine Af ?_;exact Am
 ·have he:HN s x=HN t x:=hw.2 fun j hj=>by
   by_cases hjl:j<s.length
   ·exact hE j (by omega) hj
   ·rw [List.getElem?_eq_none (by omega),List.getElem?_eq_none (by omega)]
  rw [if_pos he];by_cases h0:(Co u).2=0
  ·rw [if_pos h0]
   rw [h0] at c2;refine Af ?_;exact Am
  ·rw [if_neg h0]
   generalize (Co u).2=e at c2 h0 ⊢;generalize (Co u).1=v at c2;refine Af ?_;exact Am
structure CI (A:Al):Prop where
 ok:okA A
 e:(Co A.shape).2=0
 c:(Co A.shape).1=A.cells.length
theorem CI.small {A:Al} (h:CI A):Small A.shape:=BG h.e
theorem CI.len {A:Al} (h:CI A):A.shape.length≤6:=CF h.e
theorem CI.prod {A:Al} (h:CI A):AA A.shape=A.cells.length:=by rw [← E7 h.e]; exact h.c
theorem CI.cells {A:Al} (h:CI A):A.cells.length≤2048:=by have:=(E6 A.shape).2; rw [h.c] at this; omega
theorem PL:∀ (l:List Int) (o:Int),0<o→(∀ z ∈ l,0<z)→o * AA l≤2048→Bm l o=o * AA l
 | [],o,_,_,_=>by simp [Bm,AA]
 | z::l,o,ho,hp,h=>by
   have hz:=hp z (by simp);have hl:=Di l (fun y hy=>hp y (by simp [hy]));simp only [AA] at h ⊢;rw [← Int.mul_assoc] at h ⊢
   have h1:o * z≤o * z * AA l:=by
    have:=Int.mul_le_mul_of_nonneg_left (show (1:Int)≤AA l by omega) (Int.le_of_lt (Int.mul_pos ho hz))
    rwa [Int.mul_one] at this
   simp only [Bm];rw [if_neg (by omega)];exact PL l (o * z) (Int.mul_pos ho hz) (fun y hy=>hp y (by simp [hy])) h
theorem Hx {s:List Int} {x:Nat} {z:Int} (h:s[x]? = some z):s=s.take x++z::s.drop (x+1):=by
 have:=(List.getElem?_eq_some_iff.1 h)
 obtain ⟨hx,e⟩:=this;rw [← e,← List.drop_eq_getElem_cons hx,List.take_append_drop]
def Dl (u:List Int) (x:Nat):Nat:=(Bm (u.take x) 1).toNat
def BL (u:List Int) (x:Nat):Nat:=(Bm (u.drop (x+1)) 1).toNat
theorem Small.mem {s t:List Int} (h:Small s) (ht:∀ z ∈ t,z ∈ s):Small t:=fun z hz=>h z (ht z hz)
theorem Abw {u:List Int} (x:Nat) (hu:Small u):Bm (u.take x) 1=(Dl u x:Nat)∧Dl u x≤2048∧Bm (u.drop (x+1)) 1=(BL u x:Nat)∧BL u x≤2048:=by
 have h1:=D1 (u.take x) 1 (by omega) (by omega) (hu.mem fun z hz=>List.mem_of_mem_take hz);have h2:=D1 (u.drop (x+1)) 1 (by omega) (by omega) (hu.mem fun z hz=>List.mem_of_mem_drop hz);unfold Dl BL;omega
theorem geo {u:List Int} {x n:Nat} (h:(Co u).2=0) (hz:u[x]? = some (n:Int)) :
 ((∀ z ∈ u,0<z)∧AA (u.take x)=(Dl u x:Nat)∧AA (u.drop (x+1))=(BL u x:Nat)∧(Co u).1=((Dl u x * (n * BL u x):Nat):Int)) ∨
   ((0:Int) ∈ u∧(Co u).1=0∧(Dl u x=0∨n=0∨BL u x=0)):=by
 have hs:=BG h;have hsp:=Hx hz;have hp:=E7 h;have hle:=E6 u;by_cases h0:(0:Int) ∈ u
 ·refine .inr ⟨h0,by rw [hp,JJ h0],?_⟩
  rw [hsp,List.mem_append,List.mem_cons] at h0;rcases h0 with h0|h0|h0
  ·left; unfold Dl; rw [JM _ _ (hs.mem fun z hz=>List.mem_of_mem_take hz) h0]; rfl
  ·right; left; omega
  ·right; right; unfold BL; rw [JM _ _ (hs.mem fun z hz=>List.mem_of_mem_drop hz) h0]; rfl
 ·have hpos:∀ z ∈ u,0<z:=fun z hz=>by
   have:=(hs z hz).1
   rcases Int.lt_or_eq_of_le this with h1|h1
   ·exact h1
   ·subst h1; exact absurd hz h0
  have p1:=Di (u.take x) (fun z hz=>hpos z (List.mem_of_mem_take hz));have p2:=Di (u.drop (x+1)) (fun z hz=>hpos z (List.mem_of_mem_drop hz));have pn:0<(n:Int):=hpos _ (List.mem_of_getElem? hz)
  have e:AA u=AA (u.take x) * (n * AA (u.drop (x+1))):=by
   conv=>lhs; rw [hsp]
   rw [Cq,Cy]
  have l1:AA (u.take x)≤2048:=by
   have h1:1≤(n:Int) * AA (u.drop (x+1)):=Int.mul_pos pn p2
   have:=Int.mul_le_mul_of_nonneg_left h1 (Int.le_of_lt p1)
   rw [Int.mul_one] at this; omega
  have l2:AA (u.drop (x+1))≤2048:=by
   have h1:1 * AA (u.drop (x+1))≤(n:Int) * AA (u.drop (x+1)):=Int.mul_le_mul_of_nonneg_right (by omega) (Int.le_of_lt p2);have h2:=Int.mul_pos pn p2;have h3:1 * ((n:Int) * AA (u.drop (x+1)))≤AA (u.take x) * (n * AA (u.drop (x+1))):=Int.mul_le_mul_of_nonneg_right (by omega) (Int.le_of_lt h2);omega
  have c1:=PL (u.take x) 1 (by omega) (fun z hz=>hpos z (List.mem_of_mem_take hz)) (by omega);have c2:=PL (u.drop (x+1)) 1 (by omega) (fun z hz=>hpos z (List.mem_of_mem_drop hz)) (by omega);have a:=Abw x hs;refine .inl ⟨hpos,by omega,by omega,?_⟩;rw [hp,e,Int.natCast_mul,Int.natCast_mul];rw [show AA (u.take x)=(Dl u x:Nat) from by omega,show AA (u.drop (x+1))=(BL u x:Nat) from by omega]
theorem Xq {A B:Al} (hA:CI A) (hB:CI B) {n x:Nat} (hn:n=IM A B) (hx:x<n) {s:List Int} {al:Bool} (h:JR A.shape B.shape n x=some (s,al)) :
 s.length=n∧Small s∧(al=true→A.shape=[]∧A.cells.length=1)∧(al=false→A.shape≠[]∧AA s=A.cells.length):=by
 have hn1:1≤n:=by rw [hn]; unfold IM; omega
 have hone:Small [1]:=fun z hz=>by simp at hz; omega
 unfold JR at h;split at h
 ·rename_i h1
  simp only [Option.some.injEq,Prod.mk.injEq] at h;obtain ⟨rfl,rfl⟩:=h;refine ⟨h1,hA.small,fun h=>(by cases h),fun _=>⟨fun h => ?_,hA.prod⟩⟩;rw [h] at h1; simp at h1; omega
 ·split at h
  ·rename_i h1 h2
   have hc1:A.cells.length=1:=by
    have:=hA.prod
    rw [h2] at this;simp only [AA] at this; omega
   split at h
   ·rename_i h3
    simp only [Option.some.injEq,Prod.mk.injEq] at h;obtain ⟨rfl,rfl⟩:=h;refine ⟨?_,hone,fun _=>⟨h2,hc1⟩,fun h=>by cases h⟩;rw [hn]; unfold IM; rw [h2,h3]; rfl
   ·simp only [Option.some.injEq,Prod.mk.injEq] at h
    obtain ⟨rfl,rfl⟩:=h;refine ⟨?_,fun z hz => ?_,fun _=>⟨h2,hc1⟩,fun h=>by cases h⟩
    ·rename_i h3
     have:B.shape.length≠0:=fun e=>h3 (List.eq_nil_of_length_eq_zero e)
     rw [List.length_set,hn]; unfold IM; rw [h2]; simp; omega
    ·rcases List.mem_or_eq_of_mem_set hz with h|h
     ·exact hB.small z h
     ·subst h; omega
  ·split at h
   ·rename_i h1 h2 h3
    simp only [Option.some.injEq,Prod.mk.injEq] at h;obtain ⟨rfl,rfl⟩:=h;refine ⟨by simp; omega,fun z hz => ?_,fun h=>(by cases h),fun _=>⟨h2,?_⟩⟩
    ·rw [List.mem_append,List.mem_cons] at hz
     rcases hz with hz|hz|hz
     ·exact hA.small z (List.mem_of_mem_take hz)
     ·subst hz; omega
     ·exact hA.small z (List.mem_of_mem_drop hz)
    ·rw [Cq,Cy,Int.one_mul,← Cq,List.take_append_drop,hA.prod]
   ·cases h
def Ey (A B:Al) (first:Bool):Al × Int :=
 match JR A.shape B.shape (IM A B) (FU A B first),JR B.shape A.shape (IM A B) (FU A B first) with
 | some (s,al),some (t,bl) =>
   if (Lz s t (FU A B first) (s.getD (FU A B first) 0+t.getD (FU A B first) 0)).2≠0 then (.mk 0 [] [],(Lz s t (FU A B first) (s.getD (FU A B first) 0+t.getD (FU A B first) 0)).2)
   else (.mk (A.s ||| B.s) (s.set (FU A B first) (s.getD (FU A B first) 0+t.getD (FU A B first) 0))
    (IE ((s.getD (FU A B first) 0).toNat * BL s (FU A B first)) ((t.getD (FU A B first) 0).toNat * BL s (FU A B first)) al A.cells bl B.cells
     (Dl s (FU A B first) * ((s.getD (FU A B first) 0).toNat * BL s (FU A B first)+(t.getD (FU A B first) 0).toNat * BL s (FU A B first)))),0)
 | _,_=>(.mk 0 [] [],5)
structure Cat (A B:Al) (first:Bool) (s t:List Int) (al bl:Bool) (x n1 n2:Nat) (u:List Int):Prop where
 hx:x=FU A B first
 w1:JR A.shape B.shape (IM A B) x=some (s,al)
 w2:JR B.shape A.shape (IM A B) x=some (t,bl)
 sx:s[x]? = some (n1:Int)
 tx:t[x]? = some (n2:Int)
 ls:s.length=IM A B
 lt:t.length=IM A B
 l6:IM A B≤6
 ss:Small s
 st:Small t
 hu:u=s.set x ((n1:Int)+n2)
 al1:al=true→A.shape=[]∧A.cells.length=1
 al0:al=false→A.shape≠[]∧AA s=A.cells.length
 bl1:bl=true→B.shape=[]∧B.cells.length=1
 bl0:bl=false→B.shape≠[]∧AA t=B.cells.length
theorem Xr {A B:Al} (hA:CI A) (hB:CI B) (first:Bool) :
 (Ey A B first=(.mk 0 [] [],5)∧(JR A.shape B.shape (IM A B) (FU A B first)=none∨JR B.shape A.shape (IM A B) (FU A B first)=none)) ∨
  ∃ s t al bl n1 n2 u,Cat A B first s t al bl (FU A B first) n1 n2 u∧n1≤2048∧n2≤2048∧(
    (HN s (FU A B first)≠HN t (FU A B first)∧Ey A B first=(.mk 0 [] [],4)) ∨
     (HN s (FU A B first)=HN t (FU A B first)∧(Co u).2≠0∧Ey A B first=(.mk 0 [] [],(Co u).2)) ∨
      (HN s (FU A B first)=HN t (FU A B first)∧(Co u).2=0∧Ey A B first=(.mk (A.s ||| B.s) u (IE (n1 * BL u (FU A B first)) (n2 * BL u (FU A B first)) al A.cells bl B.cells (Dl u (FU A B first) * (n1 * BL u (FU A B first)+n2 * BL u (FU A B first)))),0))):=by
 have hl1:=hA.len;have hl2:=hB.len;have hx:FU A B first<IM A B:=by unfold FU IM; split<;>omega
 have h6:IM A B≤6:=by unfold IM; omega
 unfold Ey;cases h1:JR A.shape B.shape (IM A B) (FU A B first) with
 | none=>exact .inl ⟨rfl,.inl rfl⟩
 | some p =>
   cases h2:JR B.shape A.shape (IM A B) (FU A B first) with
   | none=>obtain ⟨s,al⟩:=p; exact .inl ⟨rfl,.inr rfl⟩
   | some q =>
     obtain ⟨s,al⟩:=p;obtain ⟨t,bl⟩:=q;right;obtain ⟨f1,f2,f3,f4⟩:=Xq hA hB rfl hx h1;obtain ⟨g1,g2,g3,g4⟩:=Xq hB hA (Abv A B) hx h2;generalize hxe:FU A B first=x at *
     obtain ⟨a,ha⟩:∃ a,s[x]? = some a:=⟨_,List.getElem?_eq_getElem (by omega)⟩;obtain ⟨b,hb⟩:∃ b,t[x]? = some b:=⟨_,List.getElem?_eq_getElem (by omega)⟩;have a1:=f2 a (List.mem_of_getElem? ha);have b1:=g2 b (List.mem_of_getElem? hb);have da:s.getD x 0=((a.toNat:Nat):Int):=by rw [List.getD_eq_getElem?_getD,ha]; simp; omega
     have db:t.getD x 0=((b.toNat:Nat):Int):=by rw [List.getD_eq_getElem?_getD,hb]; simp; omega
     simp only [da,db,Int.toNat_natCast];have ha':s[x]? = some ((a.toNat:Nat):Int):=by rw [ha]; congr 1; omega
     have hb':t[x]? = some ((b.toNat:Nat):Int):=by rw [hb]; congr 1; omega
     generalize hn1:a.toNat=n1 at *;generalize hn2:b.toNat=n2 at *;have hb1:BL (s.set x ((n1:Int)+n2)) x=BL s x:=by unfold BL; rw [List.drop_set_of_lt (Nat.lt_succ_self x)]
     have ha1:Dl (s.set x ((n1:Int)+n2)) x=Dl s x:=by unfold Dl; rw [List.take_set_of_le (Nat.le_refl x)]
     refine ⟨s,t,al,bl,n1,n2,s.set x ((n1:Int)+n2),⟨hxe.symm,h1,h2,ha',hb',f1,g1,h6,f2,g2,rfl,f3,f4,g3,g4⟩,by omega,by omega,?_⟩;rw [hb1,ha1];unfold Lz;by_cases hw:HN s x=HN t x
     ·right
      by_cases h0:(Co (s.set x ((n1:Int)+n2))).2=0
      ·right
       exact ⟨hw,h0,by simp [hw,h0]⟩
      ·left
       exact ⟨hw,h0,by simp [hw,h0]⟩
     ·left
      exact ⟨hw,by simp [hw]⟩
theorem Cat.sizes {A B:Al} {first:Bool} {s t:List Int} {al bl:Bool} {x n1 n2:Nat} {u:List Int} (K:Cat A B first s t al bl x n1 n2 u) (hw:HN s x=HN t x) (hu:(Co u).2=0) :
 u[x]? = some ((n1+n2:Nat):Int)∧(Co u).1=((Dl u x * (n1 * BL u x+n2 * BL u x):Nat):Int)∧(al=false→Dl u x * (n1 * BL u x)≤A.cells.length)∧(bl=false→Dl u x * (n2 * BL u x)≤B.cells.length) ∧
   u.take x=s.take x∧u.drop (x+1)=s.drop (x+1)∧t.take x=s.take x∧t.drop (x+1)=s.drop (x+1):=by
 have hxs:=(List.getElem?_eq_some_iff.1 K.sx).1;have hxt:=(List.getElem?_eq_some_iff.1 K.tx).1;have hux:u[x]? = some ((n1+n2:Nat):Int):=by rw [K.hu,List.getElem?_set_self hxs]; simp
 have hut:u.take x=s.take x:=by rw [K.hu,List.take_set_of_le (Nat.le_refl x)]
 have hud:u.drop (x+1)=s.drop (x+1):=by rw [K.hu,List.drop_set_of_lt (Nat.lt_succ_self x)]
 have hwl:t.take x=s.take x∧t.drop (x+1)=s.drop (x+1):=by
  unfold HN at hw
  have:=List.append_inj hw (by simp; omega)
  exact ⟨this.1.symm,this.2.symm⟩
 have hs:=Hx K.sx;have ht:=Hx K.tx
 have es:AA s=AA (u.take x) * (n1 * AA (u.drop (x+1))):=by
  conv=>lhs; rw [hs]
  rw [Cq,Cy,hut,hud]
 have et:AA t=AA (u.take x) * (n2 * AA (u.drop (x+1))):=by
  conv=>lhs; rw [ht]
  rw [Cq,Cy,hut,hud,hwl.1,hwl.2]
 refine ⟨hux,?_,fun h => ?_,fun h => ?_,hut,hud,hwl.1,hwl.2⟩
 ·rcases geo hu hux with ⟨_,_,_,h⟩|⟨_,h,hz⟩
  ·rw [h,Nat.add_mul]
  ·rw [h]
   rcases hz with hz|hz|hz
   ·rw [hz,Nat.zero_mul]; rfl
   ·have h1:n1=0:=by omega
    have h2:n2=0:=by omega
    rw [h1,h2]; simp
   ·rw [hz]; simp
 ·have hp:=(K.al0 h).2
  rcases geo hu hux with ⟨_,g1,g2,_⟩|⟨_,_,hz⟩
  ·rw [es,g1,g2,← Int.natCast_mul,← Int.natCast_mul] at hp
   omega
  ·rcases hz with hz|hz|hz
   ·rw [hz,Nat.zero_mul]; exact Nat.zero_le _
   ·have h1:n1=0:=by omega
    rw [h1]; simp
   ·rw [hz]; simp
 ·have hp:=(K.bl0 h).2
  rcases geo hu hux with ⟨_,g1,g2,_⟩|⟨_,_,hz⟩
  ·rw [et,g1,g2,← Int.natCast_mul,← Int.natCast_mul] at hp
   omega
  ·rcases hz with hz|hz|hz
   ·rw [hz,Nat.zero_mul]; exact Nat.zero_le _
   ·have h1:n2=0:=by omega
    rw [h1]; simp
   ·rw [hz]; simp
theorem Alx (A B:Al) (first:Bool) (hA:CI A) (hB:CI B):Ae Tryz.prog 18 [.agg (Ao A),.agg (Ao B),.lit (.bool first)] (.tup [.agg (Ao (Ey A B first).1),.lit (.int .i64 (Ey A B first).2)]):=by
 have c1:=Am7 A B first hA.len hB.len
 rcases Xr hA hB first with ⟨he,hn⟩|⟨s,t,al,bl,n1,n2,u,K,b1,b2,hr⟩
 ·have c1':Ae Tryz.prog 54 [.agg (Ao A),.agg (Ao B),.lit (.bool first)] (.tup [Ah4,.lit (.int .i64 5)]):=by
   rcases hn with h|h
   ·rw [h] at c1; exact c1
   ·rw [h] at c1
    split at c1
    ·rename_i h1 h2; cases h2
    ·exact c1
  rw [he];unfold Ah4 at c1';clear c1;refine AE Dy Dz fun C hC => ?_;refine Af ?_;intro ds;refine Af ?_;exact Am
 ·rw [K.w1,K.w2] at c1
  simp only at c1;generalize hxe:FU A B first=x at *
  have c2:=Ah6 s t A.cells B.cells al bl x n1 n2 K.sx K.tx (by rw [K.ls,K.lt]) (by rw [K.ls]; exact K.l6) b1 b2;unfold Lz at c2;rw [← K.hu] at c2;rcases hr with ⟨hw,he⟩|⟨hw,h0,he⟩|⟨hw,h0,he⟩
  ·rw [he]
   rw [if_neg hw] at c2;unfold PK at c1 c2;refine AE Dy Dz fun C hC => ?_;refine Af ?_;intro ds;refine Af ?_;exact Am
  ·rw [he]
   rw [if_pos hw,if_neg h0] at c2;unfold PK at c1 c2;generalize (Co u).2=e at c2 h0 ⊢;refine AE Dy Dz fun C hC => ?_;refine Af ?_;intro ds;refine Af ?_;exact Am
  ·rw [he]
   rw [if_pos hw,if_pos h0] at c2;obtain ⟨z1,z2,z3,z4,z5,z6,z7,z8⟩:=K.sizes hw h0;obtain ⟨a1,a2,a3,a4⟩:=Abw x (BG h0);have k1:=hA.cells;have k2:=hB.cells;have c3:=Akt s t u A.cells B.cells al bl x n1 n2 (Dl u x) (BL u x) K.sx K.tx h0 z1 a1 a3 a2 a4 b1 b2 (fun h=>by have:=(K.al1 h).2; omega) (fun h=>by have:=(K.bl1 h).2; omega) z3 z4 (by omega) (by omega);have c4:=FF A.s B.s hA.ok.parts.1 hB.ok.parts.1;unfold PK at c1 c2 c3;generalize IE (n1 * BL u x) (n2 * BL u x) al A.cells bl B.cells (Dl u x * (n1 * BL u x+n2 * BL u x))=R at c3 ⊢;refine AE Dy Dz fun C hC => ?_;refine Af ?_;intro ds;refine Af ?_;exact Am
theorem Al4 {s:List Int} (h6:s.length≤6) (hs:Small s) (hp:AA s≤2048):(Co s).2=0:=by
 unfold Co;rw [if_neg (by omega),if_neg (by simp only [List.any_eq_true,decide_eq_true_eq,not_exists,not_and]; exact fun z hz=>by have:=(hs z hz).1; omega),if_neg (by simp only [List.any_eq_true,decide_eq_true_eq,not_exists,not_and]; exact fun z hz=>by have:=(hs z hz).2; omega)];split
 ·rfl
 ·rename_i h
  have hpos:∀ z ∈ s,0<z:=fun z hz=>by
   have h1:=(hs z hz).1;rcases Int.lt_or_eq_of_le h1 with h2|h2
   ·exact h2
   ·subst h2
    exact absurd (List.any_eq_true.2 ⟨0,hz,by simp⟩) h
  have e:=PL s 1 (by omega) hpos (by omega)
  have:=Di s hpos
  rw [if_neg (by omega)]
theorem Ah7 (s t:List Int):B5 s t=decide (s=t):=by unfold B5; rw [Bool.eq_iff_iff]; simp
theorem Abx {n1 n2:Nat} {a1:Bool} {c1:List Ah} {a2:Bool} {c2:List Ah} (e1:a1=true→0<c1.length) (e2:a2=true→0<c2.length) (A:Nat) (h1:a1=false→A * n1≤c1.length) (h2:a2=false→A * n2≤c2.length):∀ i,i≤A→∀ c ∈ IE n1 n2 a1 c1 a2 c2 (i * (n1+n2)),c ∈ c1∨c ∈ c2
 | 0,_,c,hc=>by rw [Nat.zero_mul] at hc; simp [IE] at hc
 | i+1,hi,c,hc=>by
   have hrow:∀ (al:Bool) (cs:List Ah) (n:Nat),(al=true→0<cs.length)→∀ c ∈ MT al cs i n,c ∈ cs:=fun al cs n he c hc=>by
    unfold MT at hc;split at hc
    ·rename_i h
     have:=he h
     rw [List.mem_replicate] at hc;rw [hc.2,List.getD_eq_getElem?_getD,List.getElem?_eq_getElem this];exact List.getElem_mem _
    ·exact List.mem_of_mem_drop (List.mem_of_mem_take hc)
   have b1:a1=false→i * n1+n1≤c1.length:=fun h=>by
    have:=h1 h
    have h3:(i+1) * n1≤A * n1:=Nat.mul_le_mul_right _ hi;rw [Nat.add_mul,Nat.one_mul] at h3; omega
   have b2:a2=false→i * n2+n2≤c2.length:=fun h=>by
    have:=h2 h
    have h3:(i+1) * n2≤A * n2:=Nat.mul_le_mul_right _ hi;rw [Nat.add_mul,Nat.one_mul] at h3; omega
   rw [← Xl n1 n2 a1 c1 a2 c2 i b1 b2,List.mem_append,List.mem_append] at hc;rcases hc with (hc|hc)|hc
   ·exact Abx e1 e2 A h1 h2 i (by omega) c hc
   ·exact .inl (hrow a1 c1 n1 e1 c hc)
   ·exact .inr (hrow a2 c2 n2 e2 c hc)
theorem AfV {A B:Al} (hA:CI A) (hB:CI B) (first:Bool) :
 ((Ey A B first).2≠0∧(Ey A B first).1=.mk 0 [] []) ∨
   ((Ey A B first).2=0∧(Ey A B first).1.s=A.s ||| B.s∧(Co (Ey A B first).1.shape).2=0∧(Co (Ey A B first).1.shape).1=(Ey A B first).1.cells.length∧(Ey A B first).1.shape.length≤6∧∀ c ∈ (Ey A B first).1.cells,c ∈ A.cells∨c ∈ B.cells):=by
 rcases Xr hA hB first with ⟨he,hn⟩|⟨s,t,al,bl,n1,n2,u,K,b1,b2,hr⟩
 ·left; rw [he]; exact ⟨by simp,rfl⟩
 ·rcases hr with ⟨hw,he⟩|⟨hw,h0,he⟩|⟨hw,h0,he⟩
  ·left; rw [he]; exact ⟨by simp,rfl⟩
  ·left; rw [he]; exact ⟨h0,rfl⟩
  ·right
   rw [he];obtain ⟨z1,z2,z3,z4,z5,z6,z7,z8⟩:=K.sizes hw h0;refine ⟨rfl,rfl,h0,?_,?_,?_⟩
   ·simp only [Al.shape,Al.cells,PI]; exact z2
   ·simp only [Al.shape]; exact CF h0
   ·simp only [Al.cells]
    exact Abx (fun h=>by have:=(K.al1 h).2; omega) (fun h=>by have:=(K.bl1 h).2; omega) _ z3 z4 _ (Nat.le_refl _)
theorem U5:arrOK (.mk 0 [] []):=⟨by omega,by simp,by simp [reachBytes],by simp [reachBytes],trivial⟩
theorem Y6 {z:Int} (h0 : -9223372036854775808≤z) (h1:z≤9223372036854775807):(Lit.int .i64 z).wf=true:=by
 have e1:IntKind.i64.min = -9223372036854775808:=by decide
 have e2:IntKind.i64.max=9223372036854775807:=by decide
 simp only [Lit.wf,Bool.and_eq_true,decide_eq_true_eq];omega
theorem Xs {A B:Al} (hA:CI A) (hB:CI B) (oA:arrOK A) (oB:arrOK B) (first:Bool):arrOK (Ey A B first).1:=by
 rcases AfV hA hB first with ⟨_,h1⟩|⟨_,h1,h2,h3,h4,h5⟩
 ·rw [h1]; exact U5
 ·have hle:=(E6 (Ey A B first).1.shape).2
  generalize Ey A B first=R at *
  obtain ⟨⟨s,sh,cs⟩,e⟩:=R;simp only [Al.s,Al.shape,Al.cells] at *;have hsm:=BG h2;refine ⟨by rw [h1]; exact C6 _ _ oA.parts.1 oB.parts.1,?_⟩;have hr:reachBytes=140737488351232:=rfl;refine ⟨fun z hz=>Y6 (by have:=(hsm z hz).1; omega) (by have:=(hsm z hz).2; omega),by omega,by omega,?_⟩
  exact Bw.2 fun c hc=>by
   rcases h5 c hc with h|h
   ·exact Bw.1 oA.parts.2.2.2 c h
   ·exact Bw.1 oB.parts.2.2.2 c h
theorem Aku (z:Int) (s:Nat) (h0 : -9223372036854775808≤z) (h1:z≤9223372036854775807):Ae Tryz.prog 15 [.lit (.int .i64 z),CG s] (.agg (Ao (.mk s [] [BV z]))):=by
 have c1:=Aeu z h0 h1;refine Aa Kv fun C hC => ?_;refine Af ?_;exact Am
theorem Y7 (z:Int) (h:z.natAbs<2 ^ 64):okC (BV z):=by
 have:=Bh 64 z.natAbs h
 simp only [BV,okC,HH,Ky,A2,List.length_nil,List.length_cons];exact ⟨by omega,by omega,by omega,by omega,trivial⟩
theorem Akv {m:List Int} (h:AD m):∀ z ∈ m,(Lit.int .u32 z).wf=true:=fun z hz=>by
 have:=h z hz
 have e1:IntKind.u32.min=0:=by decide
 have e2:IntKind.u32.max=4294967295:=by decide
 simp only [Lit.wf,Bool.and_eq_true,decide_eq_true_eq];omega
theorem Akw (z:Int) (h:z.natAbs<2 ^ 64):cellOK (BV z):=by
 have:=Bh 64 z.natAbs h
 have hr:reachBytes=140737488351232:=by decide
 simp only [BV,cellOK,HH,FY,Dh,List.length_nil,List.length_cons];exact ⟨by omega,by decide,⟨Akv (Ar _),by simp; decide,by omega,by omega⟩,by decide,by omega,trivial⟩
section
variable {P:Program} {tt:List (Nat × AV)} {hh:Hp} {nn dd:Nat} {g:Option (Nat × Bool)} {l:List AG} {acc:List SD} {K:List SD→St→Prop}
end
def FL (A:Al) (s:List Int) (g:List Int→List Int):List Ah:=(List.range A.cells.length).map fun i:Nat=>A.cells.getD (idx A.shape (g (AQ s (i:Int)).2)).1.toNat AS
theorem JS (A:Al) (s:List Int) (g:List Int→List Int):(FL A s g).length=A.cells.length:=by simp [FL]
theorem L1 (A:Al) (s:List Int) (g:List Int→List Int) {i:Nat} (h:i<A.cells.length):(FL A s g)[i]? = some (A.cells.getD (idx A.shape (g (AQ s (i:Int)).2)).1.toNat AS):=by
 unfold FL; rw [List.getElem?_map,List.getElem?_range h]; rfl
theorem Ah8 (A:Al) (hA:okA A) (s:List Int) (f:FuncId) (g:List Int→List Int) (h1:(Co s).2=0) (h2:(Co s).1=A.cells.length) (hcl:A.cells.length≤2048)
 (hf:∀ i:Nat,i<A.cells.length→Dn Tryz.prog f [.own 0] [(0,some ⟨true,false,3,1,Ab .i64 (AQ s (i:Int)).2⟩)] 1 (.tup []) [(0,some ⟨true,false,3,1,Ab .i64 (g (AQ s (i:Int)).2)⟩)] 1)
 (hg:∀ i:Nat,i<A.cells.length→∃ k:Nat,k<A.cells.length∧idx A.shape (g (AQ s (i:Int)).2)=((k:Int),true)∧(g (AQ s (i:Int)).2).length≤6) :
 Ae Tryz.prog 60 [.agg (Ao A),.sl 1 (Ab .i64 s),.fn f [] []] (.agg (Ao (.mk A.s s (FL A s g)))):=by
 have hB:A2=1000000000:=rfl;have lcs:=AK A;have l6:=CF h1;have ls:=Ac .i64 s;obtain ⟨a1,a2,a3,a4⟩:=hA.parts;have c0:=CN (Ab .i64 s) (by omega);have hml:=JS A s g;have hat:=fun i (h:i<A.cells.length)=>L1 A s g h;generalize FL A s g=X at hml hat ⊢;refine Aa EE fun C hC => ?_;refine Af ?_
 refine Ai [1,2,3,6,19] [0,1] (fun i:Nat=>[(7,.own 2),(20,.lit (.int .i64 i))]) (fun i=>[(2,some ⟨true,false,43,7,(X.take i).map Av⟩)]) 3
  (fun i=>i≤A.cells.length) (fun i=>A.cells.length - i) 0 (Nat.zero_le _) ?_
 rintro i hi;dsimp only [List.cons_append,List.nil_append];by_cases hil:i<A.cells.length
 ·obtain ⟨k,hk,hidx,hgl⟩:=hg i hil
  have c1:=UU s i h1 (by omega) (by omega);have c2:=hf i hil;have c3:=Ja A.shape (g (AQ s (i:Int)).2) (by omega) a2;have hx:=hat i hil;rw [hidx] at hx c3;simp only [Int.toNat_natCast] at hx c3;obtain ⟨c,hc⟩:∃ c,A.cells[k]? = some c:=⟨_,List.getElem?_eq_getElem hk⟩;rw [List.getD_eq_getElem?_getD,hc,Option.getD_some] at hx;have hck:(A.cells.map Av)[((k:Nat):Int).toNat]? = some (Au c):=A9 hc;have hms:(X.take i).map Av++[Au c]=(X.take (i+1)).map Av:=by rw [BO hx]; simp [Bv]
  have hlm:((X.take i).map Av).length=i:=by simp; omega
  generalize g (AQ s (i:Int)).2=d' at c2 c3;generalize (AQ s (i:Int)).2=d at c1 c2;clear hat hf hg hx hidx;refine Af ?_;refine AH (BP ?_);refine Cw [] c1 ?_;refine BP ?_;refine Ak ⟨rfl,?_⟩;refine Af ?_;refine AH (BP ?_);refine Bn [(3,0)] c2 ?_;refine BP ?_;refine Ak ⟨rfl,?_⟩;refine Af ?_;exact ⟨i+1,by omega,by omega,BI hC.m [(2,5)] (by rw [← hms]; rfl)⟩
 ·rw [show X.take i=X from List.take_of_length_le (by omega)]
  refine Af ?_;exact Am
theorem Ah9 (A:Al) (hA:okA A) (s:List Int) (f:FuncId) (v1:AV) (g:List Int→List Int) (h1:(Co s).2=0) (h2:(Co s).1=A.cells.length) (hcl:A.cells.length≤2048)
 (hf:∀ i:Nat,i<A.cells.length→Dn Tryz.prog f [.own 0,.ep 1 [[v1]] 0 0] [(0,some ⟨true,false,3,1,Ab .i64 (AQ s (i:Int)).2⟩)] 1 (.tup []) [(0,some ⟨true,false,3,1,Ab .i64 (g (AQ s (i:Int)).2)⟩)] 1)
 (hg:∀ i:Nat,i<A.cells.length→∃ k:Nat,k<A.cells.length∧idx A.shape (g (AQ s (i:Int)).2)=((k:Int),true)∧(g (AQ s (i:Int)).2).length≤6) :
 Ae Tryz.prog 60 [.agg (Ao A),.sl 1 (Ab .i64 s),.fn f [] [.ep 1 [[v1]] 0 0]] (.agg (Ao (.mk A.s s (FL A s g)))):=by
 have hB:A2=1000000000:=rfl;have lcs:=AK A;have l6:=CF h1;have ls:=Ac .i64 s;obtain ⟨a1,a2,a3,a4⟩:=hA.parts;have c0:=CN (Ab .i64 s) (by omega);have hml:=JS A s g;have hat:=fun i (h:i<A.cells.length)=>L1 A s g h;generalize FL A s g=X at hml hat ⊢;refine Aa EE fun C hC => ?_;refine Af ?_
 refine Ai [1,2,3,6,19] [0,1] (fun i:Nat=>[(7,.own 2),(20,.lit (.int .i64 i))]) (fun i=>[(2,some ⟨true,false,43,7,(X.take i).map Av⟩)]) 3
  (fun i=>i≤A.cells.length) (fun i=>A.cells.length - i) 0 (Nat.zero_le _) ?_
 rintro i hi;dsimp only [List.cons_append,List.nil_append];by_cases hil:i<A.cells.length
 ·obtain ⟨k,hk,hidx,hgl⟩:=hg i hil
  have c1:=UU s i h1 (by omega) (by omega);have c2:=hf i hil;have c3:=Ja A.shape (g (AQ s (i:Int)).2) (by omega) a2;have hx:=hat i hil;rw [hidx] at hx c3;simp only [Int.toNat_natCast] at hx c3;obtain ⟨c,hc⟩:∃ c,A.cells[k]? = some c:=⟨_,List.getElem?_eq_getElem hk⟩;rw [List.getD_eq_getElem?_getD,hc,Option.getD_some] at hx;have hck:(A.cells.map Av)[((k:Nat):Int).toNat]? = some (Au c):=A9 hc;have hms:(X.take i).map Av++[Au c]=(X.take (i+1)).map Av:=by rw [BO hx]; simp [Bv]
  have hlm:((X.take i).map Av).length=i:=by simp; omega
  generalize g (AQ s (i:Int)).2=d' at c2 c3;generalize (AQ s (i:Int)).2=d at c1 c2;clear hat hf hg hx hidx;refine Af ?_;refine AH (BP ?_);refine Cw [] c1 ?_;refine BP ?_;refine Ak ⟨rfl,?_⟩;refine Af ?_;refine AH (BP ?_);refine Bn [(3,0)] c2 ?_;refine BP ?_;refine Ak ⟨rfl,?_⟩;refine Af ?_;exact ⟨i+1,by omega,by omega,BI hC.m [(2,5)] (by rw [← hms]; rfl)⟩
 ·rw [show X.take i=X from List.take_of_length_le (by omega)]
  refine Af ?_;exact Am
theorem Aia (A:Al) (hA:okA A) (s:List Int) (f:FuncId) (v1 v2:AV) (g:List Int→List Int) (h1:(Co s).2=0) (h2:(Co s).1=A.cells.length) (hcl:A.cells.length≤2048)
 (hf:∀ i:Nat,i<A.cells.length→Dn Tryz.prog f [.own 0,.ep 1 [[v1]] 0 0,.ep 1 [[v2]] 0 0] [(0,some ⟨true,false,3,1,Ab .i64 (AQ s (i:Int)).2⟩)] 1 (.tup []) [(0,some ⟨true,false,3,1,Ab .i64 (g (AQ s (i:Int)).2)⟩)] 1)
 (hg:∀ i:Nat,i<A.cells.length→∃ k:Nat,k<A.cells.length∧idx A.shape (g (AQ s (i:Int)).2)=((k:Int),true)∧(g (AQ s (i:Int)).2).length≤6) :
 Ae Tryz.prog 60 [.agg (Ao A),.sl 1 (Ab .i64 s),.fn f [] [.ep 1 [[v1]] 0 0,.ep 1 [[v2]] 0 0]] (.agg (Ao (.mk A.s s (FL A s g)))):=by
 have hB:A2=1000000000:=rfl;have lcs:=AK A;have l6:=CF h1;have ls:=Ac .i64 s;obtain ⟨a1,a2,a3,a4⟩:=hA.parts;have c0:=CN (Ab .i64 s) (by omega);have hml:=JS A s g;have hat:=fun i (h:i<A.cells.length)=>L1 A s g h;generalize FL A s g=X at hml hat ⊢;refine Aa EE fun C hC => ?_;refine Af ?_
 refine Ai [1,2,3,6,19] [0,1] (fun i:Nat=>[(7,.own 2),(20,.lit (.int .i64 i))]) (fun i=>[(2,some ⟨true,false,43,7,(X.take i).map Av⟩)]) 3
  (fun i=>i≤A.cells.length) (fun i=>A.cells.length - i) 0 (Nat.zero_le _) ?_
 rintro i hi;dsimp only [List.cons_append,List.nil_append];by_cases hil:i<A.cells.length
 ·obtain ⟨k,hk,hidx,hgl⟩:=hg i hil
  have c1:=UU s i h1 (by omega) (by omega);have c2:=hf i hil;have c3:=Ja A.shape (g (AQ s (i:Int)).2) (by omega) a2;have hx:=hat i hil;rw [hidx] at hx c3;simp only [Int.toNat_natCast] at hx c3;obtain ⟨c,hc⟩:∃ c,A.cells[k]? = some c:=⟨_,List.getElem?_eq_getElem hk⟩;rw [List.getD_eq_getElem?_getD,hc,Option.getD_some] at hx;have hck:(A.cells.map Av)[((k:Nat):Int).toNat]? = some (Au c):=A9 hc;have hms:(X.take i).map Av++[Au c]=(X.take (i+1)).map Av:=by rw [BO hx]; simp [Bv]
  have hlm:((X.take i).map Av).length=i:=by simp; omega
  generalize g (AQ s (i:Int)).2=d' at c2 c3;generalize (AQ s (i:Int)).2=d at c1 c2;clear hat hf hg hx hidx;refine Af ?_;refine AH (BP ?_);refine Cw [] c1 ?_;refine BP ?_;refine Ak ⟨rfl,?_⟩;refine Af ?_;refine AH (BP ?_);refine Bn [(3,0)] c2 ?_;refine BP ?_;refine Ak ⟨rfl,?_⟩;refine Af ?_;exact ⟨i+1,by omega,by omega,BI hC.m [(2,5)] (by rw [← hms]; rfl)⟩
 ·rw [show X.take i=X from List.take_of_length_le (by omega)]
  refine Af ?_;exact Am
theorem Aib (A:Al) (hA:okA A) (s:List Int) (f:FuncId) (v1 v2 v3:AV) (g:List Int→List Int) (h1:(Co s).2=0) (h2:(Co s).1=A.cells.length) (hcl:A.cells.length≤2048)
 (hf:∀ i:Nat,i<A.cells.length→Dn Tryz.prog f [.own 0,.ep 1 [[v1]] 0 0,.ep 1 [[v2]] 0 0,.ep 1 [[v3]] 0 0] [(0,some ⟨true,false,3,1,Ab .i64 (AQ s (i:Int)).2⟩)] 1 (.tup []) [(0,some ⟨true,false,3,1,Ab .i64 (g (AQ s (i:Int)).2)⟩)] 1)
 (hg:∀ i:Nat,i<A.cells.length→∃ k:Nat,k<A.cells.length∧idx A.shape (g (AQ s (i:Int)).2)=((k:Int),true)∧(g (AQ s (i:Int)).2).length≤6) :
 Ae Tryz.prog 60 [.agg (Ao A),.sl 1 (Ab .i64 s),.fn f [] [.ep 1 [[v1]] 0 0,.ep 1 [[v2]] 0 0,.ep 1 [[v3]] 0 0]] (.agg (Ao (.mk A.s s (FL A s g)))):=by
 have hB:A2=1000000000:=rfl;have lcs:=AK A;have l6:=CF h1;have ls:=Ac .i64 s;obtain ⟨a1,a2,a3,a4⟩:=hA.parts;have c0:=CN (Ab .i64 s) (by omega);have hml:=JS A s g;have hat:=fun i (h:i<A.cells.length)=>L1 A s g h;generalize FL A s g=X at hml hat ⊢;refine Aa EE fun C hC => ?_;refine Af ?_
 refine Ai [1,2,3,6,19] [0,1] (fun i:Nat=>[(7,.own 2),(20,.lit (.int .i64 i))]) (fun i=>[(2,some ⟨true,false,43,7,(X.take i).map Av⟩)]) 3
  (fun i=>i≤A.cells.length) (fun i=>A.cells.length - i) 0 (Nat.zero_le _) ?_
 rintro i hi;dsimp only [List.cons_append,List.nil_append];by_cases hil:i<A.cells.length
 ·obtain ⟨k,hk,hidx,hgl⟩:=hg i hil
  have c1:=UU s i h1 (by omega) (by omega);have c2:=hf i hil;have c3:=Ja A.shape (g (AQ s (i:Int)).2) (by omega) a2;have hx:=hat i hil;rw [hidx] at hx c3;simp only [Int.toNat_natCast] at hx c3;obtain ⟨c,hc⟩:∃ c,A.cells[k]? = some c:=⟨_,List.getElem?_eq_getElem hk⟩;rw [List.getD_eq_getElem?_getD,hc,Option.getD_some] at hx;have hck:(A.cells.map Av)[((k:Nat):Int).toNat]? = some (Au c):=A9 hc;have hms:(X.take i).map Av++[Au c]=(X.take (i+1)).map Av:=by rw [BO hx]; simp [Bv]
  have hlm:((X.take i).map Av).length=i:=by simp; omega
  generalize g (AQ s (i:Int)).2=d' at c2 c3;generalize (AQ s (i:Int)).2=d at c1 c2;clear hat hf hg hx hidx;refine Af ?_;refine AH (BP ?_);refine Cw [] c1 ?_;refine BP ?_;refine Ak ⟨rfl,?_⟩;refine Af ?_;refine AH (BP ?_);refine Bn [(3,0)] c2 ?_;refine BP ?_;refine Ak ⟨rfl,?_⟩;refine Af ?_;exact ⟨i+1,by omega,by omega,BI hC.m [(2,5)] (by rw [← hms]; rfl)⟩
 ·rw [show X.take i=X from List.take_of_length_le (by omega)]
  refine Af ?_;exact Am
def CX (cs:List Ah) (p:Nat→Nat):List Ah:=(List.range cs.length).map fun i=>cs.getD (p i) AS
theorem FM (cs:List Ah) (p:Nat→Nat):(CX cs p).length=cs.length:=by simp [CX]
theorem AfW (cs:List Ah) (p:Nat→Nat) {i:Nat} (h:i<cs.length):(CX cs p)[i]? = some (cs.getD (p i) AS):=by
 unfold CX; rw [List.getElem?_map,List.getElem?_range h]; rfl
theorem U6 (cs:List Ah) (p:Nat→Nat) {i:Nat} (h:i<cs.length):(CX cs p).getD i AS=cs.getD (p i) AS:=by
 rw [List.getD_eq_getElem?_getD,AfW cs p h]; rfl
theorem Aby {cs:List Ah} {p q:Nat→Nat} (h:∀ i,i<cs.length→p i=q i):CX cs p=CX cs q:=by
 unfold CX;apply List.map_congr_left;intro i hi;rw [h i (List.mem_range.1 hi)]
theorem Rm {cs:List Ah} {p:Nat→Nat} (h:∀ i,i<cs.length→p i<cs.length):∀ c ∈ CX cs p,c ∈ cs:=fun c hc=>by
 unfold CX at hc;obtain ⟨i,hi,rfl⟩:=List.mem_map.1 hc
 have:=h i (List.mem_range.1 hi)
 rw [List.getD_eq_getElem?_getD,List.getElem?_eq_getElem this];exact List.getElem_mem _
def jOf (L B i:Nat):Nat:=i / B % L
def MU (L B k i:Nat):Nat:=(i / B / L * L+k) * B+i % B
section
variable {A L B:Nat}
theorem Aic (i:Nat):MU L B (jOf L B i) i=i:=by
 unfold MU jOf;have h1:=Nat.div_add_mod (i / B) L;have h2:=Nat.div_add_mod i B;rw [Nat.mul_comm (i / B / L) L,h1,Nat.mul_comm]; exact h2
theorem Al5 (hB:0<B) {k i:Nat} (hk:k<L) (hi:i<A * (L * B)):MU L B k i<A * (L * B):=by
 have hq:i / B / L<A:=by
  rw [Nat.div_div_eq_div_mul];exact Nat.div_lt_of_lt_mul (by rw [Nat.mul_comm B L,Nat.mul_comm]; exact hi)
 unfold MU;have h1:(i / B / L+1) * (L * B)≤A * (L * B):=Nat.mul_le_mul_right _ hq;have h2:(k+1) * B≤L * B:=Nat.mul_le_mul_right _ hk;have h3:=Nat.mod_lt i hB;rw [Nat.add_mul,Nat.one_mul] at h1 h2;rw [Nat.add_mul,Nat.mul_assoc];omega
theorem U7 (hL:0<L) (i:Nat):jOf L B i<L:=Nat.mod_lt _ hL
end
theorem Abz {s:List Int} (h:(Co s).2=0) (hp:∀ z ∈ s,0<z) {N:Nat} (hN:(N:Int)<AA s):idx s (AQ s (N:Int)).2=((N:Int),true):=by
 unfold idx;rw [if_neg (by simp [h,Ch]),GX s _ _ hp,Int.zero_mul,Int.zero_add,Int.emod_eq_of_lt (by omega) hN];rfl
def AbA (x:Nat) (k:Int→Int) (d:List Int):List Int:=d.set x (k (d.getD x 0))
structure Ax (s:List Int) (x L A B:Nat):Prop where
 h:(Co s).2=0
 z:s[x]? = some (L:Int)
 pos:∀ z ∈ s,0<z
 a:AA (s.take x)=(A:Int)
 b:AA (s.drop (x+1))=(B:Int)
 c:(Co s).1=((A * (L * B):Nat):Int)
theorem Am8 {s:List Int} {x L:Nat} (h:(Co s).2=0) (hz:s[x]? = some (L:Int)) (h0:0<(Co s).1):Ax s x L (Dl s x) (BL s x):=by
 rcases geo h hz with ⟨g1,g2,g3,g4⟩|⟨_,g2,_⟩
 ·exact ⟨h,hz,g1,g2,g3,g4⟩
 ·omega
theorem Ax.B_pos {s:List Int} {x L A B:Nat} (K:Ax s x L A B):0<B:=by
 have:=Di (s.drop (x+1)) (fun z hz=>K.pos z (List.mem_of_mem_drop hz))
 have:=K.b; omega
theorem Ax.L_pos {s:List Int} {x L A B:Nat} (K:Ax s x L A B):0<L:=by
 have:=K.pos _ (List.mem_of_getElem? K.z); omega
theorem Am9 {s1 s2:List Int} {L:Int} (hp:∀ z ∈ s2,0<z) (q j r B l:Nat) (hB:AA s2=B) (hr:r<B) (hL:L=l) (hj:j<l) :
 (AQ (s1++L::s2) (((q * l+j) * B+r:Nat):Int)).2=(AQ s1 q).2++(j:Int)::(AQ s2 r).2:=by
 have e1:(AQ s2 (((q * l+j) * B+r:Nat):Int)).1=((q * l+j:Nat):Int):=by
  rw [I5 s2 _ hp,hB,← Int.natCast_ediv];rw [Nat.add_comm,Nat.add_mul_div_right _ _ (by omega),Nat.div_eq_of_lt hr,Nat.zero_add]
 have e2:(AQ s2 (((q * l+j) * B+r:Nat):Int)).2=(AQ s2 r).2:=Pv s2 _ _ hp (by
  rw [hB,← Int.natCast_emod,← Int.natCast_emod,Nat.add_comm,Nat.add_mul_mod_self_right])
 rw [R3]
 have e3:AQ (L::s2) (((q * l+j) * B+r:Nat):Int)=((q:Int),(j:Int)::(AQ s2 r).2):=by
  show (_,_)=_;rw [e1,e2,hL]
  have h1:((q * l+j:Nat):Int) / (l:Int)=q:=by
   rw [← Int.natCast_ediv,Nat.add_comm,Nat.add_mul_div_right _ _ (by omega),Nat.div_eq_of_lt hj,Nat.zero_add]
  have h2:((q * l+j:Nat):Int) % (l:Int)=j:=by
   rw [← Int.natCast_emod,Nat.add_comm,Nat.add_mul_mod_self_right,Nat.mod_eq_of_lt hj]
  rw [h1,h2]
 rw [e3]
theorem Ax.dig {s:List Int} {x L A B:Nat} (K:Ax s x L A B) (i:Nat):(AQ s (i:Int)).2[x]? = some ((jOf L B i:Nat):Int)∧∀ k:Nat,k<L→(AQ s (i:Int)).2.set x (k:Int)=(AQ s ((MU L B k i:Nat):Int)).2:=by
 have hB:=K.B_pos;have hL:=K.L_pos;have hs:=Hx K.z;have hp2:∀ z ∈ s.drop (x+1),0<z:=fun z hz=>K.pos z (List.mem_of_mem_drop hz);have hx:=(List.getElem?_eq_some_iff.1 K.z).1;have hl:(AQ (s.take x) (i / B / L:Nat)).2.length=x:=by rw [Ch]; simp; omega
 have key:∀ k:Nat,k<L→(AQ s ((MU L B k i:Nat):Int)).2=(AQ (s.take x) ((i / B / L:Nat):Int)).2++(k:Int)::(AQ (s.drop (x+1)) ((i % B:Nat):Int)).2:=fun k hk=>by
  conv=>lhs; rw [hs]
  exact Am9 hp2 (i / B / L) k (i % B) B L K.b (Nat.mod_lt i hB) rfl hk
 have k0:=key (jOf L B i) (U7 hL i);rw [Aic] at k0;refine ⟨?_,fun k hk => ?_⟩
 ·rw [k0,List.getElem?_append_right (by omega),hl,Nat.sub_self]; rfl
 ·rw [k0,key k hk,List.set_append,if_neg (by omega),hl,Nat.sub_self,List.set_cons_zero]
theorem Ax.getD {s:List Int} {x L A B:Nat} (K:Ax s x L A B) (i:Nat):(AQ s (i:Int)).2.getD x 0=((jOf L B i:Nat):Int):=by
 rw [List.getD_eq_getElem?_getD,(K.dig i).1]; rfl
end Go.Proofs.YtjcolpcfcdkckaaGreat
