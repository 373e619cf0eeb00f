/- Axes that go elsewhere: the plain law. -/
import Derived.Test.YtjcolpcfcdkckaaGreatK26
set_option maxHeartbeats 4000000
namespace Go.Proofs.YtjcolpcfcdkckaaGreat
set_option linter.unusedVariables false
open Go.RowKit
def Fw:List Int→Int→Nat
 | [],_=>0
 | x::xs,a=>if x=a then 0 else Fw xs a+1
theorem PY:∀ {l:List Int} {a:Int},Fw l a<l.length→l[Fw l a]? = some a
 | [],a,h=>by simp [Fw] at h
 | x::xs,a,h=>by
   simp only [Fw] at h ⊢;split
   ·rename_i e; subst e; rfl
   ·rename_i e
    rw [if_neg e] at h;simp only [List.length_cons] at h;rw [List.getElem?_cons_succ];exact PY (by omega)
theorem ZA:∀ {l:List Int} {a:Int} {i:Nat},l[i]? = some a→Fw l a≤i
 | [],a,i,h=>by simp at h
 | x::xs,a,0,h=>by simp at h; subst h; simp [Fw]
 | x::xs,a,i+1,h=>by
   simp only [Fw];split
   ·omega
   ·have:=ZA (l:=xs) (i:=i) (by simpa using h); omega
def V7 {α:Type} (l:List Int) (n:Nat) (f:Nat→α) (v:α) (i:Nat):List α:=(List.range n).map fun j:Nat=>if Fw l ((j:Int)+1)<i then f (Fw l ((j:Int)+1)) else v
theorem JU {α:Type} (l:List Int) (n:Nat) (f:Nat→α) (v:α) (i:Nat):(V7 l n f v i).length=n:=by simp [V7]
theorem JV {α:Type} (l:List Int) (n:Nat) (f:Nat→α) (v:α) (i:Nat) {j:Nat} (h:j<n):(V7 l n f v i)[j]? = some (if Fw l ((j:Int)+1)<i then f (Fw l ((j:Int)+1)) else v):=by
 unfold V7; rw [List.getElem?_map,List.getElem?_range h]; rfl
theorem Vr {α:Type} (l:List Int) (n:Nat) (f:Nat→α) (v:α):V7 l n f v 0=List.replicate n v:=by
 apply List.ext_getElem?;intro j;by_cases h:j<n
 ·rw [JV l n f v 0 h,if_neg (by omega),List.getElem?_replicate,if_pos h]
 ·rw [List.getElem?_eq_none (by rw [JU]; omega),List.getElem?_eq_none (by simp; omega)]
def okP (l:List Int) (n i:Nat):Prop:=∀ m k,m<i→l[m]? = some k→1≤k∧k≤n∧Fw l k=m
theorem Vs {α:Type} {l:List Int} {n i:Nat} {k:Int} (f:Nat→α) (v:α) (hk:l[i]? = some k) (h1:1≤k) (h2:k≤n) (hp:Fw l k=i):(V7 l n f v i).set (k - 1).toNat (f i)=V7 l n f v (i+1):=by
 have hil:=(List.getElem?_eq_some_iff.1 hk).1;have hlt:(k - 1).toNat<(V7 l n f v i).length:=by rw [JU]; omega
 apply List.ext_getElem?;intro j;by_cases h:j<n
 ·rw [JV l n f v (i+1) h]
  by_cases hj:j=(k - 1).toNat
  ·subst hj
   rw [List.getElem?_set_self hlt,show (((k - 1).toNat:Nat):Int)+1=k from by omega,hp,if_pos (by omega)]
  ·rw [List.getElem?_set_ne (by omega),JV l n f v i h]
   have hne:Fw l ((j:Int)+1)≠i:=fun e=>by
    have:=PY (l:=l) (a:=(j:Int)+1) (by rw [e]; exact hil)
    rw [e,hk] at this;simp only [Option.some.injEq] at this;omega
   by_cases h3:Fw l ((j:Int)+1)<i
   ·rw [if_pos h3,if_pos (by omega)]
   ·rw [if_neg h3,if_neg (by omega)]
 ·rw [List.getElem?_eq_none (by rw [List.length_set,JU]; omega),List.getElem?_eq_none (by rw [JU]; omega)]
theorem Adn {α:Type} {l:List Int} {n i:Nat} {k:Int} (f:Nat→α) (v:α) (h1:1≤k) (h2:k≤n):(V7 l n f v i)[(k - 1).toNat]? = some (if Fw l k<i then f (Fw l k) else v):=by
 rw [JV l n f v i (by omega),show (((k - 1).toNat:Nat):Int)+1=k from by omega]
theorem AeI:∀ (bs:List Bool) (m:Nat),bs[m]? = some false→(bs.set m true).countP (· == false)+1=bs.countP (· == false)
 | [],m,h=>by simp at h
 | b::bs,0,h=>by simp at h; subst h; simp
 | b::bs,m+1,h=>by
   have:=AeI bs m (by simpa using h)
   simp only [List.set_cons_succ,List.countP_cons];omega
theorem Vt {l:List Int} {n:Nat}:∀ i,i≤l.length→okP l n i→(V7 l n (fun _=>true) false i).countP (· == false)+i=n
 | 0,_,_=>by
   rw [Vr]
   have:∀ n:Nat,(List.replicate n false).countP (· == false)=n:=fun n=>by
    induction n with
    | zero=>rfl
    | succ n ih=>rw [List.replicate_succ,List.countP_cons,ih]; simp
   rw [this]; rfl
 | i+1,hi,h=>by
   obtain ⟨k,hk⟩:∃ k,l[i]? = some k:=⟨_,List.getElem?_eq_getElem (by omega)⟩;obtain ⟨h1,h2,h3⟩:=h i k (by omega) hk;have ih:=Vt i (by omega) (fun m y hm hy=>h m y (by omega) hy);have hst:=Vs (fun _=>true) false hk h1 h2 h3;have hat:=Adn (l:=l) (i:=i) (fun _=>true) false h1 h2;rw [h3,if_neg (by omega)] at hat
   have:=AeI _ _ hat
   rw [hst] at this;omega
theorem PZ {l:List Int} {n:Nat} (hl:l.length=n) (h:okP l n n):∀ j,j<n→Fw l ((j:Int)+1)<n:=fun j hj=>by
 have hc:=Vt n (by omega) h;have h0:(V7 l n (fun _=>true) false n).countP (· == false)=0:=by omega
 rw [List.countP_eq_zero] at h0
 have:=h0 _ (List.mem_of_getElem? (JV l n (fun _=>true) false n hj))
 rcases Nat.lt_or_ge (Fw l ((j:Int)+1)) n with h1|h1
 ·exact h1
 ·rw [if_neg (by omega)] at this
  simp at this
def R8 (l d:List Int):List Int:=l.map fun k=>d.getD (k - 1).toNat 0
def KG (l d:List Int):List Int:=V7 l l.length (fun m=>d.getD m 0) 0 l.length
theorem L4 (l d:List Int):(R8 l d).length=l.length:=by simp [R8]
theorem Fm (l d:List Int):(KG l d).length=l.length:=JU _ _ _ _ _
theorem P0 {l d:List Int} {i:Nat} {k:Int} (h:l[i]? = some k):(R8 l d)[i]? = some (d.getD (k - 1).toNat 0):=by unfold R8; rw [List.getElem?_map,h]; rfl
theorem L5 {l d:List Int} (h:okP l l.length l.length) {j:Nat} (hj:j<l.length):(KG l d)[j]? = some (d.getD (Fw l ((j:Int)+1)) 0):=by
 unfold KG;rw [JV _ _ _ _ _ hj,if_pos (PZ rfl h j hj)]
theorem AeJ {l d:List Int} (h:okP l l.length l.length) (v:Int):V7 l l.length (fun m=>d.getD m 0) v l.length=KG l d:=by
 apply List.ext_getElem?;intro j;by_cases hj:j<l.length
 ·rw [L5 h hj,JV _ _ _ _ _ hj,if_pos (PZ rfl h j hj)]
 ·rw [List.getElem?_eq_none (by rw [JU]; omega),List.getElem?_eq_none (by rw [Fm]; omega)]
theorem AkJ {l d:List Int} (h:okP l l.length l.length) (hd:d.length=l.length):R8 l (KG l d)=d:=by
 apply List.ext_getElem?;intro i;by_cases hi:i<l.length
 ·obtain ⟨k,hk⟩:∃ k,l[i]? = some k:=⟨_,List.getElem?_eq_getElem hi⟩
  obtain ⟨h1,h2,h3⟩:=h i k hi hk;rw [P0 hk,List.getD_eq_getElem?_getD,L5 h (by omega),Option.getD_some,show (((k - 1).toNat:Nat):Int)+1=k from by omega,h3,List.getD_eq_getElem?_getD,List.getElem?_eq_getElem (by omega)];rfl
 ·rw [List.getElem?_eq_none (by rw [L4]; omega),List.getElem?_eq_none (by omega)]
theorem ZB {l d:List Int} (h:okP l l.length l.length) (hd:d.length=l.length):KG l (R8 l d)=d:=by
 apply List.ext_getElem?;intro j;by_cases hj:j<l.length
 ·have hp:=PZ rfl h j hj
  have hg:=PY hp;rw [L5 h hj,List.getD_eq_getElem?_getD,P0 hg,Option.getD_some,List.getD_eq_getElem?_getD,show ((j:Int)+1 - 1).toNat=j from by omega,List.getElem?_eq_getElem (by omega)];rfl
 ·rw [List.getElem?_eq_none (by rw [Fm]; omega),List.getElem?_eq_none (by omega)]
theorem XA:∀ (s:List Int) (m:Nat) (v:Int),s[m]? = some 1→AA (s.set m v)=AA s * v
 | [],m,v,h=>by simp at h
 | z::s,0,v,h=>by
   simp at h; subst h;simp only [List.set_cons_zero,Cy];rw [Int.one_mul,Int.mul_comm]
 | z::s,m+1,v,h=>by
   simp only [List.set_cons_succ,Cy];rw [XA s m v (by simpa using h),Int.mul_assoc]
theorem Ado (n:Nat):AA (List.replicate n 1)=1:=by
 induction n with
 | zero=>rfl
 | succ n ih=>rw [List.replicate_succ,Cy,ih]; rfl
theorem Ait {l d:List Int} (h:okP l l.length l.length) (hd:d.length=l.length):AA (KG l d)=AA d:=by
 have key:∀ i,i≤l.length→AA (V7 l l.length (fun m=>d.getD m 0) 1 i)=AA (d.take i):=by
  intro i
  induction i with
  | zero=>intro _; rw [Vr,Ado]; rfl
  | succ i ih =>
    intro hi;obtain ⟨k,hk⟩:∃ k,l[i]? = some k:=⟨_,List.getElem?_eq_getElem (by omega)⟩;obtain ⟨h1,h2,h3⟩:=h i k (by omega) hk;obtain ⟨y,hy⟩:∃ y,d[i]? = some y:=⟨_,List.getElem?_eq_getElem (by omega)⟩;have hat:=Adn (l:=l) (i:=i) (fun m=>d.getD m 0) 1 h1 h2;rw [h3,if_neg (by omega)] at hat;rw [← Vs (fun m=>d.getD m 0) 1 hk h1 h2 h3,XA _ _ _ hat,ih (by omega),BO hy,Cq];simp [AA,List.getD_eq_getElem?_getD,hy]
 have:=key l.length (Nat.le_refl _)
 rw [AeJ h,List.take_of_length_le (by omega)] at this;exact this
theorem Adp:∀ (s d:List Int),d.length=s.length→(∀ (m:Nat) (z y:Int),s[m]? = some z→d[m]? = some y→0≤y∧y<z)→∃ N:Nat,(N:Int)<AA s∧d=(AQ s (N:Int)).2
 | [],[],_,_=>⟨0,by simp [AA],rfl⟩
 | [],_::_,h,_=>by simp at h
 | _::_,[],h,_=>by simp at h
 | z::s,y::d,hl,h=>by
   obtain ⟨N,h1,h2⟩:=Adp s d (by simpa using hl) (fun m z y hz hy=>h (m+1) z y (by simpa using hz) (by simpa using hy));obtain ⟨hy0,hy1⟩:=h 0 z y rfl rfl;have hpos:0<AA s:=by omega
   have hp:∀ x ∈ s,0<x:=fun x hx=>by
    obtain ⟨m,hm⟩:=List.mem_iff_getElem?.1 hx;have hml:=(List.getElem?_eq_some_iff.1 hm).1;obtain ⟨w,hw⟩:∃ w,d[m]? = some w:=⟨_,List.getElem?_eq_getElem (by simp at hl; omega)⟩
    have:=h (m+1) x w (by simpa using hm) (by simpa using hw)
    omega
   have hN:((y.toNat * (AA s).toNat+N:Nat):Int)=y * AA s+N:=by
    rw [Int.natCast_add,Int.natCast_mul,Int.toNat_of_nonneg hy0,Int.toNat_of_nonneg (by omega)]
   refine ⟨y.toNat * (AA s).toNat+N,?_,?_⟩
   ·rw [hN,Cy]
    have:=Int.mul_le_mul_of_nonneg_right (show y+1≤z by omega) (Int.le_of_lt hpos)
    rw [Int.add_mul,Int.one_mul] at this;omega
   ·rw [hN]
    have e1:(AQ s (y * AA s+N)).1=y:=by
     rw [I5 s _ hp,Int.add_comm,Int.add_mul_ediv_right _ _ (by omega),Int.ediv_eq_zero_of_lt (by omega) h1,Int.zero_add]
    have e2:(AQ s (y * AA s+N)).2=(AQ s (N:Int)).2:=Pv s _ _ hp (by rw [Int.add_comm,Int.add_mul_emod_self_right]);show y::d=(AQ s (y * AA s+N)).1 % z::(AQ s (y * AA s+N)).2;rw [e1,e2,← h2,Int.emod_eq_of_lt hy0 hy1]
theorem Adq:∀ (s:List Int) (n:Int),(∀ z ∈ s,0<z)→∀ (m:Nat) (z y:Int),s[m]? = some z→(AQ s n).2[m]? = some y→0≤y∧y<z
 | [],n,_,m,z,y,h,_=>by simp at h
 | x::s,n,hp,m,z,y,hz,hy=>by
   have hx:=hp x (by simp);have hd:(AQ (x::s) n).2=(AQ s n).1 % x::(AQ s n).2:=rfl;rw [hd] at hy;cases m with
   | zero =>
     simp at hz hy;subst hz; subst hy;exact ⟨Int.emod_nonneg _ (by omega),Int.emod_lt_of_pos _ hx⟩
   | succ m=>exact Adq s n (fun w hw=>hp w (by simp [hw])) m z y (by simpa using hz) (by simpa using hy)
theorem Aiu (es:List (List AV)) (hn:0<es.length) (hb:es.length≤100000000000):Dn Tryz.prog 64 [.own 0] [(0,some ⟨true,false,3,1,es⟩)] 1 (.own 1) [(1,some ⟨true,false,3,1,es⟩),(0,some ⟨true,false,3,1,es⟩)] 2:=by
 refine BK CU fun C hC => ?_;refine Af ?_;refine AH (BP ?_);refine AlM Tryz.underlying23 hn ?_;refine BP ?_;refine Ak ⟨rfl,?_⟩;refine Af ?_;exact BZ [(1,2)]
theorem Aga:Dn Tryz.prog 64 [.own 0] [(0,some ⟨true,false,3,1,[]⟩)] 1 .any [(0,some ⟨true,false,3,1,[]⟩)] 1:=by
 refine BK CU fun C hC => ?_;refine Ahj ?_;refine Af ?_;refine Aj4 0 0 rfl rfl rfl fun a cap => ?_;cases a with
 | none =>
   refine AH (BP ?_);refine Il Tryz.underlying23 (BP ?_);refine Ak ⟨rfl,?_⟩;refine Af ?_;exact ⟨_,AaR 2,BZ []⟩
 | some x =>
   refine AH (BP ?_);refine Il Tryz.underlying23 (BP ?_);refine Ak ⟨rfl,?_⟩;refine Af ?_;refine AcJ 0 rfl (b:=.sl 1 []) (fun E w v h=>⟨some x,cap,[],h,Nat.zero_le _,fun h=>(by cases h),Nat.zero_le _,fun i v h=>(by cases h),fun u h=>(by cases h),rfl⟩) ?_;refine Af ?_;exact ⟨_,AaR 2,BZ []⟩
theorem AkK (l d:List Int) (hl:d.length=l.length) (h6:l.length≤6) (hok:okP l l.length l.length) :
 Dn Tryz.prog 63 [.own 0,.ep 1 [[.sl 1 (Ab .i64 l)]] 0 0] [(0,some ⟨true,false,3,1,Ab .i64 d⟩)] 1 (.tup []) [(0,some ⟨true,false,3,1,Ab .i64 (R8 l d)⟩)] 1:=by
 have ls:=Ac .i64 l;have ld:=Ac .i64 d;by_cases h0:l.length=0
 ·have e1:l=[]:=List.eq_nil_of_length_eq_zero h0
  have e2:d=[]:=List.eq_nil_of_length_eq_zero (by omega);subst e1; subst e2;have c1:Dn Tryz.prog 64 [.own 0] [(0,some ⟨true,false,3,1,Ab .i64 []⟩)] 1 .any [(0,some ⟨true,false,3,1,Ab .i64 []⟩)] 1:=Aga;have ls:(((Ab .i64 []).length:Nat):Int)=0:=rfl;refine BK GC fun C hC => ?_;refine Af ?_;refine AH (BP ?_);refine Bn [(0,0)] c1 ?_;refine BP ?_;refine Ak ⟨rfl,?_⟩;refine Af ?_;refine Ai [] [0] (fun i:Nat=>[(9,.lit (.int .i64 ((0:Nat):Int))),(10,.lit (.int .i64 ((0:Nat):Int)))]) (fun _=>[]) 1 (fun _=>True) (fun _=>0) 0 trivial ?_;rintro i _;dsimp only [List.cons_append,List.nil_append];refine Af ?_;exact BZ []
 ·have c1:=Aiu (Ab .i64 d) (by omega) (by omega)
  refine BK GC fun C hC => ?_;refine Af ?_;refine AH (BP ?_);refine Cw [(0,0)] c1 ?_;refine BP ?_;refine Ak ⟨rfl,?_⟩;refine Af ?_
  refine Ai [0,3,8,9] [1] (fun i:Nat=>[(10,.lit (.int .i64 i))]) (fun i=>[(0,some ⟨true,false,3,1,Ab .i64 ((R8 l d).take i++d.drop i)⟩)]) 2
   (fun i=>i≤l.length) (fun i=>l.length - i) 0 (Nat.zero_le _) ?_
  rintro i hi;dsimp only [List.cons_append,List.nil_append];by_cases hil:i<l.length
  ·obtain ⟨k,hk⟩:∃ k,l[i]? = some k:=⟨_,List.getElem?_eq_getElem hil⟩
   obtain ⟨h1,h2,h3⟩:=hok i k hil hk;obtain ⟨y,hy⟩:∃ y,d[(k - 1).toNat]? = some y:=⟨_,List.getElem?_eq_getElem (by omega)⟩;obtain ⟨w,hw⟩:∃ w,d[i]? = some w:=⟨_,List.getElem?_eq_getElem (by omega)⟩;have hg:=P0 (d:=d) hk;rw [List.getD_eq_getElem?_getD,hy,Option.getD_some] at hg;have hgl:=L4 l d;have hcl:((R8 l d).take i++d.drop i).length=l.length:=by simp; omega
   have hcur:((R8 l d).take i++d.drop i)[i]? = some w:=by
    rw [List.getElem?_append_right (by simp; omega),List.length_take,List.getElem?_drop,← hw];congr 1; omega
   have hset:((R8 l d).take i++d.drop i).set i y=(R8 l d).take (i+1)++d.drop (i+1):=by
    rw [BO hg,AU hw,List.set_append,if_neg (by simp; omega),List.append_assoc];congr 1;rw [List.length_take,show i - min i (R8 l d).length=0 from by omega];rfl
   generalize (R8 l d).take i++d.drop i=cur at hcl hcur hset ⊢;have lc:=Ac .i64 cur;have hkk:(Ab .i64 l)[((i:Nat):Int).toNat]? = some [.lit (.int .i64 k)]:=Az hk;have hyk:(Ab .i64 d)[(k - 1).toNat]? = some [.lit (.int .i64 y)]:=Az hy;have hck:(Ab .i64 cur)[((i:Nat):Int).toNat]? = some [.lit (.int .i64 w)]:=Az hcur;have hst:(Ab .i64 cur).set ((i:Nat):Int).toNat [.lit (.int .i64 y)]=Ab .i64 ((R8 l d).take (i+1)++d.drop (i+1)):=by rw [← hset]; exact Bu .i64 cur i y
   clear hg hset;refine Af ?_;exact ⟨i+1,by omega,by omega,BI hC.m [] (by rw [← hst]; rfl)⟩
  ·have:i=l.length:=by omega
   subst this
   have e:(R8 l d).take l.length++d.drop l.length=R8 l d:=by
    rw [List.take_of_length_le (by rw [L4]; omega),List.drop_eq_nil_of_le (by omega),List.append_nil]
   rw [e];refine Af ?_;exact BZ []
def GT (l sh:List Int) (j:Nat):Nat:=(idx sh (R8 l (AQ (KG l sh) (j:Int)).2)).1.toNat
theorem XB {l sh:List Int} (h:okP l l.length l.length) (hl:l.length=sh.length) (hs:Small sh):Small (KG l sh):=fun z hz=>by
 obtain ⟨j,hj⟩:=List.mem_iff_getElem?.1 hz;have hjl:=(List.getElem?_eq_some_iff.1 hj).1;rw [Fm] at hjl;rw [L5 h hjl] at hj;have hp:=PZ rfl h j hjl;obtain ⟨y,hy⟩:∃ y,sh[Fw l ((j:Int)+1)]? = some y:=⟨_,List.getElem?_eq_getElem (by omega)⟩;rw [List.getD_eq_getElem?_getD,hy] at hj;simp at hj;subst hj;exact hs y (List.mem_of_getElem? hy)
structure Ami (l:List Int) (A:Al):Prop where
 e:(Co (KG l A.shape)).2=0
 c:(Co (KG l A.shape)).1=A.cells.length
 n:∀ j,j<A.cells.length→idx A.shape (R8 l (AQ (KG l A.shape) (j:Int)).2)=(((GT l A.shape j:Nat):Int),true)∧GT l A.shape j<A.cells.length∧R8 l (AQ (KG l A.shape) (j:Int)).2=(AQ A.shape ((GT l A.shape j:Nat):Int)).2
 m:∀ i,i<A.cells.length→∃ j,j<A.cells.length∧GT l A.shape j=i∧KG l (AQ A.shape (i:Int)).2=(AQ (KG l A.shape) (j:Int)).2∧∀ r,r<A.cells.length→GT l A.shape r=i→r=j
 p:0<A.cells.length→(∀ z ∈ A.shape,0<z)∧∀ z ∈ KG l A.shape,0<z
theorem Rw {A:Al} (hA:CI A) {l:List Int} (hl:l.length=A.shape.length) (h:okP l l.length l.length):Ami l A:=by
 have hpr:=Ait (d:=A.shape) h hl.symm;have hss:=XB h hl hA.small;have hcl:=hA.cells;have hp:=hA.prod;have h6:=hA.len;have he:(Co (KG l A.shape)).2=0:=Al4 (by rw [Fm]; omega) hss (by rw [hpr,hp]; omega);have hc:(Co (KG l A.shape)).1=A.cells.length:=by rw [E7 he,hpr,hp]
 have hpos:0<A.cells.length→(∀ z ∈ A.shape,0<z)∧∀ z ∈ KG l A.shape,0<z:=fun h0=>⟨H4 hA.small (by omega),H4 hss (by omega)⟩
 have hn:∀ j,j<A.cells.length→idx A.shape (R8 l (AQ (KG l A.shape) (j:Int)).2)=(((GT l A.shape j:Nat):Int),true)∧GT l A.shape j<A.cells.length∧R8 l (AQ (KG l A.shape) (j:Int)).2=(AQ A.shape ((GT l A.shape j:Nat):Int)).2:=fun j hj=>by
  obtain ⟨p1,p2⟩:=hpos (by omega)
  obtain ⟨N,hN,hd⟩:=Adp A.shape (R8 l (AQ (KG l A.shape) (j:Int)).2) (by rw [L4,hl]) (fun m z y hz hy=>by
   have hml:=(List.getElem?_eq_some_iff.1 hz).1;obtain ⟨k,hk⟩:∃ k,l[m]? = some k:=⟨_,List.getElem?_eq_getElem (by omega)⟩;obtain ⟨k1,k2,k3⟩:=h m k (by omega) hk;rw [P0 hk] at hy;obtain ⟨w,hw⟩:∃ w,(AQ (KG l A.shape) (j:Int)).2[(k - 1).toNat]? = some w:=⟨_,List.getElem?_eq_getElem (by rw [Ch,Fm]; omega)⟩;rw [List.getD_eq_getElem?_getD,hw] at hy;simp at hy;subst hy;have hs:=L5 (d:=A.shape) h (j:=(k - 1).toNat) (by omega);rw [show (((k - 1).toNat:Nat):Int)+1=k from by omega,k3,List.getD_eq_getElem?_getD,hz,Option.getD_some] at hs;exact Adq _ _ p2 _ _ _ hs hw)
  have hix:idx A.shape (R8 l (AQ (KG l A.shape) (j:Int)).2)=((N:Int),true):=by rw [hd]; exact Abz hA.e p1 hN
  have hNe:GT l A.shape j=N:=by unfold GT; rw [hix]; simp
  rw [hNe];exact ⟨hix,by omega,hd⟩
 have hinj:∀ r j,r<A.cells.length→j<A.cells.length→GT l A.shape r=GT l A.shape j→r=j:=fun r j hr hj e=>by
  obtain ⟨_,p2⟩:=hpos (by omega);have e1:=(hn r hr).2.2;have e2:=(hn j hj).2.2;rw [e,← e2] at e1;have e3:=congrArg (KG l) e1;rw [ZB h (by rw [Ch,Fm]),ZB h (by rw [Ch,Fm])] at e3
  have:=AaZ p2 (m:=(r:Int)) (n:=(j:Int)) (by omega) (by rw [hpr,hp]; omega) (by omega) (by rw [hpr,hp]; omega) e3
  omega
 refine ⟨he,hc,hn,fun i hi => ?_,hpos⟩;obtain ⟨p1,p2⟩:=hpos (by omega)
 obtain ⟨M,hM,hd⟩:=Adp (KG l A.shape) (KG l (AQ A.shape (i:Int)).2) (by rw [Fm,Fm]) (fun m z y hz hy=>by
  have hml:=(List.getElem?_eq_some_iff.1 hz).1;rw [Fm] at hml;have hpp:=PZ rfl h m hml;rw [L5 h hml] at hz hy;obtain ⟨w,hw⟩:∃ w,A.shape[Fw l ((m:Int)+1)]? = some w:=⟨_,List.getElem?_eq_getElem (by omega)⟩;obtain ⟨v,hv⟩:∃ v,(AQ A.shape (i:Int)).2[Fw l ((m:Int)+1)]? = some v:=⟨_,List.getElem?_eq_getElem (by rw [Ch]; omega)⟩;rw [List.getD_eq_getElem?_getD,hw] at hz;rw [List.getD_eq_getElem?_getD,hv] at hy;simp at hz hy;subst hz; subst hy;exact Adq _ _ p1 _ _ _ hw hv)
 have hMl:M<A.cells.length:=by rw [hpr,hp] at hM; omega
 have hNM:GT l A.shape M=i:=by
  have e1:=(hn M hMl).2.2;rw [← hd,AkJ h (by rw [Ch]; omega)] at e1
  have:=AaZ p1 (m:=(i:Int)) (n:=((GT l A.shape M:Nat):Int)) (by omega) (by rw [hp]; omega) (by omega) (by rw [hp]; have:=(hn M hMl).2.1; omega) e1
  omega
 exact ⟨M,hMl,hNM,hd,fun r hr e=>hinj r M hr hMl (by rw [e,hNM])⟩
def okB (l:List Int) (n:Nat):Bool:=(List.range l.length).all fun m=>match l[m]? with|some k=>decide (1≤k) && (decide (k≤n) && (Fw l k == m))|none=>true
theorem ZC {l:List Int} {n:Nat}:okB l n=true↔okP l n l.length:=by
 unfold okB okP;rw [List.all_eq_true];constructor
 ·intro h m k hm hk
  have:=h m (List.mem_range.2 hm)
  rw [hk] at this;simpa using this
 ·intro h m hm
  have hm:=List.mem_range.1 hm;obtain ⟨k,hk⟩:∃ k,l[m]? = some k:=⟨_,List.getElem?_eq_getElem hm⟩;rw [hk];simpa using h m k hm hk
def LB (K A:Al):Al × Int:=if (AB K).2≠0 then (.mk 0 [] [],(AB K).2) else if (AB K).1.length≠A.shape.length then (.mk 0 [] [],4)
 else if okB (AB K).1 (AB K).1.length then (.mk (A.s ||| A8 K) (KG (AB K).1 A.shape) (CX A.cells (GT (AB K).1 A.shape)),0) else (.mk 0 [] [],3)
theorem Aiv (n i:Nat) (h:i<n):(List.replicate i (-1:Int)++List.replicate (n - i) 0).set i (-1)=List.replicate (i+1) (-1)++List.replicate (n - (i+1)) 0:=by
 rw [List.set_append,if_neg (by simp),List.length_replicate,Nat.sub_self,show n - i=(n - (i+1))+1 from by omega,List.replicate_succ,List.set_cons_zero,List.replicate_succ',List.append_assoc];rfl
theorem Agb (K A:Al) (hK:arrOK K) (kK:CI K) (hA:CI A):Ae Tryz.prog 20 [.agg (Ao K),.agg (Ao A)] (.tup [.agg (Ao (LB K A).1),.lit (.int .i64 (LB K A).2)]):=by
 have hl6:=hA.len;have c0:=Ef K hK kK.ok;have ls:=Ac .i64 A.shape;have lK:=Ac .i64 (AB K).1
 have hkl:(AB K).1.length≤1000000000:=by
  have:=kK.cells
  unfold AB;split
  ·simp
  ·split
   ·rename_i l hl; rw [GZ hl]; simp; omega
   ·simp
 unfold LB;by_cases h0:(AB K).2=0
 case neg =>
  rw [if_pos h0];generalize (AB K).1=l at *;generalize (AB K).2=e at *;refine AE E8 E9 fun C hC => ?_;refine Af ?_;intro ds;refine Af ?_;exact Am
 rw [if_neg (by simp [h0])];rw [h0] at c0;have htl:=Bg K kK.ok;have c1:=C9 K kK.ok;generalize A8 K=T at *;generalize (AB K).1=l at *;by_cases hll:l.length=A.shape.length
 case neg =>
  rw [if_pos hll];have hll':¬ (l.length:Int)=A.shape.length:=by omega
  refine AE E8 E9 fun C hC => ?_;refine Af ?_;intro ds;refine Af ?_;exact Am
 rw [if_neg (by simp [hll])];have hll':(l.length:Int)=A.shape.length:=by omega
 have c2:=AeG A T hA.ok.parts.1 htl
 have hmk:List.replicate ((l.length:Nat):Int).toNat [AV.lit (.int .i64 0)]=Ab .i64 (List.replicate 0 (-1)++List.replicate (l.length - 0) 0):=by
  rw [Int.toNat_natCast,GY]; simp
 have hc4:okP l l.length l.length→Ae Tryz.prog 60 [.agg (Ao (IF A T)),.sl 1 (Ab .i64 (KG l A.shape)),.fn 63 [] [.ep 1 [[.sl 1 (Ab .i64 l)]] 0 0]] (.agg (Ao (.mk (A.s ||| T) (KG l A.shape) (CX A.cells (GT l A.shape))))):=fun hok=>by
  have F:=Rw hA hll hok
  have c4:=Ah9 (IF A T) (Xz hA htl).ok (KG l A.shape) 63 (.sl 1 (Ab .i64 l)) (R8 l) F.e F.c hA.cells
   (fun i hi=>AkK l _ (by rw [Ch,Fm]) (by omega) hok)
   (fun i hi=>⟨_,(F.n i hi).2.1,(F.n i hi).1,by rw [L4]; omega⟩)
  rw [L3 (A:=IF A T) (p:=GT l A.shape) (fun i hi=>(F.n i hi).1)] at c4;exact c4
 refine AE E8 E9 fun C hC => ?_;refine Af ?_;intro ds;refine Af ?_;refine Eu 32 (.lit (.int .i64 (l.length:Nat))) (by show AV.lit (.int .i64 (((List.replicate ((l.length:Nat):Int).toNat [AV.lit (.int .i64 0)]).length:Nat):Int))=_; rw [List.length_replicate,Int.toNat_natCast]) ?_
 refine AbN [2,3,4,5,6,7,32,33] [0,1,2,3,4,5] 6 (kt:=[(2,.optr 0 0 0),(3,.optr 1 0 0),(4,.optr 2 0 0),(5,.optr 3 0 0),(6,.optr 4 0 0),(7,.own 5),(32,.lit (.int .i64 (l.length:Nat))),(33,.lit (.int .i64 ((0:Nat):Int)))])
  (kh:=[(0,some ⟨false,false,26,3,[Ao K]⟩),(1,some ⟨false,false,26,3,[Ao A]⟩),(2,some ⟨false,false,26,3,[[.lit (.int .u64 0),.lit (.slice none 0 0),.lit (.slice none 0 0)]]⟩),(3,some ⟨false,false,30,1,[[.lit (.int .i64 0)]]⟩),(4,some ⟨false,false,23,1,[[.sl 1 (Ab .i64 l)]]⟩),
   (5,some ⟨true,false,3,1,Ab .i64 (List.replicate 0 (-1)++List.replicate (l.length - 0) 0)⟩)]) ?_ (eh:=by rw [← hmk]; rfl)
 refine Ai [2,3,4,5,6,7,32] [0,1,2,3,4] (fun i:Nat=>[(33,.lit (.int .i64 i))]) (fun i=>[(5,some ⟨true,false,3,1,Ab .i64 (List.replicate i (-1)++List.replicate (l.length - i) 0)⟩)]) 6
  (fun i=>i≤l.length) (fun i=>l.length - i) 0 (Nat.zero_le _) ?_
 rintro i hi;dsimp only [List.cons_append,List.nil_append];by_cases hil:i<l.length
 ·have hcl:(List.replicate i (-1:Int)++List.replicate (l.length - i) 0).length=l.length:=by simp; omega
  have hcur:(List.replicate i (-1:Int)++List.replicate (l.length - i) 0)[i]? = some 0:=by
   rw [List.getElem?_append_right (by simp),List.length_replicate,Nat.sub_self,List.getElem?_replicate,if_pos (by omega)]
  have hset:=Aiv l.length i hil;generalize List.replicate i (-1:Int)++List.replicate (l.length - i) 0=cur at hcl hcur hset ⊢;have lc:=Ac .i64 cur;have hck:(Ab .i64 cur)[((i:Nat):Int).toNat]? = some [.lit (.int .i64 0)]:=Az hcur;have hst:(Ab .i64 cur).set ((i:Nat):Int).toNat [.lit (.int .i64 (-1))]=Ab .i64 (List.replicate (i+1) (-1)++List.replicate (l.length - (i+1)) 0):=by rw [← hset]; exact Bu .i64 cur i (-1)
  clear hset hc4 hmk;refine Af ?_;exact ⟨i+1,by omega,by omega,BI hC.m [] (by rw [← hst]; rfl)⟩
 ·have:i=l.length:=by omega
  subst this;have e0:List.replicate l.length (-1:Int)++List.replicate (l.length - l.length) 0=V7 l l.length (fun m=>A.shape.getD m 0) (-1) 0:=by rw [Vr,Nat.sub_self]; simp
  rw [e0];refine Af ?_
  refine Ai [2,3,4,5,6,7,40,41] [0,1,2,3,4] (fun i:Nat=>[(42,.lit (.int .i64 i))]) (fun i=>[(5,some ⟨true,false,3,1,Ab .i64 (V7 l l.length (fun m=>A.shape.getD m 0) (-1) i)⟩)]) 6
   (fun i=>i≤l.length∧okP l l.length i) (fun i=>l.length - i) 0 ⟨Nat.zero_le _,fun m k hm=>absurd hm (Nat.not_lt_zero _)⟩ ?_
  rintro i ⟨hi,hok⟩;dsimp only [List.cons_append,List.nil_append];by_cases hil:i<l.length
  ·obtain ⟨k,hk⟩:∃ k,l[i]? = some k:=⟨_,List.getElem?_eq_getElem hil⟩
   have hkk:(Ab .i64 l)[((i:Nat):Int).toNat]? = some [.lit (.int .i64 k)]:=Az hk;obtain ⟨y,hy⟩:∃ y,A.shape[i]? = some y:=⟨_,List.getElem?_eq_getElem (by omega)⟩;have hyk:(Ab .i64 A.shape)[((i:Nat):Int).toNat]? = some [.lit (.int .i64 y)]:=Az hy
   have hbad:¬ (1≤k∧k≤l.length∧Fw l k=i)→okB l l.length=false:=fun h=>by
    cases hb:okB l l.length
    ·rfl
    ·exact absurd (ZC.1 hb i k hil hk) h
   have hgl:=JU l l.length (fun m=>A.shape.getD m 0) (-1) i;have lg:=Ac .i64 (V7 l l.length (fun m=>A.shape.getD m 0) (-1) i);by_cases h1:k<1
   ·rw [hbad (by omega)]
    clear hc4;refine Af ?_;exact Am
   ·by_cases h2:k > l.length
    ·rw [hbad (by omega)]
     clear hc4;refine Af ?_;exact Am
    ·have hat:=Adn (l:=l) (i:=i) (fun m=>A.shape.getD m 0) (-1) (show 1≤k by omega) (show k≤l.length by omega)
     have hple:=ZA hk;by_cases h3:Fw l k<i
     ·rw [if_pos h3] at hat
      obtain ⟨v,hv⟩:∃ v,A.shape[Fw l k]? = some v:=⟨_,List.getElem?_eq_getElem (by omega)⟩;rw [List.getD_eq_getElem?_getD,hv,Option.getD_some] at hat;have hv0:=(hA.small v (List.mem_of_getElem? hv)).1;have hatk:(Ab .i64 (V7 l l.length (fun m=>A.shape.getD m 0) (-1) i))[(k - 1).toNat]? = some [.lit (.int .i64 v)]:=Az hat;rw [hbad (by omega)];generalize V7 l l.length (fun m=>A.shape.getD m 0) (-1) i=G at *;clear hc4;refine Af ?_;exact Am
     ·rw [if_neg h3] at hat
      have hatk:(Ab .i64 (V7 l l.length (fun m=>A.shape.getD m 0) (-1) i))[(k - 1).toNat]? = some [.lit (.int .i64 (-1))]:=Az hat;have hst0:=Vs (l:=l) (n:=l.length) (i:=i) (fun m=>A.shape.getD m 0) (-1) hk (by omega) (by omega) (by omega);rw [List.getD_eq_getElem?_getD,hy,Option.getD_some] at hst0;have hst:=Bu .i64 (V7 l l.length (fun m=>A.shape.getD m 0) (-1) i) (k - 1).toNat y;rw [hst0] at hst;generalize V7 l l.length (fun m=>A.shape.getD m 0) (-1) i=G at hgl lg hatk hst ⊢;clear hc4 hat hst0;refine Af ?_
      exact ⟨i+1,by omega,⟨by omega,fun m x hm hx=>by
       by_cases hmi:m=i
       ·subst hmi
        rw [hk] at hx;simp only [Option.some.injEq] at hx;subst hx;omega
       ·exact hok m x (by omega) hx⟩,BI hC.m [] (by rw [← hst]; rfl)⟩
  ·have:i=l.length:=by omega
   subst this;have c4:=hc4 hok;rw [ZC.2 hok,AeJ hok];clear hc4;generalize (Al.mk (A.s ||| T) (KG l A.shape) (CX A.cells (GT l A.shape)))=Z at c4 ⊢;generalize KG l A.shape=S at c4 ⊢;generalize IF A T=R at c2 c4;refine Af ?_;refine A4 4 rfl ?_;refine A4 5 rfl ?_;refine LR 7 rfl rfl ?_;refine Af ?_;exact Am
theorem XC {A R:Al} (hA:arrOK A) (hs:R.s<18446744073709551616) (hsh:Small R.shape) (h6:R.shape.length≤6) (hl:R.cells.length=A.cells.length) (hm:∀ c ∈ R.cells,c ∈ A.cells):arrOK R:=by
 obtain ⟨s,sh,cs⟩:=R;obtain ⟨s2,sh2,cs2⟩:=A;simp only [Al.s,Al.shape,Al.cells] at *;simp only [arrOK] at hA ⊢;have hr:reachBytes=140737488351232:=rfl;exact ⟨hs,fun z hz=>Y6 (by have:=(hsh z hz).1; omega) (by have:=(hsh z hz).2; omega),by omega,by rw [hl]; exact hA.2.2.2.1,Bw.2 fun c hc=>Bw.1 hA.2.2.2.2 c (hm c hc)⟩
theorem Agc {A R:Al} {d:Nat} (hA:Cl d A=true) (h1:(Co R.shape).2=0) (h2:(Co R.shape).1=R.cells.length) (hm:∀ c ∈ R.cells,c ∈ A.cells):Cl d R=true:=by
 obtain ⟨_,_,r3⟩:=EW hA;rw [Rg,Aeo,h1,h2];simp only [beq_self_eq_true,Bool.true_and];exact Dp.2 fun c hc=>Dp.1 r3 c (hm c hc)
theorem Oq (K A:Al):((LB K A).2≠0∧(LB K A).1=.mk 0 [] [])∨((AB K).2=0∧(AB K).1.length=A.shape.length∧okP (AB K).1 (AB K).1.length (AB K).1.length∧LB K A=(.mk (A.s ||| A8 K) (KG (AB K).1 A.shape) (CX A.cells (GT (AB K).1 A.shape)),0)):=by
 unfold LB;by_cases h0:(AB K).2=0
 ·rw [if_neg (by simp [h0])]
  by_cases hll:(AB K).1.length=A.shape.length
  ·rw [if_neg (by simp [hll])]
   cases hb:okB (AB K).1 (AB K).1.length
   ·rw [if_neg (by simp)]; exact .inl ⟨by simp,rfl⟩
   ·rw [if_pos rfl]; exact .inr ⟨h0,hll,ZC.1 hb,rfl⟩
  ·rw [if_pos hll]; exact .inl ⟨by simp,rfl⟩
 ·rw [if_pos h0]; exact .inl ⟨h0,rfl⟩
theorem AeK {A:Al} (hA:CI A) {l:List Int} (F:Ami l A):(CX A.cells (GT l A.shape)).length=A.cells.length∧∀ c ∈ CX A.cells (GT l A.shape),c ∈ A.cells :=
 ⟨FM _ _,Rm fun i hi=>(F.n i hi).2.1⟩
theorem Adr {K A:Al} (kK:CI K) (hA:CI A) (oA:arrOK A) {d:Nat} (rA:Cl d A=true):arrOK (LB K A).1∧((LB K A).2=0→Cl d (LB K A).1=true∧(LB K A).1.cells.length=A.cells.length):=by
 rcases Oq K A with ⟨h1,h2⟩|⟨_,hll,hok,h3⟩
 ·exact ⟨by rw [h2]; exact U5,fun h=>absurd h h1⟩
 ·rw [h3]
  have F:=Rw hA hll hok;obtain ⟨m1,m2⟩:=AeK hA F;have hl:=C6 _ _ oA.parts.1 (Bg K kK.ok);refine ⟨XC oA hl (XB hok hll hA.small) (CF F.e) m1 m2,fun _=>⟨Agc rA F.e ?_ m2,m1⟩⟩;show (Co (KG (AB K).1 A.shape)).1=((CX A.cells (GT (AB K).1 A.shape)).length:Int);rw [F.c,m1]
end Go.Proofs.YtjcolpcfcdkckaaGreat
