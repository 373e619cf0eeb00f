/- Right arrays, in the reference's words. -/
import Derived.Test.YtjcolpcfcdkckaaGreatK08
set_option maxHeartbeats 1000000
namespace Go.Proofs.YtjcolpcfcdkckaaGreat
set_option linter.unusedVariables false
open Go.RowKit
theorem AlU {s:List Int} {k:Nat} {z:Int} (h:s[k]? = some z) (b n:Bool):chk (s.drop k) b n=if z<0 then none else chk (s.drop (k+1)) (b || decide (2048<z)) (n || z == 0):=by
 rw [AU h,chk]
theorem Akf {s:List Int} {k:Nat} {z:Int} (h:s[k]? = some z) (o:Int):Uq (s.drop k) o=if o * z > 2048 then none else Uq (s.drop (k+1)) (o * z):=by
 rw [AU h,Uq]
theorem AhE (s:List Int):Ae Tryz.prog 104 [.sl 1 (Ab .i64 s)] (.tup [.lit (.int .i64 (QY s).1),.lit (.int .i64 (QY s).2)]):=by
 have ls:=Ac .i64 s;refine Aa Kt fun C hC => ?_;by_cases h6:s.length > 6
 ·rw [show QY s=(0,7) from by rw [QY,if_pos h6]]
  refine Af ?_;exact Am
 generalize hR:QY s=R;rw [QY,if_neg h6] at hR;refine Af ?_
 refine Ai [0,2,3] [] (fun p:Nat × Bool × Bool=>[(4,.lit (.bool p.2.1)),(5,.lit (.bool p.2.2)),(6,.lit (.int .i64 p.1))]) (fun _=>[]) 0
  (fun p=>p.1≤s.length∧chk s false false=chk (s.drop p.1) p.2.1 p.2.2) (fun p=>s.length - p.1) (0,false,false) ⟨Nat.zero_le _,rfl⟩ ?_
 rintro ⟨k,b,n⟩ ⟨hk,hE⟩;simp only at hk hE;dsimp only [List.cons_append,List.nil_append];by_cases hlt:k<s.length
 ·obtain ⟨z,hz⟩:∃ z,s[k]? = some z:=⟨_,List.getElem?_eq_getElem hlt⟩
  have hzk:=Az (k:=.i64) hz;rw [AlU hz] at hE;by_cases h0:z<0
  ·rw [if_pos h0] at hE
   rw [hE,Wk] at hR;subst hR;refine Af ?_;exact Am
  ·rw [if_neg h0] at hE
   cases hB:decide (2048<z)<;>cases hN:(z == 0)<;>cases b<;>cases n
   all_goals
    have hB':=hB;have hN':=hN;simp only [decide_eq_true_eq,decide_eq_false_iff_not,beq_iff_eq,beq_eq_false_iff_ne,ne_eq] at hB' hN';rw [hB,hN] at hE
    first
     | (exfalso; omega)
     | (refine Af ?_
        exact ⟨(k+1,_,_),by simp only; omega,⟨by simp only; omega,hE⟩,BI hC.m []⟩)
 ·rw [List.drop_eq_nil_of_le (by omega),chk] at hE
  rw [hE] at hR;cases b
  ·cases n
   ·rw [Wk] at hR
    have hsm:=YB hE;refine Af ?_
    refine Ai [0,2,3] [] (fun p:Nat × Int=>[(7,.lit (.int .i64 p.2)),(8,.lit (.int .i64 p.1))]) (fun _=>[]) 0
     (fun p=>p.1≤s.length∧0≤p.2∧p.2≤2048∧Uq s 1=Uq (s.drop p.1) p.2) (fun p=>s.length - p.1) (0,1) ⟨Nat.zero_le _,by simp only; omega,by simp only; omega,rfl⟩ ?_
    rintro ⟨i,o⟩ ⟨hi,o0,o1,hM⟩;simp only at hi o0 o1 hM;dsimp only [List.cons_append,List.nil_append];by_cases hli:i<s.length
    ·obtain ⟨z,hz⟩:∃ z,s[i]? = some z:=⟨_,List.getElem?_eq_getElem hli⟩
     have hzk:=Az (k:=.i64) hz;have hzr:=hsm z (List.mem_of_getElem? hz);rw [Akf hz] at hM;have m0:0≤o * z:=Int.mul_nonneg o0 hzr.1;have m1:o * z≤2048 * 2048:=Int.mul_le_mul o1 hzr.2 hzr.1 (by omega);have hm : -9223372036854775808≤o * z∧o * z≤9223372036854775807:=by omega
     by_cases hg:o * z > 2048
     ·rw [if_pos hg] at hM
      rw [hM,Aem] at hR;subst hR;refine Af ?_;exact Am
     ·rw [if_neg hg] at hM
      refine Af ?_;exact ⟨(i+1,o * z),by simp only; omega,⟨by simp only; omega,m0,by simp only; omega,hM⟩,BI hC.m []⟩
    ·rw [List.drop_eq_nil_of_le (by omega),Uq] at hM
     rw [hM,Aem] at hR;subst hR;refine Af ?_;exact Am
   ·rw [Wk] at hR
    subst hR;refine Af ?_;exact Am
  ·rw [show Wk (some (true,n)) (Uq s 1)=(0,7) from by rw [Wk]] at hR
   subst hR;refine Af ?_;exact Am
def M9 (n:Fx):Bool := !n.neg && (n.top.length == 0 && n.bot.length == 0)
def PC (A:Al):Bool:=A.shape.length == 0 && (A.cells.length == 1 && (match A.cells with|c::_=>c.kind != 2|[]=>false))
def AhF (c:Int):Bool:=decide (0≤c) && (decide (c≤1114111) && (decide (c<55296) || decide (c > 57343)))
mutual
def Cl (d:Nat):Al→Bool
 | .mk _ sh cs=>((QY sh).2 == 0) && (((QY sh).1 == (cs.length:Int)) && Ee d cs)
def Ee (d:Nat):List Ah→Bool
 | []=>true
 | c::cs=>Gq d c && Ee d cs
def Gq (d:Nat):Ah→Bool
 | .mk _ k n c ins=>if k=0 then (c == 0) && ((ins.length == 0) && QX n)
   else if k=1 then M9 n && ((ins.length == 0) && AhF c)
   else (k == 2) && (M9 n && ((c == 0) && ((ins.length == 1) && (decide (0<d) && Rf (d - 1) ins))))
def Rf (d:Nat):List Al→Bool
 | []=>false
 | a::_ => !PC a && Cl d a
end
theorem Rg (d:Nat) (A:Al):Cl d A=(((QY A.shape).2 == 0) && (((QY A.shape).1 == (A.cells.length:Int)) && Ee d A.cells)):=by cases A; unfold Cl; rfl
theorem Xh (d:Nat) (c:Ah):Gq d c=if c.kind=0 then (c.c == 0) && ((c.ins.length == 0) && QX c.n)
 else if c.kind=1 then M9 c.n && ((c.ins.length == 0) && AhF c.c)
 else (c.kind == 2) && (M9 c.n && ((c.c == 0) && ((c.ins.length == 1) && (decide (0<d) && Rf (d - 1) c.ins)))):=by cases c; unfold Gq; rfl
theorem Ac3 {cs:List Ah} {k:Nat} {c:Ah} (h:cs[k]? = some c) (d:Nat):Ee d (cs.drop k)=(Gq d c && Ee d (cs.drop (k+1))):=by
 obtain ⟨hk,rfl⟩:=List.getElem?_eq_some_iff.1 h;rw [List.drop_eq_getElem_cons hk,Ee]
theorem Dp {d:Nat}:∀ {cs:List Ah},Ee d cs=true↔∀ c ∈ cs,Gq d c=true
 | []=>by simp [Ee]
 | c::cs=>by simp only [Ee,Bool.and_eq_true,List.mem_cons,forall_eq_or_imp,Dp]
theorem AlV (n:Fx):Ae Tryz.prog 154 [.agg (AY n)] (.lit (.bool (M9 n))):=by
 have lt:=Ac .u32 n.top;have lb:=Ac .u32 n.bot;refine Aa K9 fun C hC => ?_;obtain ⟨g,t,b⟩:=n;simp only [M9] at lt lb ⊢;cases g
 ·by_cases h1:t.length=0
  ·by_cases h2:b.length=0
   ·rw [h1,h2]
    refine Af ?_;exact Am
   ·rw [h1,Ck h2]
    refine Af ?_;exact Am
  ·rw [Ck h1]
   refine Af ?_;exact Am
 ·refine Af ?_
  exact Am
theorem Am5 (c:Int):Ae Tryz.prog 155 [.lit (.int .i64 c)] (.lit (.bool (AhF c))):=by
 refine Aa MF fun C hC => ?_;unfold AhF;by_cases h1:0≤c
 ·by_cases h2:c≤1114111
  ·by_cases h3:c<55296
   ·simp only [h1,h2,h3,decide_true,Bool.true_and,Bool.true_or]
    refine Af ?_;exact Am
   ·by_cases h4:c > 57343
    ·simp only [h1,h2,h3,h4,decide_true,decide_false,Bool.true_and,Bool.false_or]
     refine Af ?_;exact Am
    ·simp only [h1,h2,h3,h4,decide_true,decide_false,Bool.true_and,Bool.false_or]
     refine Af ?_;exact Am
  ·simp only [h1,h2,decide_true,decide_false,Bool.true_and,Bool.false_and]
   refine Af ?_;exact Am
 ·simp only [h1,decide_false,Bool.false_and]
  refine Af ?_;exact Am
theorem AhG (A:Al):Ae Tryz.prog 156 [.agg (Ao A)] (.lit (.bool (PC A))):=by
 have lsh:=Ac .i64 A.shape;have lcs:=AK A;refine Aa JC fun C hC => ?_;unfold PC;by_cases h1:A.shape.length=0
 ·rw [h1,beq_self_eq_true,Bool.true_and]
  by_cases h2:A.cells.length=1
  ·rw [h2,beq_self_eq_true,Bool.true_and]
   obtain ⟨c,hc⟩:∃ c,A.cells[0]? = some c:=⟨_,List.getElem?_eq_getElem (by omega)⟩;have hck:=A9 hc
   have e:(match A.cells with|c::_=>c.kind != 2|[]=>false)=(c.kind != 2):=by
    match hA:A.cells,hc with
    | c'::r,hc=>simp at hc; subst hc; rfl
   rw [e];by_cases h3:c.kind=2
   ·rw [h3]
    refine Af ?_;exact Am
   ·rw [show (c.kind != 2)=true from by simpa using h3]
    refine Af ?_;exact Am
  ·rw [Ck h2]
   refine Af ?_;exact Am
 ·rw [Ck h1]
  refine Af ?_;exact Am
abbrev Na (st:Bool):AV:=.ep 1 [[.lit (.bool st)]] 0 0
def Qq {α:Type} (p:α→α→Bool):List α→List α→Bool
 | [],[]=>true
 | x::xs,y::ys=>p x y && Qq p xs ys
 | _,_=>false
theorem Abf {α:Type} (p:α→α→Bool) {cs ds:List α} {k:Nat} {c d:α} (hc:cs[k]? = some c) (hd:ds[k]? = some d):Qq p (cs.drop k) (ds.drop k)=(p c d && Qq p (cs.drop (k+1)) (ds.drop (k+1))):=by
 obtain ⟨h1,rfl⟩:=List.getElem?_eq_some_iff.1 hc;obtain ⟨h2,rfl⟩:=List.getElem?_eq_some_iff.1 hd;rw [List.drop_eq_getElem_cons h1,List.drop_eq_getElem_cons h2,Qq]
theorem YW {α:Type} (p:α→α→Bool):∀ (cs ds:List α),¬ cs.length=ds.length→Qq p cs ds=false
 | [],[],h=>absurd rfl h
 | [],_::_,_=>rfl
 | _::_,[],_=>rfl
 | c::cs,d::ds,h=>by rw [Qq,YW p cs ds (by simpa using h),Bool.and_false]
theorem Td {α β:Type} (f:α→β) (xs:List α):((xs.map f).length:Int)=xs.length:=by simp
theorem Xi (xs ys:List Ah) (F:FuncId) (st:Bool) (p:Ah→Ah→Bool) (hF:∀ x ∈ xs,∀ y ∈ ys,Ae Tryz.prog F (.agg (Au x)::.agg (Au y)::[Na st]) (.lit (.bool (p x y)))) :
 Ae Tryz.prog 202 [.sl 7 (xs.map Av),.sl 7 (ys.map Av),.fn F [] [Na st]] (.lit (.bool (Qq p xs ys))):=by
 have lx:=Td Av xs;have ly:=Td Av ys;refine Aa FB fun C hC => ?_;refine DN 0 ((xs.map Av).length≤281474976710656) (fun E w v h=>DO h) fun hx => ?_;refine DN 1 ((ys.map Av).length≤281474976710656) (fun E w v h=>DO h) fun hy => ?_;by_cases hl:xs.length=ys.length
 ·refine AI ?_
  refine Dr (X:=Nat) (fun k=>⟨[(0,.sl 7 (xs.map Av)),(1,.sl 7 (ys.map Av)),(2,.fn F [] [Na st]),(6,.lit (.bool false)),(15,.sl 7 (xs.map Av)),(16,.lit (.int .i64 xs.length)),(17,.lit (.int .i64 k))],[],0⟩) (fun k=>k≤xs.length∧Qq p xs ys=Qq p (xs.drop k) (ys.drop k)) (fun k=>xs.length - k) 0 (wk hC [] [0,1,2,6,15,16,17] 0) ⟨Nat.zero_le _,rfl⟩ ?_;rintro k ⟨hk,hE⟩;by_cases hlt:k<xs.length
  ·obtain ⟨x,hx'⟩:∃ x,xs[k]? = some x:=⟨_,List.getElem?_eq_getElem hlt⟩
   obtain ⟨y,hy'⟩:∃ y,ys[k]? = some y:=⟨_,List.getElem?_eq_getElem (by omega)⟩;have hxk:=A9 hx';have hyk:=A9 hy';rw [Abf p hx' hy'] at hE;refine AI ?_;refine AH (A1 ?_);refine B3 (hF x (List.mem_of_getElem? hx') y (List.mem_of_getElem? hy')) ?_;cases h4:p x y
   ·rw [h4,Bool.false_and] at hE
    rw [hE];refine A1 ?_;refine Ak ⟨rfl,?_⟩;refine AI ?_;exact ⟨_,_,rfl,rfl,Bl.refl _⟩
   ·rw [h4,Bool.true_and] at hE
    refine A1 ?_;refine Ak ⟨rfl,?_⟩;refine AI ?_;exact ⟨k+1,by omega,⟨by omega,hE⟩,wk hC [] [0,1,2,6,15,16,17] 0⟩
  ·rw [List.drop_eq_nil_of_le (by omega),List.drop_eq_nil_of_le (by omega),Qq] at hE
   rw [hE];refine AI ?_;exact ⟨_,_,rfl,rfl,Bl.refl _⟩
 ·rw [YW p _ _ hl]
  refine AI ?_;exact ⟨_,_,rfl,rfl,Bl.refl _⟩
theorem Abg (xs ys:List Al) (F:FuncId) (st:Bool) (p:Al→Al→Bool) (hF:∀ x ∈ xs,∀ y ∈ ys,Ae Tryz.prog F (.agg (Ao x)::.agg (Ao y)::[Na st]) (.lit (.bool (p x y)))) :
 Ae Tryz.prog 205 [.sl 3 (xs.map Dg),.sl 3 (ys.map Dg),.fn F [] [Na st]] (.lit (.bool (Qq p xs ys))):=by
 have lx:=Td Dg xs;have ly:=Td Dg ys;refine Aa Fv fun C hC => ?_;refine DN 0 ((xs.map Dg).length≤281474976710656) (fun E w v h=>DO h) fun hx => ?_;refine DN 1 ((ys.map Dg).length≤281474976710656) (fun E w v h=>DO h) fun hy => ?_;by_cases hl:xs.length=ys.length
 ·refine AI ?_
  refine Dr (X:=Nat) (fun k=>⟨[(0,.sl 3 (xs.map Dg)),(1,.sl 3 (ys.map Dg)),(2,.fn F [] [Na st]),(6,.lit (.bool false)),(15,.sl 3 (xs.map Dg)),(16,.lit (.int .i64 xs.length)),(17,.lit (.int .i64 k))],[],0⟩) (fun k=>k≤xs.length∧Qq p xs ys=Qq p (xs.drop k) (ys.drop k)) (fun k=>xs.length - k) 0 (wk hC [] [0,1,2,6,15,16,17] 0) ⟨Nat.zero_le _,rfl⟩ ?_;rintro k ⟨hk,hE⟩;by_cases hlt:k<xs.length
  ·obtain ⟨x,hx'⟩:∃ x,xs[k]? = some x:=⟨_,List.getElem?_eq_getElem hlt⟩
   obtain ⟨y,hy'⟩:∃ y,ys[k]? = some y:=⟨_,List.getElem?_eq_getElem (by omega)⟩;have hxk:=CY hx';have hyk:=CY hy';rw [Abf p hx' hy'] at hE;refine AI ?_;refine AH (A1 ?_);refine B3 (hF x (List.mem_of_getElem? hx') y (List.mem_of_getElem? hy')) ?_;cases h4:p x y
   ·rw [h4,Bool.false_and] at hE
    rw [hE];refine A1 ?_;refine Ak ⟨rfl,?_⟩;refine AI ?_;exact ⟨_,_,rfl,rfl,Bl.refl _⟩
   ·rw [h4,Bool.true_and] at hE
    refine A1 ?_;refine Ak ⟨rfl,?_⟩;refine AI ?_;exact ⟨k+1,by omega,⟨by omega,hE⟩,wk hC [] [0,1,2,6,15,16,17] 0⟩
  ·rw [List.drop_eq_nil_of_le (by omega),List.drop_eq_nil_of_le (by omega),Qq] at hE
   rw [hE];refine AI ?_;exact ⟨_,_,rfl,rfl,Bl.refl _⟩
 ·rw [YW p _ _ hl]
  refine AI ?_;exact ⟨_,_,rfl,rfl,Bl.refl _⟩
mutual
def Rh (st:Bool):Al→Al→Bool
 | .mk s sh cs,.mk s2 sh2 cs2=>(!st || s == s2) && (B5 sh sh2 && R0 st cs cs2)
def R0 (st:Bool):List Ah→List Ah→Bool
 | [],[]=>true
 | c::cs,d::ds=>SM st c d && R0 st cs ds
 | _,_=>false
def SM (st:Bool):Ah→Ah→Bool
 | .mk l k n c ins,.mk l2 k2 n2 c2 ins2=>(!st || l == l2) && ((k == k2) && ((c == c2) && (Ix n n2 && UO st ins ins2)))
def UO (st:Bool):List Al→List Al→Bool
 | [],[]=>true
 | c::cs,d::ds=>Rh st c d && UO st cs ds
 | _,_=>false
end
theorem Xj (st:Bool):∀ (cs ds:List Ah),R0 st cs ds=Qq (SM st) cs ds
 | [],[]=>by simp [R0,Qq]
 | [],_::_=>by simp [R0,Qq]
 | _::_,[]=>by simp [R0,Qq]
 | c::cs,d::ds=>by rw [R0,Qq,Xj st cs ds]
theorem Xk (st:Bool):∀ (cs ds:List Al),UO st cs ds=Qq (Rh st) cs ds
 | [],[]=>by simp [UO,Qq]
 | [],_::_=>by simp [UO,Qq]
 | _::_,[]=>by simp [UO,Qq]
 | c::cs,d::ds=>by rw [UO,Qq,Xk st cs ds]
theorem Akg (st:Bool) (A B:Al):Rh st A B=((!st || A.s == B.s) && (B5 A.shape B.shape && Qq (SM st) A.cells B.cells)):=by cases A; cases B; simp only [Rh,Al.s,Al.shape,Al.cells,Xj]
theorem Akh (st:Bool) (c d:Ah):SM st c d=((!st || c.l == d.l) && ((c.kind == d.kind) && ((c.c == d.c) && (Ix c.n d.n && Qq (Rh st) c.ins d.ins)))):=by cases c; cases d; simp only [SM,Ah.l,Ah.kind,Ah.c,Ah.n,Ah.ins,Xk]
theorem Aep {st:Bool} {a b:Nat} (h:false=(!st || a == b)):st=true∧¬ a=b:=by
 cases st
 ·cases h
 ·exact ⟨rfl,fun e=>by simp [e] at h⟩
theorem PD {st:Bool} {a b:Nat} (h:true=(!st || a == b)):st=false∨(st=true∧a=b):=by
 cases st
 ·exact .inl rfl
 ·exact .inr ⟨rfl,by simpa using h⟩
mutual
theorem Aeq (st:Bool):∀ (A B:Al),Ae Tryz.prog 167 [.agg (Ao A),.agg (Ao B),.lit (.bool st)] (.lit (.bool (Rh st A B)))
 | A,B=>by
   have sub:∀ x ∈ A.cells,∀ y ∈ B.cells,Ae Tryz.prog 203 [.agg (Au x),.agg (Au y),Na st] (.lit (.bool (SM st x y))):=fun x hx y hy=>by
    have ht:SizeOf.sizeOf x<SizeOf.sizeOf A:=Nat.lt_trans (FI hx) A.size;exact AhH st x y
   refine Aa QA fun C hC => ?_;rw [Akg]
   have key:∀ (b:Bool),b=(!st || A.s == B.s)→AW Tryz.prog C Hd.body (Afy Hd.res (.lit (.bool (b && (B5 A.shape B.shape && Qq (SM st) A.cells B.cells))))) ⟨Js 0 [.agg (Ao A),.agg (Ao B),.lit (.bool st)],[],0⟩:=by
    intro b hb;cases b
    ·obtain ⟨rfl,hne⟩:st=true∧¬ A.s=B.s:=Aep hb
     refine AI ?_;exact ⟨_,_,rfl,rfl,Bl.refl _⟩
    ·rw [Bool.true_and]
     have rest:st=false∨(st=true∧A.s=B.s):=PD hb;rcases rest with rfl|⟨rfl,he⟩
     ·refine AI ?_
      refine AH (A1 ?_);refine B3 (NM A.shape B.shape) ?_;cases h2:B5 A.shape B.shape
      ·refine A1 ?_
       refine Ak ⟨rfl,?_⟩;refine AI ?_;exact ⟨_,_,rfl,rfl,Bl.refl _⟩
      ·rw [Bool.true_and]
       refine A1 ?_;refine Ak ⟨rfl,?_⟩;refine AI ?_;refine AH (A1 ?_);refine Aec false [2] (Xi A.cells B.cells _ false _ sub) (A1 ?_);refine Ak ⟨rfl,?_⟩;refine AI ?_;exact ⟨_,_,rfl,rfl,Bl.refl _⟩
     ·refine AI ?_
      refine AH (A1 ?_);refine B3 (NM A.shape B.shape) ?_;cases h2:B5 A.shape B.shape
      ·refine A1 ?_
       refine Ak ⟨rfl,?_⟩;refine AI ?_;exact ⟨_,_,rfl,rfl,Bl.refl _⟩
      ·rw [Bool.true_and]
       refine A1 ?_;refine Ak ⟨rfl,?_⟩;refine AI ?_;refine AH (A1 ?_);refine Aec false [2] (Xi A.cells B.cells _ true _ sub) (A1 ?_);refine Ak ⟨rfl,?_⟩;refine AI ?_;exact ⟨_,_,rfl,rfl,Bl.refl _⟩
   exact key _ rfl
 termination_by A=>SizeOf.sizeOf A
theorem AhH (st:Bool):∀ (A B:Ah),Ae Tryz.prog 203 [.agg (Au A),.agg (Au B),Na st] (.lit (.bool (SM st A B)))
 | A,B=>by
   have sub:∀ x ∈ A.ins,∀ y ∈ B.ins,Ae Tryz.prog 206 [.agg (Ao x),.agg (Ao y),Na st] (.lit (.bool (Rh st x y))):=fun x hx y hy=>by
    have ht:SizeOf.sizeOf x<SizeOf.sizeOf A:=Nat.lt_trans (Hq hx) A.size;have rec_:=Aeq st x y;refine Aa KT fun C hC => ?_;refine AI ?_;refine AH (A1 ?_);refine B3 rec_ (A1 ?_);refine Ak ⟨rfl,?_⟩;refine AI ?_;exact ⟨_,_,rfl,rfl,Bl.refl _⟩
   refine Aa Nt fun C hC => ?_;rw [Akh]
   have key:∀ (b:Bool),b=(!st || A.l == B.l)→AW Tryz.prog C FA.body (Afy FA.res (.lit (.bool (b && ((A.kind == B.kind) && ((A.c == B.c) && (Ix A.n B.n && Qq (Rh st) A.ins B.ins))))))) ⟨Js 0 [.agg (Au A),.agg (Au B),Na st],[],0⟩:=by
    intro b hb;cases b
    ·obtain ⟨rfl,hne⟩:st=true∧¬ A.l=B.l:=Aep hb
     refine AI ?_;exact ⟨_,_,rfl,rfl,Bl.refl _⟩
    ·rw [Bool.true_and]
     by_cases h5:A.kind=B.kind
     ·rw [h5,beq_self_eq_true,Bool.true_and]
      by_cases h6:A.c=B.c
      ·rw [h6,beq_self_eq_true,Bool.true_and]
       have rest:st=false∨(st=true∧A.l=B.l):=PD hb;rcases rest with rfl|⟨rfl,he⟩
       ·refine AI ?_
        refine AH (A1 ?_);refine B3 (Alr A.n B.n) ?_;cases h2:Ix A.n B.n
        ·refine A1 ?_
         refine Ak ⟨rfl,?_⟩;refine AI ?_;exact ⟨_,_,rfl,rfl,Bl.refl _⟩
        ·rw [Bool.true_and]
         refine A1 ?_;refine Ak ⟨rfl,?_⟩;refine AI ?_;refine AH (A1 ?_);refine B3 (Abg A.ins B.ins _ false _ sub) (A1 ?_);refine Ak ⟨rfl,?_⟩;refine AI ?_;exact ⟨_,_,rfl,rfl,Bl.refl _⟩
       ·refine AI ?_
        refine AH (A1 ?_);refine B3 (Alr A.n B.n) ?_;cases h2:Ix A.n B.n
        ·refine A1 ?_
         refine Ak ⟨rfl,?_⟩;refine AI ?_;exact ⟨_,_,rfl,rfl,Bl.refl _⟩
        ·rw [Bool.true_and]
         refine A1 ?_;refine Ak ⟨rfl,?_⟩;refine AI ?_;refine AH (A1 ?_);refine B3 (Abg A.ins B.ins _ true _ sub) (A1 ?_);refine Ak ⟨rfl,?_⟩;refine AI ?_;exact ⟨_,_,rfl,rfl,Bl.refl _⟩
      ·rw [CO h6,Bool.false_and]
       have rest:st=false∨(st=true∧A.l=B.l):=PD hb;rcases rest with rfl|⟨rfl,he⟩<;>(refine AI ?_; exact ⟨_,_,rfl,rfl,Bl.refl _⟩)
     ·rw [CO h5,Bool.false_and]
      have rest:st=false∨(st=true∧A.l=B.l):=PD hb;rcases rest with rfl|⟨rfl,he⟩<;>(refine AI ?_; exact ⟨_,_,rfl,rfl,Bl.refl _⟩)
   exact key _ rfl
 termination_by A=>SizeOf.sizeOf A
end
end Go.Proofs.YtjcolpcfcdkckaaGreat
