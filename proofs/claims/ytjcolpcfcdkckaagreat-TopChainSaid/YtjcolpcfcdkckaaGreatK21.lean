/- Natural numbers of the program: divided by one of two limbs and more. -/
import Derived.Test.YtjcolpcfcdkckaaGreatK19
import Derived.Test.YtjcolpcfcdkckaaGreatK20
set_option maxRecDepth 10000
set_option maxHeartbeats 4000000
namespace Go.Proofs.YtjcolpcfcdkckaaGreat
set_option linter.unusedVariables false
open Go.RowKit
section
variable {P:Program} {tt:List (Nat × AV)} {hh:Hp} {nn dd:Nat} {g:Option (Nat × Bool)} {l:List AG} {acc:List SD} {K:List SD→St→Prop}
theorem Je {sz:Nat} {x:Operand} {lo hi:Option Operand} {id:Nat} {ob:OB} (a n:Nat) (h:RG P (⟨⟨some dd,g,.slice sz x lo hi none⟩,.osl id a n,[id],[],0⟩::acc) l ⟨(dd,.osl id a n)::tt,hh,nn⟩ K) (hg:BD ⟨tt,hh,nn⟩ g:=by first|exact True.intro|rfl) (hx:ev ⟨tt,hh,nn⟩ x=.own id:=by rfl) (ho:hl hh id=some ob:=by rfl) (hrow:ob.row=true:=by rfl) (hsz:ob.sz=sz:=by rfl) (h2:a+n≤ob.es.length:=by first|omega|(dsimp only [DE]; omega)) (h3:a<ob.es.length:=by first|omega|(dsimp only [DE]; omega))
 (hlo:HJ ⟨tt,hh,nn⟩ lo 0 a:=by first|exact rfl|exact ⟨_,rfl⟩|exact ⟨.i64,congrArg (fun z=>AV.lit (Value.int IntKind.i64 z)) (by omega)⟩) (hhi:HJ ⟨tt,hh,nn⟩ hi ob.es.length (a+n:Nat):=by first|exact rfl|exact ⟨.i64,congrArg (fun z=>AV.lit (Value.int IntKind.i64 z)) (by omega)⟩):RG P acc (⟨some dd,g,.slice sz x lo hi none⟩::l) ⟨tt,hh,nn⟩ K :=
  RG.step ((AaS hg hx ho hrow hsz hlo hhi (by omega) h2 h3).cast (by rw [Nat.add_sub_cancel_left])) h
end
theorem L2 {ys r:List Int} {off n:Nat} (hr:r.length=n) (h:off+n≤ys.length):(DF ys off n r).length=ys.length:=by simp [DF,hr]; omega
theorem AbG {ys r:List Int} (hy:AD ys) (hr:AD r) (off n:Nat):AD (DF ys off n r):=((hy.take off).app hr).app (hy.drop _)
theorem U9 {ys r:List Int} {off n:Nat} (h:off+n≤ys.length):(DF ys off n r).take off=ys.take off:=by
 rw [DF,List.append_assoc,List.take_append_of_le_length (by simp; omega),List.take_take,Nat.min_self]
theorem Ob {ys r:List Int} {off n:Nat} (h:off+n≤ys.length):(DF ys off n r).drop off=r++ys.drop (off+n):=by
 rw [DF,List.append_assoc,List.drop_append_of_le_length (by simp; omega),List.drop_eq_nil_of_le (by simp; omega),List.nil_append]
theorem Af4 {ys r:List Int} {off n:Nat} (hr:r.length=n) (h:off+n≤ys.length):Nb (DF ys off n r) off n=r:=by
 rw [Nb,Ob h,List.take_append_of_le_length (by omega),List.take_of_length_le (by omega)]
theorem Af5 {ys r s:List Int} {off n:Nat} (hr:r.length=n) (h:off+n≤ys.length):DF (DF ys off n r) off n s=DF ys off n s:=by
 have h1:=U9 (r:=r) h
 have h2:(DF ys off n r).drop (off+n)=ys.drop (off+n):=by
  rw [DF,List.drop_append_of_le_length (by simp [hr]; omega),List.drop_eq_nil_of_le (by simp [hr]; omega),List.nil_append]
 show (DF ys off n r).take off++s++(DF ys off n r).drop (off+n)=_;rw [h1,h2]; rfl
theorem Xv:∀ (n:Nat) (V:Int),(DA (n+1) V).take n=DA n V
 | 0,V=>rfl
 | n+1,V=>by
   rw [DA,List.take_succ_cons,Xv n]; rfl
theorem Akz {ys:List Int} {k n:Nat} (h:k+n≤ys.length):vI (ys.drop k)=vI (Nb ys k n)+BB n * vI (ys.drop (k+n)):=by
 have:=Ev (ys.drop k) (k:=n) (by simp; omega)
 rw [List.drop_drop] at this;exact this
structure Oc (N D:Int) (m n k:Nat) (R q:List Int):Prop where
 le:k+n≤m+1
 lq:q.length+k+n=m+1
 oq:AD q
 lR:R.length=m+1
 oR:AD R
 top:vI (R.drop k)<D
 val:N=vI R+D * (BB k * vI q)
theorem Oc.step {N D:Int} {m n k:Nat} {R q:List Int} (L:Oc N D m n (k+1) R q) (hD:D<BB n) (hD0:0<D) :
 vI (Nb R k (n+1))<D * 4294967296∧∀ Q:Int,0≤Q→Q<4294967296→0≤vI (Nb R k (n+1)) - Q * D→vI (Nb R k (n+1)) - Q * D<D →
  Oc N D m n k (DF R k (n+1) (DA (n+1) (vI (Nb R k (n+1)) - Q * D))) (Q::q):=by
 obtain ⟨le,lq,oq,lR,oR,top,val⟩:=L;have hw:=Akz (ys:=R) (k:=k) (n:=n+1) (by omega);have h1:=List.drop_eq_getElem_cons (l:=R) (i:=k) (by omega);have ok:=oR _ (List.getElem_mem (l:=R) (n:=k) (by omega));have hT:vI (R.drop k)=R[k]+4294967296 * vI (R.drop (k+1)):=by rw [h1,vI]
 have hT1:vI (R.drop k)<D * 4294967296:=by omega
 have nz:=BM (oR.drop (k+(n+1)));have hB:D * 4294967296<BB (n+1):=by rw [BX]; omega
 have nw:=BM (Zb oR k (n+1));have pB:=EL (n+1)
 have hz:vI (R.drop (k+(n+1)))=0:=by
  refine Int.not_lt.1 (fun hc => ?_) |> fun h=>Int.le_antisymm h nz
  have:=Int.mul_le_mul_of_nonneg_left (show (1:Int)≤vI (R.drop (k+(n+1))) by omega) (Int.le_of_lt pB)
  omega
 rw [hz,Int.mul_zero,Int.add_zero] at hw;refine ⟨by omega,fun Q q0 q1 w0 w1=>⟨by omega,by simp; omega,fun z hz => ?_,by rw [L2 (CQ _ _) (by omega)]; exact lR,AbG oR (GS _ _) _ _,?_,?_⟩⟩
 ·rcases List.mem_cons.1 hz with rfl|hz
  ·exact ⟨q0,q1⟩
  ·exact oq z hz
 ·rw [Ob (by omega),EV,hz,Int.mul_zero,Int.add_zero,Fg _ _ w0 (by omega)]
  exact w1
 ·have s1:=Ev (DF R k (n+1) (DA (n+1) (vI (Nb R k (n+1)) - Q * D))) (k:=k) (by rw [L2 (CQ _ _) (by omega)]; omega)
  rw [U9 (by omega),Ob (by omega),EV,hz,Int.mul_zero,Int.add_zero,Fg _ _ w0 (by omega)] at s1;have s2:=Ev R (k:=k) (by omega);rw [hw] at s2;rw [val,s1,s2,vI,BX]
  grind
structure Al9 (X Y:Nat) (n:Nat) (s:Nat) (P d1:Int):Prop where
 shf:Shf s P
 n2:2≤n
 lY:(limbs Y).length=n
 lt:(Y:Int) * P<BB n
 top:(DA n ((Y:Int) * P))[n - 1]? = some d1
 big:2147483648≤d1
 ge:BB (n - 1) * P≤(Y:Int) * P
theorem Ama {X Y n s:Nat} {x:Int} (hn:(limbs Y).length=n) (n2:2≤n) (hx:(limbs Y)[n - 1]? = some x) (hs:s≤31) (h1:2147483648≤x * ((2 ^ s:Nat):Int)) (h2:x * ((2 ^ s:Nat):Int)<4294967296) :
 ∃ d1,Al9 X Y n s ((2 ^ s:Nat):Int) d1:=by
 have hS:Shf s ((2 ^ s:Nat):Int):=⟨hs,rfl⟩;have hp:=hS.pos;obtain ⟨Q,hQ⟩:=hS.dvd;have hS':=hS;generalize ((2 ^ s:Nat):Int)=P at *;have hv:=A7 hx;rw [show n - 1+1=n from by omega,List.take_of_length_le (by omega),B1] at hv;have b1:=Hr ((Ar Y).take (n - 1));rw [List.length_take,Nat.min_eq_left (by omega)] at b1;have b0:=BM ((Ar Y).take (n - 1));have pW:=EL (n - 1);have x0:=(Cf (Ar Y) hx).1;generalize vI ((limbs Y).take (n - 1))=yL at *
 have hxQ:x+1≤Q:=by
  have hq:x * P<Q * P:=by rw [Int.mul_comm Q P,hQ]; exact h2
  have:=Int.lt_of_mul_lt_mul_right hq (Int.le_of_lt hp)
  omega
 have hBn:BB n=BB (n - 1) * 4294967296:=by rw [← BX]; congr 1; omega
 have hlt:(Y:Int) * P<BB n:=by
  have u1:=Int.mul_le_mul_of_nonneg_left hxQ (Int.le_of_lt pW);have u2:=Int.mul_lt_mul_of_pos_right (show (Y:Int)<BB (n - 1) * Q by rw [hv]; rw [Int.mul_add] at u1; omega) hp;rw [hBn,← hQ]
  grind
 have hd:=CQ n ((Y:Int) * P);have hdv:=Fg n ((Y:Int) * P) (Int.mul_nonneg (by omega) (Int.le_of_lt hp)) hlt;obtain ⟨d1,hd1⟩:∃ d,(DA n ((Y:Int) * P))[n - 1]? = some d:=⟨_,List.getElem?_eq_getElem (by omega)⟩;have dv:=A7 hd1;rw [show n - 1+1=n from by omega,List.take_of_length_le (by omega),hdv] at dv;have c1:=Hr ((GS n ((Y:Int) * P)).take (n - 1));rw [List.length_take,Nat.min_eq_left (by omega)] at c1;refine ⟨d1,hS',n2,hn,hlt,hd1,?_,?_⟩
 ·refine Int.not_lt.1 fun hc => ?_
  have u1:=Int.mul_le_mul_of_nonneg_left (show d1+1≤x * P by omega) (Int.le_of_lt pW)
  have u2:BB (n - 1) * (x * P)≤(Y:Int) * P:=by
   rw [hv]
   have:=Int.mul_nonneg b0 (Int.le_of_lt hp)
   grind
  rw [Int.mul_add] at u1;omega
 ·have x1:1≤x:=by
   refine Int.not_lt.1 fun hc => ?_
   have:x=0:=by omega
   rw [this] at h1;omega
  have u1:=Int.mul_le_mul_of_nonneg_left x1 (Int.le_of_lt pW);exact Int.mul_le_mul_of_nonneg_right (by omega) (Int.le_of_lt hp)
theorem Oc.last {X Y m n:Nat} {P N D:Int} {R q:List Int} (L:Oc N D m n 0 R q) (hX:(X:Int) * P=N) (hY:(Y:Int) * P=D) (hp:0<P) (hD:D<BB n) :
 CJ q=limbs (X / Y)∧(vI (R.take n) / P).toNat=X % Y:=by
 obtain ⟨le,lq,oq,lR,oR,top,val⟩:=L;have sp:=Ev R (k:=n) (by omega);have n1:=BM (oR.take n);have n2:=BM (oR.drop n);have n3:=BM oq;have n4:=BM oR;rw [List.drop_zero] at top;rw [JN,Int.one_mul] at val
 have hz:vI (R.drop n)=0:=by
  refine Int.not_lt.1 (fun hc => ?_) |> fun h=>Int.le_antisymm h n2
  have:=Int.mul_le_mul_of_nonneg_left (show (1:Int)≤vI (R.drop n) by omega) (Int.le_of_lt (EL n))
  omega
 rw [hz,Int.mul_zero,Int.add_zero] at sp;rw [← sp];generalize vI R=r at *;have e:r=((X:Int) - Y * vI q) * P:=by rw [Int.sub_mul,hX,val,← hY]; grind
 have r0:0≤(X:Int) - Y * vI q:=by
  refine Int.not_lt.1 fun hc => ?_
  have:=Int.mul_lt_mul_of_pos_right hc hp
  omega
 have r1:(X:Int) - Y * vI q<Y:=by
  rw [e,← hY] at top;exact Int.lt_of_mul_lt_mul_right top (Int.le_of_lt hp)
 have hq:(X:Int) / Y=vI q:=by
  rw [show (X:Int)=((X:Int) - Y * vI q)+Y * vI q from by omega,Int.add_mul_ediv_left _ _ (by omega),Int.ediv_eq_zero_of_lt r0 r1,Int.zero_add]
 have hm:(X:Int) % Y=(X:Int) - Y * vI q:=by rw [← hq]; exact Int.emod_def _ _
 refine ⟨F6 oq (by rw [← hq]; omega),?_⟩;rw [e,Int.mul_ediv_cancel _ (by omega),← hm];omega
theorem Amb (X Y n m:Nat) (hn:(limbs Y).length=n) (hm:(limbs X).length=m) (n2:2≤n) (nm:n≤m) (hm5:m≤90000) :
 Ae Tryz.prog 248 [.sl 1 (Ab .u32 (limbs X)),.sl 1 (Ab .u32 (limbs Y))] (.tup [.sl 1 (Ab .u32 (limbs (X / Y))),.sl 1 (Ab .u32 (limbs (X % Y)))]):=by
 have lX:=Ac .u32 (limbs X);have lY:=Ac .u32 (limbs Y);rw [hm] at lX;rw [hn] at lY;obtain ⟨x,hx⟩:∃ x,(limbs Y)[n - 1]? = some x:=⟨_,List.getElem?_eq_getElem (by omega)⟩;have e1:((n:Int) - 1).toNat=n - 1:=by omega
 have hxk:(Ab .u32 (limbs Y))[((n:Int) - 1).toNat]? = some [B0 x]:=by rw [e1]; exact Az hx
 obtain ⟨x0,x1⟩:=Cf (Ar Y) hx
 have xp:0<x:=by
  refine Int.not_le.1 fun hc => ?_
  have:x=0:=by omega
  subst this;have hv:=A7 hx;rw [show n - 1+1=n from by omega,List.take_of_length_le (by omega),B1,Int.mul_zero,Int.add_zero] at hv;have b1:=Hr ((Ar Y).take (n - 1));rw [List.length_take,Nat.min_eq_left (by omega),← hv] at b1
  have:=Fe b1
  omega
 obtain ⟨xn,rfl⟩:=Int.eq_ofNat_of_zero_le x0;obtain ⟨s,cl,hs,h31,h32⟩:=AhA xn (by omega) (by omega);obtain ⟨d1,L⟩:=Ama (X:=X) hn n2 hx hs (by rw [← Int.natCast_mul]; omega) (by rw [← Int.natCast_mul]; omega);generalize ((2 ^ s:Nat):Int)=P at *;obtain ⟨shf,_,_,hlt,htop,hbig,hge⟩:=L;have hp:=shf.pos;have hpl:=shf.le;have cu:=Anb (limbs Y) s P shf (Ar Y) (by omega);have cv:=Anb (limbs X) s P shf (Ar X) (by omega);rw [B1,hn] at cu;rw [B1,hm] at cv;have hY0:Y≠0:=fun h=>by rw [h,AC] at hn; simp at hn; omega
 have hD0:0<(Y:Int) * P:=Int.mul_pos (by omega) hp;generalize hDD:(Y:Int) * P=D at *;generalize hNN:(X:Int) * P=N at *;have ldD:=CQ n D;have ldD1:=Ac .u32 (DA (n+1) D);rw [CQ] at ldD1;have ldN:=CQ (m+1) N;have ldN1:=Ac .u32 (DA (m+1) N);rw [CQ] at ldN1;have em:((m:Int) - n+1).toNat=m - n+1:=by omega
 refine Aa Wn fun C hC => ?_;refine Aj ?_;refine Cw [] cu ?_;refine A5 ?_;refine AhJ (ob:=DE (DA (n+1) D)) (k:=n) (by show n≤(Ab .u32 (DA (n+1) D)).length; omega) ?_;refine A5 ?_;refine Ak ⟨rfl,?_⟩;refine F8 1 (Ab .u32 (DA n D)) rfl (by show (Ab .u32 (DA (n+1) D)).take n=_; rw [N7,Xv]) ?_;refine A4 1 rfl ?_;refine LR 8 rfl rfl ?_;refine D3 [0,1,4,5,6,7,8] [] 2 (kt:=[(0,.sl 1 (Ab .u32 (limbs X))),(1,.sl 1 (Ab .u32 (limbs Y))),(4,Aid),(5,Aid),(6,nA n),(7,nA s),(8,.sl 1 (Ab .u32 (DA n D)))]) (kh:=[]) ?_;have em2:((List.replicate ((m:Int) - n+1).toNat [B0 0]).length:Int)=(m - n+1:Nat):=by rw [List.length_replicate,em]
 refine Aj ?_;refine Cw [] cv ?_;refine A5 ?_;refine Ak ⟨rfl,?_⟩;refine Aj ?_;refine F8 3 (Ab .u32 ((List.replicate (m - n+1) 0).take (m - n+1)++[])) rfl (by dsimp only; rw [em,List.append_nil,List.take_of_length_le (by simp),← GY]; rfl) ?_;have ldD2:=GS n D
 have hNB:N<BB (m+1):=by
  have b:=Hr (Ar X);rw [B1,hm] at b;have u1:=Int.mul_lt_mul_of_pos_right b hp;have u2:=Int.mul_le_mul_of_nonneg_left (show P≤4294967296 by omega) (Int.le_of_lt (EL m));rw [BX]; omega
 have hN0:0≤N:=by rw [← hNN]; exact Int.mul_nonneg (by omega) (Int.le_of_lt hp)
 have hdN:=Fg (m+1) N hN0 hNB;have hdD:=Fg n D (Int.le_of_lt hD0) hlt
 have hfirst:Oc N D m n (m - n+1) (DA (m+1) N) []:=by
  refine ⟨by omega,by simp; omega,AD.nil,CQ _ _,GS _ _,?_,by simp [vI,hdN]⟩;have sp:=Ev (DA (m+1) N) (k:=m - n+1) (by rw [CQ]; omega);rw [hdN] at sp;have n1:=BM ((GS (m+1) N).take (m - n+1));have pW:=EL (m - n+1);refine Int.not_le.1 fun hc => ?_;have u1:=Int.mul_le_mul_of_nonneg_left (Int.le_trans hge hc) (Int.le_of_lt pW);rw [← Int.mul_assoc,← UP,show m - n+1+(n - 1)=m from by omega] at u1;have b:=Hr (Ar X);rw [B1,hm] at b;have u2:=Int.mul_lt_mul_of_pos_right b hp;omega
 refine Ai [0,1,4,5,6,7,8,9,10] [] (fun x:Nat × List Int × List Int=>[(11,nA ((x.1:Int) - 1))]) (fun x=>[(2,some (DE x.2.1)),(3,some (DE ((List.replicate (m - n+1) 0).take x.1++x.2.2)))]) 4
  (fun x=>Oc N D m n x.1 x.2.1 x.2.2) (fun x=>x.1) (m - n+1,DA (m+1) N,[]) hfirst ?_
 rintro ⟨k,R,q⟩ L;dsimp only [List.cons_append,List.nil_append] at L ⊢;cases k with
 | zero =>
   obtain ⟨hq,hr⟩:=L.last hNN hDD hp hlt;have hlR:=L.lR;have lRR:=Ac .u32 R;rw [hlR] at lRR;have lqq:=Ac .u32 q;have hlq:=L.lq;have ct:=Lh q;rw [hq] at ct;have cd:=Al8 (R.take n) s P shf (L.oR.take n) (by simp; omega);rw [hr] at cd;refine F8 3 (Ab .u32 q) rfl rfl ?_;have cd':Ae Tryz.prog 256 [.sl 1 (((Ab .u32 R).drop 0).take n),nA s] (.sl 1 (Ab .u32 (limbs (X % Y)))):=by rw [List.drop_zero,N7]; exact cd
   refine Aj ?_;refine Je 0 n ?_;refine A5 ?_;refine Ak ⟨rfl,?_⟩;refine Aj ?_;exact Am
 | succ k =>
   have hqle:=L.le;have hlq:=L.lq;have hoq:=L.oq;have hlR:=L.lR;have hoR:=L.oR;have lRR:=Ac .u32 R;rw [hlR] at lRR;obtain ⟨hub,next⟩:=L.step hlt hD0;have hwl:=Y9 (ys:=R) (off:=k) (n:=n+1) (by omega);have hwo:=Zb hoR k (n+1);obtain ⟨g,ce,g0,g1,lo,hi⟩:=Anc (Nb R k (n+1)) (DA n D) (n - 2) hwo ldD2 (by omega) (by omega) (by omega) d1 (by rw [show n - 2+1=n - 1 from by omega]; exact htop) hbig (by rw [hdD]; exact hub);rw [hdD] at lo hi;have ce:Ae Tryz.prog 253 [.sl 1 (((Ab .u32 R).drop k).take (n+1)),.sl 1 (Ab .u32 (DA n D))] (Gp g):=by rw [Ac6,N7]; exact ce
   have ct:=Af0 R (DA n D) k n g hoR ldD2 ldD (by omega) (by omega) g0 g1;rw [hdD] at ct;have nw:=BM hwo;have hBn:D * 4294967296<BB (n+1):=by rw [BX]; omega
   have hql:q.length+(k+1)=(List.replicate (m - n+1) (0:Int)).length:=by rw [List.length_replicate]; omega
   have hml:=US (xs:=List.replicate (m - n+1) 0) hql;rw [List.length_replicate] at hml;have lQ:=Ac .u32 ((List.replicate (m - n+1) 0).take (k+1)++q);rw [hml] at lQ
   have hzk:(Ab .u32 ((List.replicate (m - n+1) 0).take (k+1)++q))[((k:Nat):Int).toNat]? = some [B0 0]:=by
    refine Az ((YZ (by rw [List.length_replicate]; omega)).trans ?_);rw [List.getElem?_replicate,if_pos (by omega)]
   have hset:=fun v=>UR (r:=q) (xs:=List.replicate (m - n+1) 0) (k:=k) (by rw [List.length_replicate]; omega) v
   have hms:∀ v:Int,Ab .u32 ((List.replicate (m - n+1) 0).take k++(v::q))=(Ab .u32 ((List.replicate (m - n+1) 0).take (k+1)++q)).set ((k:Nat):Int).toNat [B0 v]:=fun v=>by
    rw [Bu];exact congrArg (Ab .u32) (hset v).symm
   refine Eu 11 (nA k) (by show AV.lit (.int .i64 (((k+1:Nat):Int) - 1))=_; rw [show ((k+1:Nat):Int) - 1=k from by omega]) ?_;by_cases hb:vI (Nb R k (n+1))<g * D
   ·
    rw [decide_eq_true hb] at ct
    have gp:0<g:=by
     refine Int.not_le.1 fun hc => ?_
     have:g=0:=by omega
     rw [this,Int.zero_mul] at hb;omega
    have q0:0≤vI (Nb R k (n+1)) - (g - 1) * D:=by rw [Int.sub_mul]; omega
    have q1:vI (Nb R k (n+1)) - (g - 1) * D<D:=by rw [Int.sub_mul]; omega
    have cp:=Af1 (DF R k (n+1) (DA (n+1) ((vI (Nb R k (n+1)) - g * D) % BB (n+1)))) (DA n D) k n (AbG hoR (GS _ _) _ _) ldD2 ldD (by omega) (by rw [L2 (CQ _ _) (by omega)]; omega)
    rw [Af5 (CQ _ _) (by omega),Af4 (CQ _ _) (by omega),hdD,Fg _ _ (Int.emod_nonneg _ (by have:=EL (n+1); omega)) (Int.emod_lt_of_pos _ (EL (n+1))),
     Int.emod_add_emod,show vI (Nb R k (n+1)) - g * D+D=vI (Nb R k (n+1)) - (g - 1) * D from by rw [Int.sub_mul]; omega,Int.emod_eq_of_lt q0 (by omega)] at cp
    have hcv:IntKind.u32.wrap (g - 1)=g - 1:=Lb _ (by omega) (by omega);have lR1:=Ac .u32 (DF R k (n+1) (DA (n+1) ((vI (Nb R k (n+1)) - g * D) % BB (n+1))));rw [L2 (CQ _ _) (by omega),hlR] at lR1;refine Aj ?_;refine Je k (n+1) ?_;refine A5 ?_;refine Ak ⟨rfl,?_⟩;refine Aj ?_;refine Je k (n+1) ?_;refine A5 ?_;refine Bn [(2,0)] ct ?_;refine A5 ?_;refine Ak ⟨rfl,?_⟩;refine Aj ?_;refine Je k (n+1) ?_;refine A5 ?_;refine Bn [(2,0)] cp ?_;refine A5 ?_;refine Ak ⟨rfl,?_⟩;refine Aj ?_;exact ⟨(k,DF R k (n+1) (DA (n+1) (vI (Nb R k (n+1)) - (g - 1) * D)),(g - 1)::q),by dsimp only; omega,next (g - 1) (by omega) (by omega) q0 q1,BI hC.m [] (by dsimp only [DE]; rw [hms]; rfl)⟩
   ·rw [decide_eq_false hb] at ct
    have q0:0≤vI (Nb R k (n+1)) - g * D:=by omega
    have q1:vI (Nb R k (n+1)) - g * D<D:=by rw [Int.add_mul] at lo; omega
    rw [Int.emod_eq_of_lt q0 (by omega)] at ct
    have gl:g<4294967296:=by
     refine Int.not_le.1 fun hc => ?_
     have:=Int.mul_le_mul_of_nonneg_right hc (Int.le_of_lt hD0)
     rw [Int.mul_comm 4294967296 D] at this;omega
    have hcv:IntKind.u32.wrap g=g:=Lb _ g0 (by omega);refine Aj ?_;refine Je k (n+1) ?_;refine A5 ?_;refine Ak ⟨rfl,?_⟩;refine Aj ?_;refine Je k (n+1) ?_;refine A5 ?_;refine Bn [(2,0)] ct ?_;refine A5 ?_;refine Ak ⟨rfl,?_⟩;refine Aj ?_;exact ⟨(k,DF R k (n+1) (DA (n+1) (vI (Nb R k (n+1)) - g * D)),g::q),by dsimp only; omega,next g g0 gl q0 q1,BI hC.m [] (by dsimp only [DE]; rw [hms]; rfl)⟩
end Go.Proofs.YtjcolpcfcdkckaaGreat
