/- The reference's whole numbers: what they answer. -/
import Derived.Test.YtjcolpcfcdkckaaGreatK07
import Derived.Test.YtjcolpcfcdkckaaGreatK10
namespace Go.Proofs.YtjcolpcfcdkckaaGreat
set_option linter.unusedVariables false
open Go.RowKit
theorem JP (xs:List Int) (hb:xs.length≤A2):Ae Tryz.prog 195 [.sl 1 (Ab .u32 xs)] (.sl 1 (Ab .u32 (CJ xs))):=by
 have hB:A2=1000000000:=rfl;have lx:=Ac .u32 xs;refine Aa KV fun C hC => ?_;refine Af ?_;refine Ai [0,2] [] (fun k:Nat=>[(3,.lit (.int .i64 k))]) (fun _=>[]) 0 (fun k=>k≤xs.length∧Dw xs xs.length=Dw xs k) (fun k=>k) xs.length ⟨Nat.le_refl _,rfl⟩ ?_ (ht:=by rw [← lx]; rfl);rintro k ⟨hk,hE⟩;dsimp only [List.cons_append,List.nil_append]
 have fin':Dw xs xs.length=k→Ab .u32 (CJ xs)=((Ab .u32 xs).drop 0).take (k - 0):=fun he=>by
  rw [CJ,he,List.drop_zero,Nat.sub_zero,Ab,Ab,List.map_take]
 cases k with
 | zero =>
   refine Af ?_;refine AH (BP ?_);refine Aee 0 0 ?_ ?_ ?_
   ·omega
   ·omega
   refine W5 ?_ ?_
   ·simp
   refine BP ?_;refine Ak ⟨rfl,?_⟩;refine Af ?_;rw [fin' hE];exact Am
 | succ k =>
   obtain ⟨x,hx'⟩:∃ x,xs[k]? = some x:=⟨_,List.getElem?_eq_getElem (by omega)⟩
   have hxk:(Ab .u32 xs)[(((k+1:Nat):Int) - 1).toNat]? = some [.lit (.int .u32 x)]:=by
    rw [show (((k+1:Nat):Int) - 1).toNat=k from by omega]; exact Az hx'
   by_cases h0:x=0
   ·rw [Dw,if_pos (by rw [hx',h0])] at hE
    refine Af ?_;exact ⟨k,by omega,⟨by omega,hE⟩,BI hC.m [] (by rw [show ((k:Nat):Int)=((k+1:Nat):Int) - 1 from by omega]; rfl)⟩
   ·rw [Dw,if_neg (by rw [hx']; simpa using h0)] at hE
    refine Af ?_;refine AH (BP ?_);refine Aee 0 (k+1) ?_ ?_ ?_
    ·omega
    ·omega
    refine W5 ?_ ?_
    ·simp only [List.length_take,List.length_drop,Ab,List.length_map]; omega
    refine BP ?_;refine Ak ⟨rfl,?_⟩;refine Af ?_;rw [fin' hE];exact Am
theorem H5 (xs:List Int) (i:Nat) (q:Int) (hq:q=i) (ho:AD xs):Ae Tryz.prog 230 [.sl 1 (Ab .u32 xs),.lit (.int .i64 q)] (.lit (.int .u64 (De xs i))):=by
 have lx:=Ac .u32 xs;subst hq;refine Aa KW fun C hC => ?_;by_cases h:i<xs.length
 ·obtain ⟨z,hz⟩:∃ z,xs[i]? = some z:=⟨_,List.getElem?_eq_getElem h⟩
  have hzk:=Az (k:=.u32) hz;have hr:=ho z (List.mem_of_getElem? hz);rw [Aj8 hz];refine Af ?_;exact Am
 ·rw [Ahq (by omega)]
  refine Af ?_;exact Am
theorem Rk (xs ys:List Int) (q:Int) (hq:q=(max xs.length ys.length:Nat)):Ae Tryz.prog 229 [.sl 1 (Ab .u32 xs),.sl 1 (Ab .u32 ys)] (.lit (.int .i64 q)):=by
 have lx:=Ac .u32 xs;have ly:=Ac .u32 ys;subst hq;refine Aa JB fun C hC => ?_;by_cases h:xs.length > ys.length
 ·rw [show max xs.length ys.length=xs.length from by omega]
  refine Af ?_;exact Am
 ·rw [show max xs.length ys.length=ys.length from by omega]
  refine Af ?_;exact Am
theorem Ac8 (xs ys:List Int) (hx:AD xs) (hy:AD ys) (lx:xs.length≤A2) (ly:ys.length≤A2):Ae Tryz.prog 242 [.sl 1 (Ab .u32 xs),.sl 1 (Ab .u32 ys)] (.lit (.int .i64 (DK (AF xs) (AF ys)))):=by
 have hB:A2=1000000000:=rfl;have c1:=Rk xs ys _ rfl;refine Aa Mr fun C hC => ?_;refine Af ?_
 refine Ai [0,1,4] [] (fun n:Nat=>[(5,.lit (.int .i64 ((n:Int) - 1)))]) (fun _=>[]) 0 (fun n=>n≤max xs.length ys.length∧AF (xs.drop n)=AF (ys.drop n)) (fun n=>n) (max xs.length ys.length)
  ⟨Nat.le_refl _,by rw [List.drop_eq_nil_of_le (by omega),List.drop_eq_nil_of_le (by omega)]⟩ ?_
 rintro n ⟨hn,hE⟩;dsimp only [List.cons_append,List.nil_append];cases n with
 | zero =>
   simp only [List.drop_zero] at hE;rw [show DK (AF xs) (AF ys)=0 from by rw [hE]; simp [DK]];refine Af ?_;exact Am
 | succ k =>
   have h1:=D0 hx k;have h2:=D0 hy k;have c2:=H5 xs k (((k+1:Nat):Int) - 1) (by omega) hx;have c3:=H5 ys k (((k+1:Nat):Int) - 1) (by omega) hy;have d1:=Xd xs k;have d2:=Xd ys k;by_cases l1:De xs k<De ys k
   ·have:=J8 hx hy k (by omega)
    rw [show DK (AF xs) (AF ys) = -1 from by simp [DK,this]];refine Af ?_;exact Am
   ·by_cases l2:De xs k > De ys k
    ·have:=J8 hy hx k (by omega)
     rw [show DK (AF xs) (AF ys)=1 from by rw [DK,if_neg (by omega),if_pos this]];refine Af ?_;exact Am
    ·refine Af ?_
     exact ⟨k,by omega,⟨by omega,by omega⟩,BI hC.m [] (by rw [show ((k:Nat):Int)=((k+1:Nat):Int) - 1 from by omega]; rfl)⟩
theorem UX (xs:List Int) (c:Int) (hx:AD xs) (lx:xs.length≤100000) (h0:0≤c) (h1:c≤1):Ae Tryz.prog 239 [.sl 1 (Ab .u32 xs),.lit (.int .u32 c)] (.sl 1 (Ab .u32 (limbs (2 * AF xs+c.toNat)))):=by
 have hB:A2=1000000000:=rfl;have lxs:=Ac .u32 xs;obtain ⟨v1,v2⟩:=Ul xs.length xs c hx (Nat.le_refl _) h0 h1;have hl:=Um (xs.length+1) xs c;have c1:=JP (EJ (xs.length+1) xs c) (by omega);rw [A0 v2,show AF (EJ (xs.length+1) xs c)=2 * AF xs+c.toNat from by omega] at c1;clear v1 v2;refine Aa Kn fun C hC => ?_;refine Af ?_;refine Ud 5 146 1 rfl ?_
 refine Ai [0,1,4] [] (fun p:Nat × List Int × Int=>[(5,.own 0),(6,.lit (.int .u64 p.2.2)),(7,.lit (.int .i64 p.1))]) (fun p=>[(0,some ⟨true,false,146,1,Ab .u32 p.2.1⟩)]) 1
  (fun p=>p.1≤xs.length+1∧p.2.1.length=p.1∧0≤p.2.2∧p.2.2≤1∧EJ (xs.length+1) xs c=p.2.1++EJ (xs.length+1 - p.1) (xs.drop p.1) p.2.2) (fun p=>xs.length+1 - p.1) (0,[],c)
  ⟨Nat.zero_le _,rfl,h0,h1,by simp⟩ ?_
 rintro ⟨k,out,b⟩ ⟨hk,ho,hb0,hb1,hE⟩;simp only at hk ho hb0 hb1 hE;dsimp only [List.cons_append,List.nil_append];have lo:=Ac .u32 out;by_cases hlt:k<xs.length+1
 ·have hr:=D0 hx k
  have c2:=H5 xs k _ rfl hx;rw [AaY xs (xs.length+1) k hlt b] at hE;refine Af ?_;refine ⟨(k+1,out++[(2 * De xs k+b) % 4294967296],(2 * De xs k+b) / 4294967296),by simp only; omega,⟨by simp only; omega,by simp only [List.length_append,List.length_singleton]; omega,by simp only; omega,by simp only; omega,by simp only; rw [hE]; simp⟩,BI hC.m [(0,2)] ?_⟩;simp only [Ab,List.map_append,List.map_cons,List.map_nil];rfl
 ·have hk':k=xs.length+1:=by omega
  rw [hk',Nat.sub_self,EJ,List.append_nil] at hE;rw [← hE];refine A4 0 rfl ?_;refine Af ?_;exact Am
theorem Ac9 (xs ys:List Int) (hx:AD xs) (hy:AD ys) (lx:xs.length≤100000) (ly:ys.length≤100000) (h:AF ys≤AF xs):Ae Tryz.prog 241 [.sl 1 (Ab .u32 xs),.sl 1 (Ab .u32 ys)] (.tup [.sl 1 (Ab .u32 (limbs (AF xs - AF ys))),.lit (.bool true)]):=by
 have hB:A2=1000000000:=rfl;have c0:=Rk xs ys _ rfl;have c1:=Ac8 xs ys hx hy (by omega) (by omega);have hc:0≤DK (AF xs) (AF ys):=by unfold DK; split<;>(try split)<;>omega
 generalize hM:max xs.length ys.length=M at c0;obtain ⟨v1,v2⟩:=AaV M xs ys 0 hx hy (by omega) (by omega) (by omega) (by omega) (by omega);have hl:=AaX M xs ys 0;have c2:=JP (NP M xs ys 0) (by omega);rw [A0 v2,show AF (NP M xs ys 0)=AF xs - AF ys from by omega] at c2;clear v1 v2;refine Aa Gy fun C hC => ?_;refine Af ?_;refine Ud 6 146 1 rfl ?_
 refine Ai [0,1,4,5] [] (fun p:Nat × List Int × Int=>[(6,.own 0),(7,.lit (.int .u64 p.2.2)),(8,.lit (.int .i64 p.1))]) (fun p=>[(0,some ⟨true,false,146,1,Ab .u32 p.2.1⟩)]) 1
  (fun p=>p.1≤M∧p.2.1.length=p.1∧0≤p.2.2∧p.2.2≤1∧NP M xs ys 0=p.2.1++NP (M - p.1) (xs.drop p.1) (ys.drop p.1) p.2.2) (fun p=>M - p.1) (0,[],0)
  ⟨Nat.zero_le _,rfl,by simp only; omega,by simp only; omega,by simp⟩ ?_
 rintro ⟨k,out,b⟩ ⟨hk,ho,hb0,hb1,hE⟩;simp only at hk ho hb0 hb1 hE;dsimp only [List.cons_append,List.nil_append];have lo:=Ac .u32 out;by_cases hlt:k<M
 ·have hr:=D0 hx k
  have hr2:=D0 hy k;have c3:=H5 xs k _ rfl hx;have c4:=H5 ys k _ rfl hy;rw [AfK xs ys M k hlt b] at hE;refine Af ?_;refine ⟨(k+1,out++[(4294967296+De xs k - De ys k - b) % 4294967296],1 - (4294967296+De xs k - De ys k - b) / 4294967296),by simp only; omega,⟨by simp only; omega,by simp only [List.length_append,List.length_singleton]; omega,by simp only; omega,by simp only; omega,by simp only; rw [hE]; simp⟩,BI hC.m [(0,2)] ?_⟩;simp only [Ab,List.map_append,List.map_cons,List.map_nil];rfl
 ·have hk':k=M:=by omega
  rw [hk',Nat.sub_self,NP,List.append_nil] at hE;rw [← hE];refine A4 0 rfl ?_;refine Af ?_;exact Am
theorem Ako (xs ys:List Int) (hx:AD xs) (hy:AD ys) (lx:xs.length≤100000) (ly:ys.length≤100000) (h:AF xs<AF ys):Ae Tryz.prog 241 [.sl 1 (Ab .u32 xs),.sl 1 (Ab .u32 ys)] (.tup [.sl 1 [],.lit (.bool false)]):=by
 have hB:A2=1000000000:=rfl;have c1:=Ac8 xs ys hx hy (by omega) (by omega);rw [show DK (AF xs) (AF ys) = -1 from by simp [DK,h]] at c1;refine Aa Gy fun C hC => ?_;refine Af ?_;exact Am
theorem AhN (xs ys:List Int) (hx:AD xs) (hy:AD ys) (lx:xs.length≤100000) (ly:ys.length≤100000):Ae Tryz.prog 198 [.sl 1 (Ab .u32 xs),.sl 1 (Ab .u32 ys)] (.sl 1 (Ab .u32 (limbs (AF xs+AF ys)))):=by
 have hB:A2=1000000000:=rfl;have c0:=Rk xs ys _ rfl;generalize hM:max xs.length ys.length=M at c0;obtain ⟨v1,v2⟩:=AaU M xs ys 0 hx hy (by omega) (by omega) (by omega) (by omega);have hl:=AaW (M+1) xs ys 0;have c2:=JP (NO (M+1) xs ys 0) (by omega);rw [A0 v2,show AF (NO (M+1) xs ys 0)=AF xs+AF ys from by omega] at c2;clear v1 v2;refine Aa Mp fun C hC => ?_;refine Af ?_;refine Ud 5 146 1 rfl ?_
 refine Ai [0,1,4] [] (fun p:Nat × List Int × Int=>[(5,.own 0),(6,.lit (.int .u64 p.2.2)),(7,.lit (.int .i64 p.1))]) (fun p=>[(0,some ⟨true,false,146,1,Ab .u32 p.2.1⟩)]) 1
  (fun p=>p.1≤M+1∧p.2.1.length=p.1∧0≤p.2.2∧p.2.2≤1∧NO (M+1) xs ys 0=p.2.1++NO (M+1 - p.1) (xs.drop p.1) (ys.drop p.1) p.2.2) (fun p=>M+1 - p.1) (0,[],0)
  ⟨Nat.zero_le _,rfl,by simp only; omega,by simp only; omega,by simp⟩ ?_
 rintro ⟨k,out,b⟩ ⟨hk,ho,hb0,hb1,hE⟩;simp only at hk ho hb0 hb1 hE;dsimp only [List.cons_append,List.nil_append];have lo:=Ac .u32 out;by_cases hlt:k<M+1
 ·have hr:=D0 hx k
  have hr2:=D0 hy k;have c3:=H5 xs k _ rfl hx;have c4:=H5 ys k _ rfl hy;rw [AfJ xs ys (M+1) k hlt b] at hE;refine Af ?_;refine ⟨(k+1,out++[(De xs k+De ys k+b) % 4294967296],(De xs k+De ys k+b) / 4294967296),by simp only; omega,⟨by simp only; omega,by simp only [List.length_append,List.length_singleton]; omega,by simp only; omega,by simp only; omega,by simp only; rw [hE]; simp⟩,BI hC.m [(0,2)] ?_⟩;simp only [Ab,List.map_append,List.map_cons,List.map_nil];rfl
 ·have hk':k=M+1:=by omega
  rw [hk',Nat.sub_self,NO,List.append_nil] at hE;rw [← hE];refine A4 0 rfl ?_;refine Af ?_;exact Am
theorem AlW (xs:List Int) (i:Nat) (q:Int) (hq:q=i) (hi:i≤100000000) (ho:AD xs):Ae Tryz.prog 240 [.sl 1 (Ab .u32 xs),.lit (.int .i64 q)] (.lit (.int .u32 (Kz xs i))):=by
 have c1:=H5 xs (i / 32) (q / 32) (by omega) ho;have hr:=D0 ho (i / 32);refine Aa Mq fun C hC => ?_;refine Af ?_;refine Ai [0,1,4] [] (fun k:Nat=>[(5,.lit (.int .u64 (De xs (i / 32) / 2 ^ k))),(6,.lit (.int .i64 k))]) (fun _=>[]) 0 (fun k=>k≤i % 32) (fun k=>i % 32 - k) 0 (Nat.zero_le _) ?_ (ht:=by simp only [Int.pow_zero,Int.ediv_one]; rfl);intro k hk;dsimp only [List.cons_append,List.nil_append];have hx0:0≤De xs (i / 32) / 2 ^ k:=Int.ediv_nonneg hr.1 (Int.le_of_lt (Int.pow_pos (by omega)));have hx1:De xs (i / 32) / 2 ^ k≤De xs (i / 32):=Int.ediv_le_self _ hr.1;by_cases hlt:k<i % 32
 ·have e:De xs (i / 32) / 2 ^ (k+1)=De xs (i / 32) / 2 ^ k / 2:=by
   rw [Int.pow_succ,Int.ediv_ediv_of_nonneg (Int.le_of_lt (Int.pow_pos (by omega)))]
  refine Af ?_;exact ⟨k+1,by omega,by omega,BI hC.m [] (by rw [e]; rfl)⟩
 ·have hk':k=i % 32:=by omega
  unfold Kz;rw [← hk'];refine Af ?_;exact Am
theorem SN {Y:Nat} (h:Y≠0):(limbs (4294967296 * Y)).length=(limbs Y).length+1:=by
 rw [Bf (n:=4294967296 * Y) (by omega),show 4294967296 * Y / 4294967296=Y from by omega]; rfl
theorem Rl (xs ys:List Int) (Y:Nat) (hY:ys=limbs Y) (hx:AD xs) (lx:xs.length≤40) (ly:ys.length≤40) (h:Y≠0) :
 Ae Tryz.prog 226 [.sl 1 (Ab .u32 xs),.sl 1 (Ab .u32 ys)] (.tup [.sl 1 (Ab .u32 (limbs (dm xs Y).1)),.sl 1 (Ab .u32 (limbs (dm xs Y).2)),.lit (.bool true)]):=by
 subst hY;have hB:A2=1000000000:=rfl;have lxs:=Ac .u32 xs;have lys:=Ac .u32 (limbs Y);have hy:=Ar Y;have c1:=JP (limbs Y) (by omega);rw [FD] at c1;have hne:(limbs Y).length≠0:=fun e=>h (Cj.1 (List.eq_nil_of_length_eq_zero e))
 have hp:∀ n q r:Nat,n≤32 * xs.length→q<2 ^ (32 * xs.length - n)→r<Y→(limbs q).length≤32 * xs.length∧(limbs r).length≤40:=fun n q r hn hq hr=>by
  have:=Bh _ q hq
  have h2:=Bj (m:=r) (n:=Y) (by omega);omega
 refine Aa JA fun C hC => ?_;refine Af ?_;refine Aeg 7 1 rfl ?_;refine Aeg 8 1 rfl ?_
 refine Ai [0,1,4,5,6] [] (fun p:Nat × Nat × Nat=>[(7,.sl 1 (Ab .u32 (limbs p.2.1))),(8,.sl 1 (Ab .u32 (limbs p.2.2))),(9,.lit (.int .i64 ((p.1:Int) - 1)))]) (fun _=>[]) 0
  (fun p=>p.1≤32 * xs.length∧p.2.1<2 ^ (32 * xs.length - p.1)∧p.2.2<Y∧dm xs Y=dmF xs Y p.1 p.2.1 p.2.2) (fun p=>p.1) (32 * xs.length,0,0)
  ⟨Nat.le_refl _,by simp,by simp only; omega,by rw [dm,if_neg h]⟩ ?_
  (ht:=by simp only [AC,show ((32 * xs.length:Nat):Int) - 1=32 * (xs.length:Int) - 1 from by omega]; rfl)
 rintro ⟨n,q,r⟩ ⟨hn,hq,hr,hE⟩;simp only at hn hq hr hE;dsimp only [List.cons_append,List.nil_append];obtain ⟨lq,lr⟩:=hp n q r hn hq hr;cases n with
 | zero =>
   rw [dmF] at hE;rw [hE];refine Af ?_;exact Am
 | succ n =>
   have hb:=Un xs n;rw [dmF] at hE;have c2:=AlW xs n (((n+1:Nat):Int) - 1) (by omega) (by omega) hx;have c3:=UX (limbs r) (Kz xs n) (Ar r) (by omega) hb.1 hb.2
   have l2:(limbs (2 * r+(Kz xs n).toNat)).length≤41:=by
    have:=Bj (m:=2 * r+(Kz xs n).toNat) (n:=4294967296 * Y) (by omega)
    rw [SN h] at this;omega
   have e1:2 ^ (32 * xs.length - n)=2 * 2 ^ (32 * xs.length - (n+1)):=by
    rw [show 32 * xs.length - n=(32 * xs.length - (n+1))+1 from by omega,Nat.pow_succ,Nat.mul_comm]
   rw [Aq] at c3;by_cases hle:Y≤2 * r+(Kz xs n).toNat
   ·rw [if_pos hle] at hE
    have c4:=Ac9 (limbs (2 * r+(Kz xs n).toNat)) (limbs Y) (Ar _) hy (by omega) (by omega) (by rw [Aq,Aq]; exact hle);rw [Aq,Aq] at c4;have c5:=UX (limbs q) 1 (Ar q) (by omega) (by omega) (by omega);rw [Aq] at c5;refine Af ?_;exact ⟨(n,2 * q+1,2 * r+(Kz xs n).toNat - Y),by simp only; omega,⟨by simp only; omega,by simp only; omega,by simp only; omega,hE⟩,BI hC.m [] (by simp only; rw [show ((n:Nat):Int) - 1=((n+1:Nat):Int) - 1 - 1 from by omega]; rfl)⟩
   ·rw [if_neg hle] at hE
    have c4:=Ako (limbs (2 * r+(Kz xs n).toNat)) (limbs Y) (Ar _) hy (by omega) (by omega) (by rw [Aq,Aq]; omega);have c5:=UX (limbs q) 0 (Ar q) (by omega) (by omega) (by omega);rw [Aq] at c5;refine Af ?_;exact ⟨(n,2 * q,2 * r+(Kz xs n).toNat),by simp only; omega,⟨by simp only; omega,by simp only; omega,by simp only; omega,hE⟩,BI hC.m [] (by simp only; rw [show ((n:Nat):Int) - 1=((n+1:Nat):Int) - 1 - 1 from by omega]; rfl)⟩
theorem Aer:∀ (k x y:Nat),(x≠0∨(y≠0∧k≠0))→JI k x y≠0
 | 0,x,y,h=>by simp only [JI]; rcases h with h|h; exact h; exact absurd rfl h.2
 | k+1,x,y,h=>by
   simp only [JI];split
   ·rename_i hy
    rcases h with h|h
    ·exact h
    ·exact absurd hy h.1
   ·rename_i hy
    exact Aer k y _ (.inl hy)
theorem Aes:∀ (k x y M:Nat),x≤M→y≤M→JI k x y≤M
 | 0,x,y,M,hx,hy=>by simpa [JI] using hx
 | k+1,x,y,M,hx,hy=>by
   simp only [JI];split
   ·exact hx
   ·rename_i h0
    have:=(Alt (limbs x) h0).1
    exact Aes k y _ M hy (by omega)
theorem AlX (xs ys:List Int) (hx:AD xs) (hy:AD ys) (lx:xs.length≤40) (ly:ys.length≤40) :
 Ae Tryz.prog 225 [.sl 1 (Ab .u32 xs),.sl 1 (Ab .u32 ys)] (.sl 1 (Ab .u32 (limbs (JI 100000 (AF xs) (AF ys))))):=by
 have hB:A2=1000000000:=rfl;have c1:=JP xs (by omega);have c2:=JP ys (by omega);have t1:=BT xs;have t2:=BT ys;rw [A0 hx] at c1 t1;rw [A0 hy] at c2 t2;generalize AF xs=X at c1 t1 ⊢;generalize AF ys=Y at c2 t2 ⊢;refine Aa Ms fun C hC => ?_;refine Af ?_
 refine Ai [4] [] (fun p:Nat × Nat × Nat=>[(5,.sl 1 (Ab .u32 (limbs p.2.1))),(6,.sl 1 (Ab .u32 (limbs p.2.2))),(7,.lit (.int .i64 p.1))]) (fun _=>[]) 0
  (fun p=>p.1≤100000∧(limbs p.2.1).length≤40∧(limbs p.2.2).length≤40∧JI 100000 X Y=JI (100000 - p.1) p.2.1 p.2.2) (fun p=>100000 - p.1) (0,X,Y) ⟨Nat.zero_le _,by simp only; omega,by simp only; omega,rfl⟩ ?_
 rintro ⟨n,x,y⟩ ⟨hn,lx',ly',hE⟩;simp only at hn lx' ly' hE;dsimp only [List.cons_append,List.nil_append];generalize JI 100000 X Y=G at hE ⊢;have la:=Ac .u32 (limbs y);by_cases h1:n<100000
 ·by_cases h2:y=0
  ·subst h2
   rw [show 100000 - n=(100000 - (n+1))+1 from by omega,JI,if_pos rfl] at hE;rw [AC] at la;simp only [List.length_nil] at la;rw [hE,AC];refine Af ?_;exact Am
  ·have hpos:0<(limbs y).length:=by
    rcases Nat.eq_zero_or_pos (limbs y).length with e|e
    ·exact absurd (Cj.1 (List.eq_nil_of_length_eq_zero e)) h2
    ·exact e
   rw [show 100000 - n=(100000 - (n+1))+1 from by omega,JI,if_neg h2] at hE;have c3:=Rl (limbs x) (limbs y) y rfl (Ar x) lx' ly' h2;have hlt:=(Alt (limbs x) h2).1;have hll:=Bj (m:=(dm (limbs x) y).2) (n:=y) (by omega);refine Af ?_;exact ⟨(n+1,y,(dm (limbs x) y).2),by simp only; omega,⟨by simp only; omega,ly',by simp only; omega,hE⟩,BI hC.m []⟩
 ·rw [show 100000 - n=0 from by omega,JI] at hE
  rw [hE];refine Af ?_;exact Am
theorem CP (n:Bool) (m:List Int) (hm:AD m) (lm:m.length≤A2):Ae Tryz.prog 157 [.agg (Cs n m)] (.agg (Cs (Cu n (AF m)) (limbs (AF m)))):=by
 have c1:=JP m lm;rw [A0 hm] at c1;generalize AF m=V at c1 ⊢;have la:=Ac .u32 (limbs V);refine Aa KY fun C hC => ?_;by_cases h:V=0
 ·subst h
  rw [AC] at c1 la ⊢;refine Af ?_;exact Am
 ·have hpos:¬ (limbs V).length=0:=fun e=>absurd (Cj.1 (List.eq_nil_of_length_eq_zero e)) h
  rw [Cu,if_neg h];refine Af ?_;exact Am
theorem AhO (n:Fx) (hn:AD n.top) (lm:n.top.length≤A2):Ae Tryz.prog 108 [.agg (AY n)] (.agg (Cs (Cu n.neg (AF n.top)) (limbs (AF n.top)))):=by
 have c1:=CP n.neg n.top hn lm;refine Aa MD fun C hC => ?_;refine Af ?_;exact Am
theorem AlY (n:Fx) (hn:AD n.bot) (lm:n.bot.length≤A2):Ae Tryz.prog 194 [.agg (AY n)] (.agg (Cs (Cu false (AF n.bot)) (limbs (AF n.bot)))):=by
 have c1:=CP false n.bot hn lm;refine Aa MA fun C hC => ?_;refine Af ?_;exact Am
theorem Akp (nx ny:Bool) (X Y:Nat) (lx:(limbs X).length≤40) (ly:(limbs Y).length≤40):Ae Tryz.prog 193 [.agg (Cs nx (limbs X)),.agg (Cs ny (limbs Y))] (.tup [.agg (AY (Uo (Cu nx X) X (Cu ny Y) Y).1),.lit (.int .i64 (Uo (Cu nx X) X (Cu ny Y) Y).2)]):=by
 have hB:A2=1000000000:=rfl;have c1:=CP nx (limbs X) (Ar X) (by omega);have c2:=CP ny (limbs Y) (Ar Y) (by omega);rw [Aq] at c1 c2;have la:=Ac .u32 (limbs Y);refine Aa K0 fun C hC => ?_;unfold Uo;by_cases h:Y=0
 ·rw [if_pos h]
  subst h;rw [AC] at la;simp only [AC] at c2 la ⊢;refine Af ?_;exact Am
 ·rw [if_neg h]
  have hpos:¬ (limbs Y).length=0:=fun e=>absurd (Cj.1 (List.eq_nil_of_length_eq_zero e)) h;have c3:=AlX (limbs X) (limbs Y) (Ar X) (Ar Y) lx ly;rw [Aq,Aq] at c3;have g0:=Aer 100000 X Y (.inr ⟨h,by omega⟩)
  have gl:(limbs (JI 100000 X Y)).length≤40:=by
   have:=Bj (Aes 100000 X Y (max X Y) (by omega) (by omega))
   rcases Nat.le_total X Y with hh|hh
   ·rw [show max X Y=Y from by omega] at this; omega
   ·rw [show max X Y=X from by omega] at this; omega
  generalize JI 100000 X Y=G at c3 g0 gl ⊢;have c4:=Rl (limbs X) (limbs G) G rfl (Ar X) lx gl g0;have c5:=Rl (limbs Y) (limbs G) G rfl (Ar Y) ly gl g0;simp only;generalize (dm (limbs X) G).1=T at c4 ⊢;generalize (dm (limbs Y) G).1=U at c5 ⊢;generalize (dm (limbs X) G).2=T2 at c4;generalize (dm (limbs Y) G).2=U2 at c5;have lt:=Ac .u32 (limbs T);have lu:=Ac .u32 (limbs U);by_cases h1:(limbs T).length > 32
  ·rw [if_pos (.inl h1)]
   refine Af ?_;exact Am
  ·by_cases h2:(limbs U).length > 32
   ·rw [if_pos (.inr h2)]
    refine Af ?_;exact Am
   ·rw [if_neg (by omega)]
    by_cases h3:T=0
    ·subst h3
     have lt0:((Ab .u32 (limbs 0)).length:Int)=0:=by rw [AC]; rfl
     clear lt;refine Af ?_;exact Am
    ·have hp3:¬ (limbs T).length=0:=fun e=>absurd (Cj.1 (List.eq_nil_of_length_eq_zero e)) h3
     rw [show decide (T≠0)=true from decide_eq_true h3,Bool.true_and];have e:∀ b c:Bool,(b != c)=(match S4 .neq b c with|some (.bool x)=>x|_=>false):=fun b c=>by cases b<;>cases c<;>rfl
     refine Af ?_;exact Am
theorem AhP (n:Fx) (hn:FY n):Ae Tryz.prog 153 [.agg (AY n)] (.lit (.bool (QX n))):=by
 have hB:A2=1000000000:=rfl;obtain ⟨l1,l2⟩:=hn.lim;have lt:=Ac .u32 n.top;have lb:=Ac .u32 n.bot;refine Aa Kq fun C hC => ?_;unfold QX;by_cases h1:n.top.length > 32
 ·rw [if_pos (.inl h1)]
  refine Af ?_;exact Am
 by_cases h2:n.bot.length > 32
 ·rw [if_pos (.inr h2)]
  refine Af ?_;exact Am
 rw [if_neg (by omega)];have c1:=AhO n l1 (by omega);have c2:=AlY n l2 (by omega);have t1:=BT n.top;have t2:=BT n.bot;rw [A0 l1] at t1;rw [A0 l2] at t2;have c3:=Akp (Cu n.neg (AF n.top)) (Cu false (AF n.bot)) (AF n.top) (AF n.bot) (by omega) (by omega);have e1:∀ b V,Cu (Cu b V) V=Cu b V:=fun b V=>by unfold Cu; split<;>rfl
 have e2:Cu false (AF n.bot)=false:=by unfold Cu; split<;>rfl
 rw [e1,e1,e2] at c3;rw [e2] at c2;generalize Uo (Cu n.neg (AF n.top)) (AF n.top) false (AF n.bot)=M at c3 ⊢;obtain ⟨m,e⟩:=M;simp only at c3 ⊢;have c4:=AcP n m;by_cases h3:e=0
 ·subst h3
  rw [beq_self_eq_true,Bool.true_and];refine Af ?_;exact Am
 ·rw [show (e == 0)=false from by simpa using h3,Bool.false_and]
  refine Af ?_;exact Am
section
variable {P:Program} {tt:List (Nat × AV)} {hh:Hp} {nn dd:Nat} {g:Option (Nat × Bool)} {l:List AG} {acc:List SD} {K:List SD→St→Prop}
theorem AhQ {fo:Operand} {args:List Operand} {f:FuncId} {fi ca avs avs':List AV} {r:AV} (i j:Nat) {o o2:OB} (rd:List Nat) (hc:Ae P f avs' r) (h:RG P (⟨⟨some dd,g,.call fo args⟩,r,rd,[(j,some { o2 with ro:=true }),(i,some { o with ro:=true })],0⟩::acc) l ⟨(dd,r)::tt,(j,some { o2 with ro:=true })::(i,some { o with ro:=true })::hh,nn⟩ K) (hg:BD ⟨tt,hh,nn⟩ g:=by first|exact True.intro|rfl) (hf:ev ⟨tt,hh,nn⟩ fo=.fn f fi ca:=by rfl) (ho:hl hh i=some o:=by rfl) (ho2:hl ((i,some { o with ro:=true })::hh) j=some o2:=by rfl) (hv:AR (C4 true (restr rd ((j,some { o2 with ro:=true })::(i,some { o with ro:=true })::hh)) 4) (fi++(args.map (ev ⟨tt,hh,nn⟩)++ca))=some avs:=by rfl) (hs:BE avs avs':=by (repeat (first|exact BE.nil|refine BE.cons (by first|exact Bl.refl _|exact Bl.nil _|exact Bl.any _) ?_))):RG P acc (⟨some dd,g,.call fo args⟩::l) ⟨tt,hh,nn⟩ K :=
 RG.step (BS.freeze (upd:=[(j,some { o2 with ro:=true })]) i ho (BS.freeze (st:=⟨tt,(i,some { o with ro:=true })::hh,nn⟩) (upd:=[]) j ho2 (Qx (st:=⟨tt,(j,some { o2 with ro:=true })::(i,some { o with ro:=true })::hh,nn⟩) true rd hg hf hv hs hc rfl))) h
end
def HH (z:Int):Fx:=⟨decide (z<0),limbs z.natAbs,[1]⟩
def Ada (m:Int):List Int:=[m % 4294967296,m / 4294967296]
theorem Aet {m:Int} (h0:0≤m) (h1:m≤9223372036854775807):AD (Ada m):=by
 intro z hz;simp only [Ada,List.mem_cons,List.not_mem_nil,or_false] at hz;rcases hz with h|h<;>omega
theorem Abo {m:Int} (h0:0≤m) (h1:m≤9223372036854775807):AF (Ada m)=m.toNat:=by
 simp only [Ada,AF]; omega
theorem Abp (m:Int):(Ada m).length=2:=rfl
theorem Oa (V:Nat):Cu false V=false:=by unfold Cu; split<;>rfl
theorem Xm {V:Nat} (h:V≠0):Cu true V=true:=by unfold Cu; rw [if_neg h]
theorem Adb (z:Int) (h0 : -9223372036854775808≤z) (h1:z≤9223372036854775807):Ae Tryz.prog 159 [.lit (.int .i64 z)] (.agg (Cs (decide (z<0)) (limbs z.natAbs))):=by
 have hB:A2=1000000000:=rfl;by_cases hz:0≤z
 ·have c1:=CP false (Ada z) (Aet hz h1) (by rw [Abp]; omega)
  rw [Abo hz h1,Oa,show z.toNat=z.natAbs from by omega] at c1;rw [show decide (z<0)=false from by simp; omega];refine Aa Hf fun C hC => ?_;refine Af ?_;exact Am
 ·have hm0:0 ≤ -1 - z:=by omega
  have hm1 : -1 - z≤9223372036854775807:=by omega
  have c2:=AhN (Ada (-1 - z)) [1] (Aet hm0 hm1) (by intro y hy; simp at hy; omega) (by rw [Abp]; omega) (by simp);rw [Abo hm0 hm1,show AF [1]=1 from by simp [AF],show (-1 - z).toNat+1=z.natAbs from by omega] at c2;have hll:=Bh 64 z.natAbs (by omega);have c1:=CP true (limbs z.natAbs) (Ar _) (by omega);rw [Aq,Xm (by omega)] at c1;rw [show decide (z<0)=true from by simp; omega];refine Aa Hf fun C hC => ?_;refine Af ?_;refine AH ?_;refine BP ?_;refine AhQ 1 2 [1,2] c2 ?_;refine BP ?_;refine Ak ⟨rfl,?_⟩;refine Af ?_;exact Am
theorem AfN (n:Bool) (V:Nat) (hl:(limbs V).length≤A2):Ae Tryz.prog 160 [.agg (Cs n (limbs V))] (.agg (AY ⟨Cu n V,limbs V,[1]⟩)):=by
 have c1:=CP n (limbs V) (Ar _) hl;rw [Aq] at c1;refine Aa Ks fun C hC => ?_;refine Af ?_;exact Am
theorem Y1 (z:Int):Cu (decide (z<0)) z.natAbs=decide (z<0):=by
 unfold Cu; split
 ·rename_i h; rw [eq_comm,decide_eq_false_iff_not]; omega
 ·rfl
theorem AlZ (z:Int) (h0 : -9223372036854775808≤z) (h1:z≤9223372036854775807):Ae Tryz.prog 110 [.lit (.int .i64 z)] (.agg (AY (HH z))):=by
 have hB:A2=1000000000:=rfl;have c1:=Adb z h0 h1;have hll:=Bh 64 z.natAbs (by omega);have c2:=AfN (decide (z<0)) z.natAbs (by omega);rw [Y1] at c2;refine Aa NA fun C hC => ?_;refine Af ?_;exact Am
def BV (z:Int):Ah:=.mk 0 0 (HH z) 0 []
theorem Aeu (z:Int) (h0 : -9223372036854775808≤z) (h1:z≤9223372036854775807):Ae Tryz.prog 46 [.lit (.int .i64 z)] (.agg (Au (BV z))):=by
 have c1:=AlZ z h0 h1;refine Aa MH fun C hC => ?_;refine Af ?_;exact Am
theorem R4 (l:List Int) (s:Nat) (hl:l.length≤A2) (hr:∀ z ∈ l,-9223372036854775808≤z∧z≤9223372036854775807):Ae Tryz.prog 14 [.sl 1 (Ab .i64 l),CG s] (.agg (Ao (.mk s [(l.length:Int)] (l.map BV)))):=by
 have hB:A2=1000000000:=rfl;have ll:=Ac .i64 l;refine Aa JD fun C hC => ?_;refine Af ?_;refine Aki 2 2 43 7 rfl rfl rfl rfl ?_
 refine Ai [0,4,5] [0,1] (fun k:Nat=>[(6,.lit (.int .i64 k))]) (fun k=>[(2,some ⟨false,false,26,3,[[CG s,.own 1,.own 3]]⟩),(3,some ⟨true,false,43,7,((l.take k).map BV).map Av⟩)]) 4
  (fun k=>k≤l.length) (fun k=>l.length - k) 0 (Nat.zero_le _) ?_
 rintro k hk;dsimp only [List.cons_append,List.nil_append];by_cases hlt:k<l.length
 ·obtain ⟨z,hz⟩:∃ z,l[k]? = some z:=⟨_,List.getElem?_eq_getElem hlt⟩
  have hzr:=hr z (List.mem_of_getElem? hz);have c1:=Aeu z hzr.1 hzr.2;have hzk:=Az (k:=.i64) hz
  have hms:((l.take k).map BV).map Av++[Au (BV z)]=((l.take (k+1)).map BV).map Av:=by
   rw [BO hz]; simp [Bv]
  have hlm:(((l.take k).map BV).map Av).length=k:=by simp; omega
  refine Af ?_;exact ⟨k+1,by omega,by omega,BI hC.m [(3,5)] (by rw [← hms]; rfl)⟩
 ·rw [List.take_of_length_le (by omega)]
  refine Af ?_;exact Am
theorem Jb (cs:List Ah) (hb:cs.length≤100000000) (hc:∀ c ∈ cs,c.n.top.length≤A2∧c.n.bot.length≤A2∧c.ins.length≤A2):Ae Tryz.prog 92 [.sl 7 (cs.map Av)] (.agg (Ao (.mk 0 [(cs.length:Int)] cs))):=by
 have hB:A2=1000000000:=rfl;have lcs:((cs.map Av).length:Int)=cs.length:=by simp
 refine Aa O4 fun C hC => ?_;refine Af ?_;have e0:=DI Au Bd cs
 refine Ai [2,3,9,10,0] [0] (fun k:Nat=>[(11,.lit (.int .i64 k))]) (fun k=>[(1,some ⟨true,false,43,7,Gk Au Bd cs k⟩)]) 2
  (fun k=>k≤cs.length) (fun k=>cs.length - k) 0 (Nat.zero_le _) ?_
 rintro k hk;dsimp only [List.cons_append,List.nil_append];by_cases hlt:k<cs.length
 ·obtain ⟨c,hck⟩:∃ c,cs[k]? = some c:=⟨_,List.getElem?_eq_getElem hlt⟩
  obtain ⟨h1,h2,h3⟩:=hc c (List.mem_of_getElem? hck);have c1:=Ahp c h1 h2 h3;have hcv:=A9 hck;have hset:=DY Au Bd cs k c hck;have hget:=DX Au Bd cs k hlt;have hll:=DW Au Bd cs k hk;refine Af ?_;exact ⟨k+1,by omega,by omega,BI hC.m [] (by rw [← hset]; rfl)⟩
 ·rw [DZ Au Bd cs k hlt,show cs.map Au=cs.map Av from by simp [Bv]]
  refine Af ?_;exact Am
end Go.Proofs.YtjcolpcfcdkckaaGreat
