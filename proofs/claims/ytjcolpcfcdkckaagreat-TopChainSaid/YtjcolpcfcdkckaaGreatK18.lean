/- Natural numbers of the program: by one limb; shifted; of two words. -/
import Derived.Test.YtjcolpcfcdkckaaGreatK16
set_option maxRecDepth 10000
set_option maxHeartbeats 2000000
namespace Go.Proofs.YtjcolpcfcdkckaaGreat
set_option linter.unusedVariables false
open Go.RowKit
def DA:Nat→Int→List Int
 | 0,_=>[]
 | n+1,V=>V % 4294967296::DA n (V / 4294967296)
theorem CQ:∀ (n:Nat) (V:Int),(DA n V).length=n
 | 0,_=>rfl
 | n+1,V=>by simp [DA,CQ n]
theorem GS:∀ (n:Nat) (V:Int),AD (DA n V)
 | 0,_=>AD.nil
 | n+1,V=>fun z hz=>by
   simp only [DA,List.mem_cons] at hz;rcases hz with rfl|hz
   ·omega
   ·exact GS n _ z hz
theorem Fg:∀ (n:Nat) (V:Int),0≤V→V<BB n→vI (DA n V)=V
 | 0,V,h0,h1=>by rw [JN] at h1; simp only [DA,vI]; omega
 | n+1,V,h0,h1=>by
   rw [BX] at h1;simp only [DA,vI];rw [Fg n _ (by omega) (by omega)];omega
theorem Tf {xs:List Int} {n:Nat} {V:Int} (h:AD xs) (hl:xs.length=n) (hv:vI xs=V):xs=DA n V:=by
 have h0:=BM h;have h1:=Hr h;rw [hl,hv] at h1;exact Ac5 h (GS n V) (by rw [hl,CQ]) (by rw [hv,Fg n V (by omega) h1])
theorem orP (a c s:Nat) (hc:c<2 ^ s) (ht:a * 2 ^ s+c<18446744073709551616):BQ .or .u64 ((a:Int) * ((2 ^ s:Nat):Int)) (c:Int)=some (.int .u64 ((a:Int) * ((2 ^ s:Nat):Int)+c)):=by
 show some (Value.int .u64 (IntKind.u64.wrap (BitVec.ofInt 64 ((a:Int) * ((2 ^ s:Nat):Int)) ||| BitVec.ofInt 64 (c:Int)).toNat))=_
 have e1:BitVec.ofInt 64 ((a:Int) * ((2 ^ s:Nat):Int))=BitVec.ofNat 64 (a * 2 ^ s):=by
  rw [← Int.natCast_mul]; exact BitVec.ofInt_natCast ..
 have e2:BitVec.ofInt 64 (c:Int)=BitVec.ofNat 64 c:=BitVec.ofInt_natCast ..;rw [e1,e2,BitVec.toNat_or,BitVec.toNat_ofNat,BitVec.toNat_ofNat,Nat.mod_eq_of_lt (by omega),Nat.mod_eq_of_lt (by omega)]
 have e3:a * 2 ^ s ||| c=a * 2 ^ s+c:=by
  have:=Nat.two_pow_add_eq_or_of_lt hc a
  rw [Nat.mul_comm] at this;exact this.symm
 rw [e3,IntWalk.u64_in _ ⟨by omega,by omega⟩];simp
theorem AfX {a c:Int} (ha:GP a) (hc:GP c):BQ .or .u64 (a * 4294967296) c=some (.int .u64 (a * 4294967296+c)):=by
 obtain ⟨a0,a1⟩:=ha;obtain ⟨c0,c1⟩:=hc;obtain ⟨a,rfl⟩:=Int.eq_ofNat_of_zero_le a0;obtain ⟨c,rfl⟩:=Int.eq_ofNat_of_zero_le c0;exact orP a c 32 (by omega) (by omega)
theorem Aig (X:Nat) (hX:X<18446744073709551616):Ae Tryz.prog 246 [.sl 1 (Ab .u32 (limbs X))] (Gp X):=by
 have s0:(2:Int) ^ (min (32 * 0:Int).toNat (IntKind.bits .u64))=1:=by decide
 have s1:(2:Int) ^ (min (32 * (0+1):Int).toNat (IntKind.bits .u64))=4294967296:=by decide
 rcases Ls X with ⟨h1,h2⟩|⟨h1,h2,h3⟩|⟨h1,h2,h3⟩|⟨h1,_⟩
 ·rw [h2,h1]
  refine Aa IB fun C hC => ?_;refine Aj ?_;refine CM 3 ?_;refine Ea ?_;refine Aj ?_;exact Am
 ·rw [h3]
  have hl1:((Ab .u32 [(X:Int)]).length:Int)=1:=rfl;have hw:IntKind.u64.wrap ((X:Int) * 1)=X:=by rw [Int.mul_one]; exact IntWalk.u64_in _ ⟨by omega,by omega⟩
  have ho:BQ .or .u64 0 (X:Int)=some (.int .u64 X):=by
   have:=orP 0 X 63 (by omega) (by omega)
   simpa using this
  refine Aa IB fun C hC => ?_;refine Aj ?_;refine CM 3 ?_;refine Ea ?_;refine Aj ?_;exact Am
 ·rw [h3]
  have hl1:((Ab .u32 [((X % 4294967296:Nat):Int),((X / 4294967296:Nat):Int)]).length:Int)=2:=rfl;have hw:IntKind.u64.wrap (((X % 4294967296:Nat):Int) * 1)=((X % 4294967296:Nat):Int):=by rw [Int.mul_one]; exact IntWalk.u64_in _ ⟨by omega,by omega⟩
  have hw2:IntKind.u64.wrap (((X / 4294967296:Nat):Int) * 4294967296)=((X / 4294967296:Nat):Int) * 4294967296:=IntWalk.u64_in _ ⟨by omega,by omega⟩
  have ho:BQ .or .u64 0 ((X % 4294967296:Nat):Int)=some (.int .u64 ((X % 4294967296:Nat):Int)):=by
   have:=orP 0 (X % 4294967296) 63 (by omega) (by omega)
   simpa using this
  have ho2:BQ .or .u64 ((X % 4294967296:Nat):Int) (((X / 4294967296:Nat):Int) * 4294967296)=some (.int .u64 X):=by
   have h:=AfX (a:=((X / 4294967296:Nat):Int)) (c:=((X % 4294967296:Nat):Int)) ⟨by omega,by omega⟩ ⟨by omega,by omega⟩
   have e:BQ .or .u64 ((X % 4294967296:Nat):Int) (((X / 4294967296:Nat):Int) * 4294967296)=BQ .or .u64 (((X / 4294967296:Nat):Int) * 4294967296) ((X % 4294967296:Nat):Int):=by
    simp only [BQ,BitVec.or_comm]
   rw [e,h];congr 2; omega
  refine Aa IB fun C hC => ?_;refine Aj ?_;refine CM 3 ?_;refine Ea ?_;refine Aj ?_;exact Am
 ·omega
theorem Aky (a b:Nat) (ha:a<18446744073709551616) (hb:b<18446744073709551616):Ae Tryz.prog 245 [Gp a,Gp b] (.sl 1 (Ab .u32 (limbs (Nat.gcd a b)))):=by
 refine Aa Uv fun C hC => ?_;refine Aj ?_;refine Ai [4] [] (fun x:Nat × Nat=>[(0,Gp x.1),(1,Gp x.2)]) (fun _=>[]) 0 (fun x=>x.1<18446744073709551616∧x.2<18446744073709551616∧Nat.gcd x.1 x.2=Nat.gcd a b) (fun x=>x.2) (a,b) ⟨ha,hb,rfl⟩ ?_;rintro ⟨x,y⟩ ⟨hx,hy,hg⟩;dsimp only [List.cons_append,List.nil_append] at hx hy hg ⊢;by_cases h:y=0
 ·subst h
  rw [Nat.gcd_zero_right] at hg;rw [← hg];have hcv:IntKind.u32.wrap (x:Int)=(x:Int) % 4294967296:=rfl
  have ol:AD [(x:Int) % 4294967296,(x:Int) / 4294967296]:=fun z hz=>by
   simp only [List.mem_cons,List.not_mem_nil,or_false] at hz;rcases hz with rfl|rfl<;>omega
  have cn:=QW [(x:Int) % 4294967296,(x:Int) / 4294967296] (by show 2≤1000000000; omega);rw [F6 (V:=x) ol (by simp only [vI]; omega)] at cn;refine Aj ?_;exact Am
 ·have hm:=Nat.mod_lt x (Nat.pos_of_ne_zero h)
  refine Aj ?_;exact ⟨(y,x % y),by dsimp only; exact hm,⟨hy,by dsimp only; omega,by dsimp only; rw [← hg]; exact (Nat.gcd_comm _ _).trans ((Nat.gcd_rec y x).symm.trans (Nat.gcd_comm _ _))⟩,BI hC.m []⟩
theorem AfY (xs:List Int) (b:Int) (hx:AD xs) (lx:xs.length≤100000) (hb:GP b) (hb0:0<b) :
 Dn Tryz.prog 247 [.own 0,B0 b] [(0,some (DE xs))] 1 (B0 (vI xs % b)) [(0,some (DE (DA xs.length (vI xs / b))))] 1:=by
 have lX:=Ac .u32 xs;obtain ⟨b0,b1⟩:=hb;refine BK Q2 fun C hC => ?_;refine Aj ?_;refine F8 0 (Ab .u32 (xs.take xs.length++[])) rfl (by dsimp only; rw [List.take_length,List.append_nil]) ?_
 refine Ai [0,1,4] [] (fun x:Nat × Int × List Int=>[(5,Gp x.2.1),(6,nA ((x.1:Int) - 1))]) (fun x=>[(0,some (DE (xs.take x.1++x.2.2)))]) 1
  (fun x=>x.1≤xs.length∧x.2.2.length+x.1=xs.length∧AD x.2.2∧(0≤x.2.1∧x.2.1<b)∧vI (xs.drop x.1)=vI x.2.2 * b+x.2.1) (fun x=>x.1) (xs.length,0,[]) ⟨Nat.le_refl _,by simp,AD.nil,⟨by simp,hb0⟩,by simp [vI]⟩ ?_
 rintro ⟨k,r,q⟩ ⟨hk,hq,oq,⟨r0,r1⟩,hE⟩;dsimp only [List.cons_append,List.nil_append] at hk hq oq r0 r1 hE ⊢;cases k with
 | zero =>
   rw [List.drop_zero] at hE;have hql:q.length=xs.length:=by omega
   have nq:=BM oq
   have e1:vI xs % b=r:=by
    rw [hE,Int.add_comm,Int.add_mul_emod_self_right]; exact Int.emod_eq_of_lt r0 r1
   have e2:vI xs / b=vI q:=by
    rw [hE,Int.add_comm,Int.add_mul_ediv_right _ _ (by omega),Int.ediv_eq_zero_of_lt r0 r1,Int.zero_add]
   have e3:=Tf oq hql rfl;rw [e1,e2,← e3];have hcv:IntKind.u32.wrap r=r:=Lb _ r0 (by omega);refine Aj ?_;exact BZ []
 | succ k =>
   obtain ⟨a,ha⟩:∃ a,xs[k]? = some a:=⟨_,List.getElem?_eq_getElem (by omega)⟩;have ek:(((k+1:Nat):Int) - 1).toNat=k:=by omega
   have hml:=US (xs:=xs) hq;have lM:=Ac .u32 (xs.take (k+1)++q);have hak:(Ab .u32 (xs.take (k+1)++q))[(((k+1:Nat):Int) - 1).toNat]? = some [B0 a]:=by rw [ek]; exact Az ((YZ (by omega)).trans ha)
   obtain ⟨a0,a1⟩:=Cf hx ha;have ho:=AfX (a:=r) (c:=a) ⟨r0,by omega⟩ ⟨a0,a1⟩;have hd:=List.drop_eq_getElem_cons (l:=xs) (i:=k) (by omega);rw [(List.getElem?_eq_some_iff.1 ha).2] at hd
   have hlt:(r * 4294967296+a) / b<4294967296:=by
    refine Int.ediv_lt_of_lt_mul hb0 ?_
    have:=Int.mul_le_mul_of_nonneg_right (show r+1≤b by omega) (show (0:Int)≤4294967296 by omega)
    rw [Int.add_mul] at this;rw [Int.mul_comm 4294967296 b];omega
   have hge:0≤(r * 4294967296+a) / b:=Int.ediv_nonneg (by omega) (by omega);have hm0:0≤(r * 4294967296+a) % b:=Int.emod_nonneg _ (by omega);have hm1:(r * 4294967296+a) % b<b:=Int.emod_lt_of_pos _ hb0;have hset:=UR (r:=q) (xs:=xs) (k:=k) (by omega) ((r * 4294967296+a) / b);have hms:Ab .u32 (xs.take k++((r * 4294967296+a) / b::q))=(Ab .u32 (xs.take (k+1)++q)).set (((k+1:Nat):Int) - 1).toNat [B0 ((r * 4294967296+a) / b)]:=by rw [ek,Bu,hset]
   have hcv:IntKind.u32.wrap ((r * 4294967296+a) / b)=(r * 4294967296+a) / b:=Lb _ hge (by omega);refine Aj ?_;refine ⟨(k,(r * 4294967296+a) % b,(r * 4294967296+a) / b::q),by dsimp only; omega,⟨by dsimp only; omega,by simp; omega,fun z hz => ?_,⟨hm0,hm1⟩,?_⟩,BI hC.m [] (by dsimp only [DE]; rw [hms,show ((k:Nat):Int) - 1=((k+1:Nat):Int) - 1 - 1 from by omega]; rfl)⟩
   ·rcases List.mem_cons.1 hz with rfl|hz
    ·exact ⟨hge,hlt⟩
    ·exact oq z hz
   ·dsimp only
    rw [hd,vI,hE,vI]
    have:=Int.emod_add_mul_ediv (r * 4294967296+a) b
    grind
structure Shf (s:Nat) (P:Int):Prop where
 sle:s≤31
 eq:P=((2 ^ s:Nat):Int)
theorem Shf.pos {s:Nat} {P:Int} (h:Shf s P):0<P:=by
 have:0<2 ^ s:=Nat.pow_pos (by omega)
 rw [h.eq]; omega
theorem Shf.le {s:Nat} {P:Int} (h:Shf s P):P≤2147483648:=by
 have:2 ^ s≤2 ^ 31:=Nat.pow_le_pow_right (by omega) h.sle
 rw [h.eq]; omega
theorem Shf.pow {s:Nat} {P:Int} (h:Shf s P):(2:Int) ^ (min ((s:Nat):Int).toNat (IntKind.bits .u64))=P:=by
 have h1:=h.sle
 have e:min ((s:Nat):Int).toNat (IntKind.bits .u64)=s:=by
  show min ((s:Nat):Int).toNat 64=s;omega
 rw [e,h.eq]; simp
theorem Shf.dvd {s:Nat} {P:Int} (h:Shf s P):∃ Q:Int,P * Q=4294967296:=by
 refine ⟨((2 ^ (32 - s):Nat):Int),?_⟩;have h1:=h.sle;rw [h.eq,← Int.natCast_mul,← Nat.pow_add,show s+(32 - s)=32 from by omega];rfl
theorem Shf.up {s:Nat} {P:Int} (h:Shf s P) {a c:Int} (ha:GP a) (c0:0≤c) (c1:c<P) :
 IntKind.u64.wrap (a * P)=a * P∧BQ .or .u64 (a * P) c=some (.int .u64 (a * P+c))∧0≤a * P∧a * P+c<4294967296 * P:=by
 obtain ⟨a0,a1⟩:=ha;have hp:=h.pos;have hl:=h.le;have h1:=Int.mul_nonneg a0 (Int.le_of_lt hp);have h2:=Int.mul_le_mul_of_nonneg_right (show a+1≤4294967296 by omega) (Int.le_of_lt hp);rw [Int.add_mul,Int.one_mul] at h2;obtain ⟨a',rfl⟩:=Int.eq_ofNat_of_zero_le a0;obtain ⟨c',rfl⟩:=Int.eq_ofNat_of_zero_le c0;have he:=h.eq;refine ⟨IntWalk.u64_in _ ⟨h1,by omega⟩,?_,h1,by omega⟩;rw [he];refine orP a' c' s (by omega) ?_
 have:((a' * 2 ^ s+c':Nat):Int)=(a':Int) * P+c':=by rw [he]; simp
 omega
theorem Anb (xs:List Int) (s:Nat) (P:Int) (hs:Shf s P) (hx:AD xs) (lx:xs.length≤100000) :
 Dn Tryz.prog 252 [.sl 1 (Ab .u32 xs),nA s] [] 0 (.own 0) [(0,some (DE (DA (xs.length+1) (vI xs * P))))] 1:=by
 have lX:=Ac .u32 xs;have hp:=hs.pos;have hl:=hs.le;have hs1:=hs.sle;have hpw:=hs.pow;have em:((xs.length:Int)+1).toNat=xs.length+1:=by omega
 refine BK Aa1 fun C hC => ?_;refine Aj ?_;refine F8 0 (Ab .u32 (List.replicate (xs.length+1) 0)) rfl (by dsimp only; rw [em,← GY]; rfl) ?_
 refine Ai [0,1,4,5,14,15] [] (fun x:Nat × Int × List Int=>[(6,Gp x.2.1),(16,nA x.1)]) (fun x=>[(0,some (DE (x.2.2++(List.replicate (xs.length+1) 0).drop x.1)))]) 1
  (fun x=>x.1≤xs.length∧x.2.2.length=x.1∧AD x.2.2∧(0≤x.2.1∧x.2.1<P)∧vI x.2.2+BB x.1 * x.2.1=vI (xs.take x.1) * P) (fun x=>xs.length - x.1) (0,0,[]) ⟨Nat.zero_le _,rfl,AD.nil,⟨by simp,hp⟩,by simp [vI]⟩ ?_
 rintro ⟨i,c,r⟩ ⟨hi,hr,or,⟨c0,c1⟩,hE⟩;dsimp only [List.cons_append,List.nil_append] at hi hr or c0 c1 hE ⊢;have hml:=LX (xs:=List.replicate (xs.length+1) 0) hr (by rw [List.length_replicate]; omega);rw [List.length_replicate] at hml;have lM:=Ac .u32 (r++(List.replicate (xs.length+1) 0).drop i)
 have hz:(Ab .u32 (r++(List.replicate (xs.length+1) 0).drop i))[i]? = some [B0 0]:=by
  refine Az ((N6 hr).trans ?_);rw [List.getElem?_replicate,if_pos (by omega)]
 have hset:=fun v=>JO (xs:=List.replicate (xs.length+1) 0) hr (by rw [List.length_replicate]; omega) v;by_cases hlt:i<xs.length
 ·obtain ⟨a,ha⟩:∃ a,xs[i]? = some a:=⟨_,List.getElem?_eq_getElem hlt⟩
  have hak:(Ab .u32 xs)[i]? = some [B0 a]:=Az ha;have la:=Cf hx ha;have sX:=A7 ha;obtain ⟨u1,u2,u3,u4⟩:=hs.up la c0 c1;have hcv:IntKind.u32.wrap (a * P+c)=(a * P+c) % 4294967296:=rfl;have hms:Ab .u32 ((r++[(a * P+c) % 4294967296])++(List.replicate (xs.length+1) 0).drop (i+1))=(Ab .u32 (r++(List.replicate (xs.length+1) 0).drop i)).set i [B0 ((a * P+c) % 4294967296)]:=by rw [Bu,hset]
  obtain ⟨a0,a1⟩:=la;refine Aj ?_;refine ⟨(i+1,(a * P+c) / 4294967296,r++[(a * P+c) % 4294967296]),by dsimp only; omega,⟨by dsimp only; omega,by simp [hr],or.snoc (by omega) (by omega),⟨by dsimp only; omega,by dsimp only; omega⟩,?_⟩,BI hC.m [] (by dsimp only [DE]; rw [hms]; rfl)⟩;dsimp only;rw [sX,DR,hr,BX]
  have:=Int.emod_add_mul_ediv (a * P+c) 4294967296
  grind
 ·have hiX:i=xs.length:=by omega
  subst hiX;rw [List.take_length] at hE;have hcv:IntKind.u32.wrap c=c:=Lb _ c0 (by omega)
  have hms:Ab .u32 (r++[c])=(Ab .u32 (r++(List.replicate (xs.length+1) 0).drop xs.length)).set xs.length [B0 c]:=by
   rw [Bu,hset,List.drop_eq_nil_of_le (by rw [List.length_replicate]; omega),List.append_nil]
  have e:=Tf (xs:=r++[c]) (n:=xs.length+1) (V:=vI xs * P) (or.snoc c0 (by omega)) (by simp [hr]) (by rw [DR,hr]; exact hE);rw [← e];refine Aj ?_;exact BZ [] (hh:=by dsimp only [DE]; rw [hms]; rfl)
theorem Al8 (xs:List Int) (s:Nat) (P:Int) (hs:Shf s P) (hx:AD xs) (lx:xs.length≤100000) :
 Ae Tryz.prog 256 [.sl 1 (Ab .u32 xs),nA s] (.sl 1 (Ab .u32 (limbs (vI xs / P).toNat))):=by
 have lX:=Ac .u32 xs;have hp:=hs.pos;have hl:=hs.le;have hs1:=hs.sle;have hpw:=hs.pow;obtain ⟨Q,hQ⟩:=hs.dvd;have em:(xs.length:Int).toNat=xs.length:=by omega
 refine Aa Wl fun C hC => ?_;refine Aj ?_;refine F8 0 (Ab .u32 ((List.replicate xs.length 0).take xs.length++[])) rfl (by dsimp only; rw [em,List.append_nil,List.take_of_length_le (by simp),← GY]; rfl) ?_
 refine Ai [0,1,4,5] [] (fun x:Nat × Int × List Int=>[(6,Gp x.2.1),(7,nA ((x.1:Int) - 1))]) (fun x=>[(0,some (DE ((List.replicate xs.length 0).take x.1++x.2.2)))]) 1
  (fun x=>x.1≤xs.length∧x.2.2.length+x.1=xs.length∧AD x.2.2∧GP x.2.1∧∃ m,vI (xs.drop x.1)=P * vI x.2.2+m∧0≤m∧m<P∧∃ h,x.2.1=P * h+m) (fun x=>x.1) (xs.length,0,[]) ⟨Nat.le_refl _,by simp,AD.nil,⟨by simp,by simp⟩,0,by simp [vI],Int.le_refl _,hp,0,by simp⟩ ?_
 rintro ⟨k,t,q⟩ ⟨hk,hq,oq,lt,m,hE,m0,m1,h,hh⟩;dsimp only [List.cons_append,List.nil_append] at hk hq oq lt hE hh ⊢;obtain ⟨t0,t1⟩:=lt;cases k with
 | zero =>
   rw [List.drop_zero] at hE;have nq:=BM oq
   have e2:vI xs / P=vI q:=by
    rw [hE,Int.add_comm,Int.mul_comm,Int.add_mul_ediv_right _ _ (by omega),Int.ediv_eq_zero_of_lt m0 m1,Int.zero_add]
   have ct:=Lh q;rw [F6 (V:=(vI q).toNat) oq (by omega)] at ct;rw [e2];refine Aj ?_;exact Am
 | succ k =>
   obtain ⟨a,ha⟩:∃ a,xs[k]? = some a:=⟨_,List.getElem?_eq_getElem (by omega)⟩;have ek:(((k+1:Nat):Int) - 1).toNat=k:=by omega
   have hql:q.length+(k+1)=(List.replicate xs.length (0:Int)).length:=by rw [List.length_replicate]; omega
   have hml:=US (xs:=List.replicate xs.length 0) hql;rw [List.length_replicate] at hml;have lM:=Ac .u32 ((List.replicate xs.length 0).take (k+1)++q);have hak:(Ab .u32 xs)[(((k+1:Nat):Int) - 1).toNat]? = some [B0 a]:=by rw [ek]; exact Az ha
   have hzk:(Ab .u32 ((List.replicate xs.length 0).take (k+1)++q))[(((k+1:Nat):Int) - 1).toNat]? = some [B0 0]:=by
    rw [ek];refine Az ((YZ (by rw [List.length_replicate]; omega)).trans ?_);rw [List.getElem?_replicate,if_pos (by omega)]
   obtain ⟨a0,a1⟩:=Cf hx ha;have ho:=AfX (a:=t) (c:=a) ⟨t0,t1⟩ ⟨a0,a1⟩;have hd:=List.drop_eq_getElem_cons (l:=xs) (i:=k) (by omega);rw [(List.getElem?_eq_some_iff.1 ha).2] at hd
   have e1:(t * 4294967296+a) / P=h * 4294967296+(m * 4294967296+a) / P:=by
    rw [hh,show (P * h+m) * 4294967296+a=(m * 4294967296+a)+(h * 4294967296) * P from by grind,Int.add_mul_ediv_right _ _ (by omega)];omega
   have g0:0≤(m * 4294967296+a) / P:=Int.ediv_nonneg (by omega) (by omega)
   have g1:(m * 4294967296+a) / P<4294967296:=by
    refine Int.ediv_lt_of_lt_mul hp ?_
    have:=Int.mul_le_mul_of_nonneg_right (show m+1≤P by omega) (show (0:Int)≤4294967296 by omega)
    rw [Int.add_mul] at this;rw [Int.mul_comm 4294967296 P];omega
   have e3:((t * 4294967296+a) / P) % 4294967296=(m * 4294967296+a) / P:=by
    rw [e1,Int.add_comm,Int.add_mul_emod_self_right];exact Int.emod_eq_of_lt g0 g1
   have hcv:IntKind.u32.wrap ((t * 4294967296+a) / P)=(m * 4294967296+a) / P:=e3;have hset:=UR (r:=q) (xs:=List.replicate xs.length 0) (k:=k) (by rw [List.length_replicate]; omega) ((m * 4294967296+a) / P);have hms:Ab .u32 ((List.replicate xs.length 0).take k++((m * 4294967296+a) / P::q))=(Ab .u32 ((List.replicate xs.length 0).take (k+1)++q)).set (((k+1:Nat):Int) - 1).toNat [B0 ((m * 4294967296+a) / P)]:=by rw [ek,Bu,hset]
   refine Aj ?_;have em1:=Int.emod_nonneg a (show P≠0 by omega);have em2:=Int.emod_lt_of_pos a hp;have em3:=Int.emod_add_mul_ediv a P;have em4:=Int.emod_add_mul_ediv (m * 4294967296+a) P
   have em5:(m * 4294967296+a) % P=a % P:=by
    rw [show m * 4294967296+a=a+(m * Q) * P from by grind,Int.add_mul_emod_self_right]
   refine ⟨(k,a,(m * 4294967296+a) / P::q),by dsimp only; omega,⟨by dsimp only; omega,by simp; omega,fun z hz => ?_,⟨a0,a1⟩,a % P,?_,em1,em2,a / P,by dsimp only; omega⟩,BI hC.m [] (by dsimp only [DE]; rw [hms,show ((k:Nat):Int) - 1=((k+1:Nat):Int) - 1 - 1 from by omega]; rfl)⟩
   ·rcases List.mem_cons.1 hz with rfl|hz
    ·exact ⟨g0,g1⟩
    ·exact oq z hz
   ·dsimp only
    rw [hd,vI,hE,vI,← em5]
    grind
end Go.Proofs.YtjcolpcfcdkckaaGreat
