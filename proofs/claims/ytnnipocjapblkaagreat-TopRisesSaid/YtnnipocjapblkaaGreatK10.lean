/- Natural numbers of the program: shifted up and down. -/
import Derived.Test.YtnnipocjapblkaaGreatK09
set_option maxRecDepth 10000
set_option maxHeartbeats 2000000
namespace Go.Proofs.YtnnipocjapblkaaGreat
set_option linter.unusedVariables false
open Go.RowKit
structure Shf (s:Nat) (P:Int):Prop where
 sle:s≤31
 eq:P=((2 ^ s:Nat):Int)
theorem Shf.pos {s:Nat} {P:Int} (h:Shf s P):0<P:=by
 have:0<2 ^ s:=Nat.pow_pos (by omega)
 rw [h.eq]; omega
theorem Shf.le {s:Nat} {P:Int} (h:Shf s P):P≤2147483648:=by
 have:2 ^ s≤2 ^ 31:=Nat.pow_le_pow_right (by omega) h.sle
 rw [h.eq]; omega
theorem Shf.pow {s:Nat} {P:Int} (h:Shf s P):(2:Int) ^ (min ((s:Nat):Int).toNat (IntKind.bits .u64))=P:=by
 have h1:=h.sle
 have e:min ((s:Nat):Int).toNat (IntKind.bits .u64)=s:=by
  show min ((s:Nat):Int).toNat 64=s
  omega
 rw [e,h.eq]; simp
theorem Shf.dvd {s:Nat} {P:Int} (h:Shf s P):∃ Q:Int,P * Q=4294967296:=by
 refine ⟨((2 ^ (32 - s):Nat):Int),?_⟩
 have h1:=h.sle
 rw [h.eq,← Int.natCast_mul,← Nat.pow_add,show s+(32 - s)=32 from by omega]
 rfl
theorem Shf.up {s:Nat} {P:Int} (h:Shf s P) {a c:Int} (ha:lim1 a) (c0:0≤c) (c1:c<P) :
 IntKind.u64.wrap (a * P)=a * P∧absInt .or .u64 (a * P) c=some (.int .u64 (a * P+c))∧0≤a * P∧a * P+c<4294967296 * P:=by
 obtain ⟨a0,a1⟩:=ha
 have hp:=h.pos
 have hl:=h.le
 have h1:=Int.mul_nonneg a0 (Int.le_of_lt hp)
 have h2:=Int.mul_le_mul_of_nonneg_right (show a+1≤4294967296 by omega) (Int.le_of_lt hp)
 rw [Int.add_mul,Int.one_mul] at h2
 obtain ⟨a',rfl⟩:=Int.eq_ofNat_of_zero_le a0
 obtain ⟨c',rfl⟩:=Int.eq_ofNat_of_zero_le c0
 have he:=h.eq
 refine ⟨IntWalk.u64_in _ ⟨h1,by omega⟩,?_,h1,by omega⟩
 rw [he]
 refine orP a' c' s (by omega) ?_
 have:((a' * 2 ^ s+c':Nat):Int)=(a':Int) * P+c':=by rw [he]; simp
 omega
theorem up_m (xs:List Int) (s:Nat) (P:Int) (hs:Shf s P) (hx:limOK xs) (lx:xs.length≤100000) :
 AMut Tryz.prog 258 [.sl 1 (intsA .u32 xs),nA s] [] 0 (.own 0) [(0,some (rowU (digs (xs.length+1) (vI xs * P))))] 1:=by
 have lX:=intsA_len .u32 xs
 have hp:=hs.pos
 have hl:=hs.le
 have hs1:=hs.sle
 have hpw:=hs.pow
 have em:((xs.length:Int)+1).toNat=xs.length+1:=by omega
 refine amut_of code_nat_up (by simp [fn_nat_up]) fun C hC => ?_
 refine wk5 ?_
 refine aw_es 0 (intsA .u32 (List.replicate (xs.length+1) 0)) rfl (by dsimp only; rw [em,← intsA_rep]; rfl) ?_
 refine aw_loopB [0,1,4,5,14,15] [] (fun x:Nat × Int × List Int=>[(6,u64A x.2.1),(16,nA x.1)]) (fun x=>[(0,some (rowU (x.2.2++(List.replicate (xs.length+1) 0).drop x.1)))]) 1
  (fun x=>x.1≤xs.length∧x.2.2.length=x.1∧limOK x.2.2∧(0≤x.2.1∧x.2.1<P)∧vI x.2.2+BB x.1 * x.2.1=vI (xs.take x.1) * P) (fun x=>xs.length - x.1) (0,0,[]) ⟨Nat.zero_le _,rfl,limOK.nil,⟨by simp,hp⟩,by simp [vI]⟩ ?_
 rintro ⟨i,c,r⟩ ⟨hi,hr,or,⟨c0,c1⟩,hE⟩
 dsimp only [List.cons_append,List.nil_append] at hi hr or c0 c1 hE ⊢
 have hml:=mix_len (xs:=List.replicate (xs.length+1) 0) hr (by rw [List.length_replicate]; omega)
 rw [List.length_replicate] at hml
 have lM:=intsA_len .u32 (r++(List.replicate (xs.length+1) 0).drop i)
 have hz:(intsA .u32 (r++(List.replicate (xs.length+1) 0).drop i))[i]? = some [u32A 0]:=by
  refine int_at ((mix_at hr).trans ?_)
  rw [List.getElem?_replicate,if_pos (by omega)]
 have hset:=fun v=>mix_set (xs:=List.replicate (xs.length+1) 0) hr (by rw [List.length_replicate]; omega) v
 by_cases hlt:i<xs.length
 ·obtain ⟨a,ha⟩:∃ a,xs[i]? = some a:=⟨_,List.getElem?_eq_getElem hlt⟩
  have hak:(intsA .u32 xs)[i]? = some [u32A a]:=int_at ha
  have la:=lim1_of hx ha
  have sX:=vI_take_succ ha
  obtain ⟨u1,u2,u3,u4⟩:=hs.up la c0 c1
  have hcv:IntKind.u32.wrap (a * P+c)=(a * P+c) % 4294967296:=rfl
  have hms:intsA .u32 ((r++[(a * P+c) % 4294967296])++(List.replicate (xs.length+1) 0).drop (i+1))=(intsA .u32 (r++(List.replicate (xs.length+1) 0).drop i)).set i [u32A ((a * P+c) % 4294967296)]:=by rw [intsA_set,hset]
  obtain ⟨a0,a1⟩:=la
  refine wk5 ?_
  refine ⟨(i+1,(a * P+c) / 4294967296,r++[(a * P+c) % 4294967296]),by dsimp only; omega,⟨by dsimp only; omega,by simp [hr],or.snoc (by omega) (by omega),⟨by dsimp only; omega,by dsimp only; omega⟩,?_⟩,wkR hC.m [] (by dsimp only [rowU]; rw [hms]; rfl)⟩
  dsimp only
  rw [sX,vI_snoc,hr,BB_succ]
  have:=Int.emod_add_mul_ediv (a * P+c) 4294967296
  grind
 ·have hiX:i=xs.length:=by omega
  subst hiX
  rw [List.take_length] at hE
  have hcv:IntKind.u32.wrap c=c:=u32_in _ c0 (by omega)
  have hms:intsA .u32 (r++[c])=(intsA .u32 (r++(List.replicate (xs.length+1) 0).drop xs.length)).set xs.length [u32A c]:=by
   rw [intsA_set,hset,List.drop_eq_nil_of_le (by rw [List.length_replicate]; omega),List.append_nil]
  have e:=digs_of (xs:=r++[c]) (n:=xs.length+1) (V:=vI xs * P) (or.snoc c0 (by omega)) (by simp [hr]) (by rw [vI_snoc,hr]; exact hE)
  rw [← e]
  refine wk5 ?_
  exact fin_m [] (hh:=by dsimp only [rowU]; rw [hms]; rfl)
theorem down_a (xs:List Int) (s:Nat) (P:Int) (hs:Shf s P) (hx:limOK xs) (lx:xs.length≤100000) :
 ACalls Tryz.prog 262 [.sl 1 (intsA .u32 xs),nA s] (.sl 1 (intsA .u32 (limbs (vI xs / P).toNat))):=by
 have lX:=intsA_len .u32 xs
 have hp:=hs.pos
 have hl:=hs.le
 have hs1:=hs.sle
 have hpw:=hs.pow
 obtain ⟨Q,hQ⟩:=hs.dvd
 have em:(xs.length:Int).toNat=xs.length:=by omega
 refine acalls_of code_nat_down (by simp [fn_nat_down]) fun C hC => ?_
 refine wk5 ?_
 refine aw_es 0 (intsA .u32 ((List.replicate xs.length 0).take xs.length++[])) rfl (by dsimp only; rw [em,List.append_nil,List.take_of_length_le (by simp),← intsA_rep]; rfl) ?_
 refine aw_loopB [0,1,4,5] [] (fun x:Nat × Int × List Int=>[(6,u64A x.2.1),(7,nA ((x.1:Int) - 1))]) (fun x=>[(0,some (rowU ((List.replicate xs.length 0).take x.1++x.2.2)))]) 1
  (fun x=>x.1≤xs.length∧x.2.2.length+x.1=xs.length∧limOK x.2.2∧lim1 x.2.1∧∃ m,vI (xs.drop x.1)=P * vI x.2.2+m∧0≤m∧m<P∧∃ h,x.2.1=P * h+m) (fun x=>x.1) (xs.length,0,[]) ⟨Nat.le_refl _,by simp,limOK.nil,⟨by simp,by simp⟩,0,by simp [vI],Int.le_refl _,hp,0,by simp⟩ ?_
 rintro ⟨k,t,q⟩ ⟨hk,hq,oq,lt,m,hE,m0,m1,h,hh⟩
 dsimp only [List.cons_append,List.nil_append] at hk hq oq lt hE hh ⊢
 obtain ⟨t0,t1⟩:=lt
 cases k with
 | zero =>
   rw [List.drop_zero] at hE
   have nq:=vI_nonneg oq
   have e2:vI xs / P=vI q:=by
    rw [hE,Int.add_comm,Int.mul_comm,Int.add_mul_ediv_right _ _ (by omega),Int.ediv_eq_zero_of_lt m0 m1,Int.zero_add]
   have ct:=trim_a q
   rw [trim_val (V:=(vI q).toNat) oq (by omega)] at ct
   rw [e2]
   refine wk5 ?_
   exact fin
 | succ k =>
   obtain ⟨a,ha⟩:∃ a,xs[k]? = some a:=⟨_,List.getElem?_eq_getElem (by omega)⟩
   have ek:(((k+1:Nat):Int) - 1).toNat=k:=by omega
   have hql:q.length+(k+1)=(List.replicate xs.length (0:Int)).length:=by rw [List.length_replicate]; omega
   have hml:=mix2_len (xs:=List.replicate xs.length 0) hql
   rw [List.length_replicate] at hml
   have lM:=intsA_len .u32 ((List.replicate xs.length 0).take (k+1)++q)
   have hak:(intsA .u32 xs)[(((k+1:Nat):Int) - 1).toNat]? = some [u32A a]:=by rw [ek]; exact int_at ha
   have hzk:(intsA .u32 ((List.replicate xs.length 0).take (k+1)++q))[(((k+1:Nat):Int) - 1).toNat]? = some [u32A 0]:=by
    rw [ek]
    refine int_at ((mix2_at (by rw [List.length_replicate]; omega)).trans ?_)
    rw [List.getElem?_replicate,if_pos (by omega)]
   obtain ⟨a0,a1⟩:=lim1_of hx ha
   have ho:=or32 (a:=t) (c:=a) ⟨t0,t1⟩ ⟨a0,a1⟩
   have hd:=List.drop_eq_getElem_cons (l:=xs) (i:=k) (by omega)
   rw [(List.getElem?_eq_some_iff.1 ha).2] at hd
   have e1:(t * 4294967296+a) / P=h * 4294967296+(m * 4294967296+a) / P:=by
    rw [hh,show (P * h+m) * 4294967296+a=(m * 4294967296+a)+(h * 4294967296) * P from by grind,Int.add_mul_ediv_right _ _ (by omega)]
    omega
   have g0:0≤(m * 4294967296+a) / P:=Int.ediv_nonneg (by omega) (by omega)
   have g1:(m * 4294967296+a) / P<4294967296:=by
    refine Int.ediv_lt_of_lt_mul hp ?_
    have:=Int.mul_le_mul_of_nonneg_right (show m+1≤P by omega) (show (0:Int)≤4294967296 by omega)
    rw [Int.add_mul] at this
    rw [Int.mul_comm 4294967296 P]
    omega
   have e3:((t * 4294967296+a) / P) % 4294967296=(m * 4294967296+a) / P:=by
    rw [e1,Int.add_comm,Int.add_mul_emod_self_right]
    exact Int.emod_eq_of_lt g0 g1
   have hcv:IntKind.u32.wrap ((t * 4294967296+a) / P)=(m * 4294967296+a) / P:=e3
   have hset:=mix2_set (r:=q) (xs:=List.replicate xs.length 0) (k:=k) (by rw [List.length_replicate]; omega) ((m * 4294967296+a) / P)
   have hms:intsA .u32 ((List.replicate xs.length 0).take k++((m * 4294967296+a) / P::q))=(intsA .u32 ((List.replicate xs.length 0).take (k+1)++q)).set (((k+1:Nat):Int) - 1).toNat [u32A ((m * 4294967296+a) / P)]:=by rw [ek,intsA_set,hset]
   refine wk5 ?_
   have em1:=Int.emod_nonneg a (show P≠0 by omega)
   have em2:=Int.emod_lt_of_pos a hp
   have em3:=Int.emod_add_mul_ediv a P
   have em4:=Int.emod_add_mul_ediv (m * 4294967296+a) P
   have em5:(m * 4294967296+a) % P=a % P:=by
    rw [show m * 4294967296+a=a+(m * Q) * P from by grind,Int.add_mul_emod_self_right]
   refine ⟨(k,a,(m * 4294967296+a) / P::q),by dsimp only; omega,⟨by dsimp only; omega,by simp; omega,fun z hz => ?_,⟨a0,a1⟩,a % P,?_,em1,em2,a / P,by dsimp only; omega⟩,wkR hC.m [] (by dsimp only [rowU]; rw [hms,show ((k:Nat):Int) - 1=((k+1:Nat):Int) - 1 - 1 from by omega]; rfl)⟩
   ·rcases List.mem_cons.1 hz with rfl|hz
    ·exact ⟨g0,g1⟩
    ·exact oq z hz
   ·dsimp only
    rw [hd,vI,hE,vI,← em5]
    grind
end Go.Proofs.YtnnipocjapblkaaGreat
