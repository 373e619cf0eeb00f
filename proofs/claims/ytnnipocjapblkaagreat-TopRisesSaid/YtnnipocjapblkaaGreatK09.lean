/- Natural numbers of the program: taken off, multiplied, divided by one limb. -/
import Derived.Test.YtnnipocjapblkaaGreatK08
set_option maxRecDepth 10000
set_option maxHeartbeats 4000000
namespace Go.Proofs.YtnnipocjapblkaaGreat
set_option linter.unusedVariables false
open Go.RowKit
theorem norm_m (xs:List Int) (hx:limOK xs) (lx:xs.length≤100000):AMut Tryz.prog 223 [.sl 1 (intsA .u32 xs)] [] 0 (.own 0) [(0,some (rowU (limbs (valL xs))))] 1:=by
 have c1:=trim_of hx
 have t1:=trimI_len xs
 rw [trimI_limbs hx] at t1
 generalize valL xs=X at *
 have lX:=intsA_len .u32 (limbs X)
 refine amut_of code_nat_Norm (by simp [fn_nat_Norm]) fun C hC => ?_
 refine wk5 ?_
 refine r_copy ?_ ?_
 ·dsimp only; rw [List.length_replicate]; omega
 refine rrun5 ?_
 refine rg_nil ⟨rfl,?_⟩
 refine aw_es 0 (intsA .u32 (limbs X)) rfl (by dsimp only; rw [List.drop_eq_nil_of_le (by rw [List.length_replicate]; omega),List.append_nil]) ?_
 refine wk5 ?_
 exact fin_m []
theorem subC_eq {a y b:Int} (ha:lim1 a) (hy:lim1 y) (b0:0≤b) (b1:b≤1):(a - y - b) % 4294967296 - 4294967296 * subC a y b=a - y - b∧0≤subC a y b∧subC a y b≤1:=by
 obtain ⟨a0,a1⟩:=ha
 obtain ⟨y0,y1⟩:=hy
 unfold subC
 split<;>omega
theorem nsub_a (xs ys:List Int) (hx:limOK xs) (hy:limOK ys) (lx:xs.length≤100000) (ly:ys.length≤100000):ACalls Tryz.prog 250 [.sl 1 (intsA .u32 xs),.sl 1 (intsA .u32 ys)] (.tup [.sl 1 (intsA .u32 (limbs (valL xs - valL ys))),.lit (.bool (decide (valL ys≤valL xs)))]):=by
 have c1:=ncmp_a xs ys hx hy
 have c2:=trim_of hy
 have c3:=norm_m xs hx lx
 have t1:=trimI_len xs
 have t2:=trimI_len ys
 rw [trimI_limbs hx] at t1
 rw [trimI_limbs hy] at t2
 generalize valL xs=X at *
 generalize valL ys=Y at *
 have lX:=intsA_len .u32 (limbs X)
 have lY:=intsA_len .u32 (limbs Y)
 have oX:=limbs_ok X
 have oY:=limbs_ok Y
 have vX:=vI_limbs X
 have vY:=vI_limbs Y
 refine acalls_of code_nat_Sub (by simp [fn_nat_Sub]) fun C hC => ?_
 by_cases h:X<Y
 ·rw [cmpI,if_pos h] at c1
  rw [decide_eq_false (by omega),show X - Y=0 from by omega,limbs_zero]
  refine wk5 ?_
  exact fin
 have hge:Y≤X:=by omega
 have hl:=limbs_len_mono hge
 have c1':∃ z:Int,0≤z∧ACalls Tryz.prog 226 [.sl 1 (intsA .u32 xs),.sl 1 (intsA .u32 ys)] (.lit (.int .i64 z)):=⟨cmpI X Y,by unfold cmpI; split<;>(try split)<;>omega,c1⟩
 clear c1
 obtain ⟨z,z0,c1⟩:=c1'
 rw [decide_eq_true hge]
 refine wk5 ?_
 refine r_callN [] c3 ?_
 refine rrun5 ?_
 refine rg_nil ⟨rfl,?_⟩
 refine wk5 ?_
 refine aw_loopB [1,6,19] [] (fun x:Nat × Int × List Int=>[(7,u32A x.2.1),(20,nA x.1)]) (fun x=>[(0,some (rowU (x.2.2++(limbs X).drop x.1)))]) 1
  (fun x=>x.1≤(limbs X).length∧x.2.2.length=x.1∧limOK x.2.2∧(0≤x.2.1∧x.2.1≤1)∧vI ((limbs X).take x.1) - vI ((limbs Y).take x.1)=vI x.2.2 - BB x.1 * x.2.1) (fun x=>(limbs X).length - x.1) (0,0,[]) ⟨Nat.zero_le _,rfl,limOK.nil,⟨by simp,by simp⟩,by simp [vI]⟩ ?_
 rintro ⟨i,c,r⟩ ⟨hi,hr,or,⟨c0,c1'⟩,hE⟩
 dsimp only [List.cons_append,List.nil_append] at hi hr or c0 c1' hE ⊢
 have hml:=mix_len (xs:=limbs X) hr hi
 have lM:=intsA_len .u32 (r++(limbs X).drop i)
 have rv:=vI_nonneg or
 have oM:limOK (r++(limbs X).drop i):=or.app (oX.drop i)
 by_cases hlt:i<(limbs X).length
 ·obtain ⟨a,ha⟩:∃ a,(limbs X)[i]? = some a:=⟨_,List.getElem?_eq_getElem hlt⟩
  have hak:(intsA .u32 (r++(limbs X).drop i))[i]? = some [u32A a]:=int_at ((mix_at hr).trans ha)
  have la:=lim1_of oX ha
  have sX:=vI_take_succ ha
  have hset:=fun v=>mix_set (xs:=limbs X) hr hlt v
  by_cases hy:i<(limbs Y).length
  ·obtain ⟨y,hy1⟩:∃ y,(limbs Y)[i]? = some y:=⟨_,List.getElem?_eq_getElem hy⟩
   have hyk:(intsA .u32 (limbs Y))[i]? = some [u32A y]:=int_at hy1
   have ly:=lim1_of oY hy1
   have sY:=vI_take_succ hy1
   have ca:=sub32_a a y c la ly c0 c1'
   obtain ⟨e1,e2,e3⟩:=subC_eq la ly c0 c1'
   have hms:intsA .u32 ((r++[(a - y - c) % 4294967296])++(limbs X).drop (i+1))=(intsA .u32 (r++(limbs X).drop i)).set i [u32A ((a - y - c) % 4294967296)]:=by rw [intsA_set,hset]
   refine wk5 ?_
   refine ⟨(i+1,subC a y c,r++[(a - y - c) % 4294967296]),by dsimp only; omega,⟨by dsimp only; omega,by simp [hr],or.snoc (by omega) (by omega),⟨e2,e3⟩,?_⟩,wkR hC.m [] (by dsimp only [rowU]; rw [hms]; rfl)⟩
   dsimp only
   rw [sX,sY,vI_snoc,hr,BB_succ]
   grind
  ·by_cases hc0:c=0
   ·subst hc0
    have hv:vI (r++(limbs X).drop i)=((X - Y:Nat):Int):=by
     rw [vI_append,hr]
     have:=vI_split (limbs X) hi
     rw [List.take_of_length_le (show (limbs Y).length≤i by omega)] at hE
     rw [Int.mul_zero] at hE
     omega
    have ct:=trim_a (r++(limbs X).drop i)
    rw [trim_val oM hv] at ct
    refine wk5 ?_
    exact fin
   ·obtain rfl:c=1:=by omega
    have ca:=sub32_a a 0 1 la ⟨by omega,by omega⟩ (by omega) (by omega)
    obtain ⟨e1,e2,e3⟩:=subC_eq la (show lim1 0 from ⟨by omega,by omega⟩) (show (0:Int)≤1 by omega) (Int.le_refl 1)
    have hms:intsA .u32 ((r++[(a - 0 - 1) % 4294967296])++(limbs X).drop (i+1))=(intsA .u32 (r++(limbs X).drop i)).set i [u32A ((a - 0 - 1) % 4294967296)]:=by rw [intsA_set,hset]
    refine wk5 ?_
    refine ⟨(i+1,subC a 0 1,r++[(a - 0 - 1) % 4294967296]),by dsimp only; omega,⟨by dsimp only; omega,by simp [hr],or.snoc (by omega) (by omega),⟨e2,e3⟩,?_⟩,wkR hC.m [] (by dsimp only [rowU]; rw [hms]; rfl)⟩
    dsimp only
    rw [sX,vI_snoc,hr,BB_succ]
    rw [List.take_of_length_le (show (limbs Y).length≤i+1 by omega)]
    rw [List.take_of_length_le (show (limbs Y).length≤i by omega)] at hE
    grind
 ·have hiX:i=(limbs X).length:=by omega
  rw [List.take_of_length_le (show (limbs Y).length≤i by omega),List.take_of_length_le (show (limbs X).length≤i by omega),vX,vY] at hE
  have hd:(limbs X).drop i=[]:=List.drop_eq_nil_of_le (by omega)
  rw [hd,List.append_nil] at *
  have hc0:c=0:=by
   have:=vI_lt or
   rw [hr] at this
   by_cases hc:c=0
   ·exact hc
   ·obtain rfl:c=1:=by omega
    omega
  subst hc0
  have hv:vI r=((X - Y:Nat):Int):=by rw [Int.mul_zero] at hE; omega
  have ct:=trim_a r
  rw [trim_val or hv] at ct
  refine wk5 ?_
  exact fin
theorem mul_lim {x y:Int} (hx:lim1 x) (hy:lim1 y):0≤x * y∧x * y≤18446744065119617025:=by
 obtain ⟨x0,x1⟩:=hx
 obtain ⟨y0,y1⟩:=hy
 have h1:=Int.mul_nonneg x0 y0
 have h2:=Int.mul_le_mul (show x≤4294967295 by omega) (show y≤4294967295 by omega) y0 (by omega)
 omega
structure MulSt (X Y:Nat) (i:Nat) (xs:List Int):Prop where
 le:i≤(limbs X).length
 len:xs.length=(limbs X).length+(limbs Y).length
 ok:limOK xs
 val:vI xs=vI ((limbs X).take i) * Y
 top:vI (xs.drop (i+(limbs Y).length))=0
theorem nmul_a (xs ys:List Int) (hx:limOK xs) (hy:limOK ys) (lx:xs.length≤100000) (ly:ys.length≤100000):ACalls Tryz.prog 227 [.sl 1 (intsA .u32 xs),.sl 1 (intsA .u32 ys)] (.sl 1 (intsA .u32 (limbs (valL xs * valL ys)))):=by
 have c1:=trim_of hx
 have c2:=trim_of hy
 have t1:=trimI_len xs
 have t2:=trimI_len ys
 rw [trimI_limbs hx] at t1
 rw [trimI_limbs hy] at t2
 generalize valL xs=X at *
 generalize valL ys=Y at *
 have lX:=intsA_len .u32 (limbs X)
 have lY:=intsA_len .u32 (limbs Y)
 have oX:=limbs_ok X
 have oY:=limbs_ok Y
 have vX:=vI_limbs X
 have vY:=vI_limbs Y
 refine acalls_of code_nat_Mul (by simp [fn_nat_Mul]) fun C hC => ?_
 by_cases hX0:X=0
 ·subst hX0
  rw [Nat.zero_mul,limbs_zero] at *
  refine wk5 ?_
  exact fin
 by_cases hY0:Y=0
 ·subst hY0
  rw [Nat.mul_zero,limbs_zero] at *
  have:0<(limbs X).length:=by rw [limbs_pos hX0]; simp
  refine wk5 ?_
  exact fin
 have nX:0<(limbs X).length:=by rw [limbs_pos hX0]; simp
 have nY:0<(limbs Y).length:=by rw [limbs_pos hY0]; simp
 have em:(((limbs X).length:Int)+(limbs Y).length).toNat=(limbs X).length+(limbs Y).length:=by omega
 refine wk5 ?_
 refine aw_es 0 (intsA .u32 (List.replicate ((limbs X).length+(limbs Y).length) 0)) rfl (by dsimp only; rw [em,← intsA_rep]; rfl) ?_
 refine aw_loopB [0,1,5,30,31] [] (fun x:Nat × List Int=>[(32,nA x.1)]) (fun x=>[(0,some (rowU x.2))]) 1
  (fun x=>MulSt X Y x.1 x.2) (fun x=>(limbs X).length - x.1) (0,List.replicate ((limbs X).length+(limbs Y).length) 0) ⟨Nat.zero_le _,by simp,limOK.rep _,by simp [vI_rep,vI],by rw [List.drop_replicate,vI_rep]⟩ ?_
 rintro ⟨i,xs'⟩ ⟨hi,hlen,hok,hval,htop⟩
 dsimp only [List.cons_append,List.nil_append] at hi hlen hok hval htop ⊢
 by_cases hlt:i<(limbs X).length
 ·obtain ⟨x,hx1⟩:∃ x,(limbs X)[i]? = some x:=⟨_,List.getElem?_eq_getElem hlt⟩
  have hxk:(intsA .u32 (limbs X))[i]? = some [u32A x]:=int_at hx1
  have lx1:=lim1_of oX hx1
  have sX:=vI_take_succ hx1
  refine wk5 ?_
  refine aw_es 0 (intsA .u32 (xs'.take i++xs'.drop (i+0))) rfl (by dsimp only; rw [Nat.add_zero,List.take_append_drop]) ?_
  refine aw_loopB [0,1,5,6,7,30,31,32,37,38] [] (fun x:Nat × Int × List Int=>[(8,u64A x.2.1),(39,nA x.1)]) (fun x=>[(0,some (rowU (x.2.2++xs'.drop (i+x.1))))]) 1
   (fun y=>y.1≤(limbs Y).length∧y.2.2.length=i+y.1∧limOK y.2.2∧lim1 y.2.1∧vI y.2.2+BB (i+y.1) * y.2.1=vI (xs'.take (i+y.1))+BB i * (x * vI ((limbs Y).take y.1))) (fun y=>(limbs Y).length - y.1) (0,0,xs'.take i) ⟨Nat.zero_le _,by simp; omega,hok.take i,⟨by simp,by simp⟩,by simp [vI]⟩ ?_
  rintro ⟨j,c,r⟩ ⟨hj,hr,or,lc,hE⟩
  dsimp only [List.cons_append,List.nil_append] at hj hr or lc hE ⊢
  have hml:=mix_len (xs:=xs') hr (by omega)
  have lM:=intsA_len .u32 (r++xs'.drop (i+j))
  have eij:((i:Int)+(j:Int)).toNat=i+j:=by omega
  by_cases hlj:j<(limbs Y).length
  ·obtain ⟨y,hy1⟩:∃ y,(limbs Y)[j]? = some y:=⟨_,List.getElem?_eq_getElem hlj⟩
   have hyk:(intsA .u32 (limbs Y))[j]? = some [u32A y]:=int_at hy1
   have ly1:=lim1_of oY hy1
   have sY:=vI_take_succ hy1
   obtain ⟨s,hs1⟩:∃ s,xs'[i+j]? = some s:=⟨_,List.getElem?_eq_getElem (by omega)⟩
   have hsk:(intsA .u32 (r++xs'.drop (i+j)))[((i:Int)+(j:Int)).toNat]? = some [u32A s]:=by rw [eij]; exact int_at ((mix_at hr).trans hs1)
   have ls1:=lim1_of hok hs1
   have sS:=vI_take_succ hs1
   obtain ⟨m0,m1⟩:=mul_lim lx1 ly1
   have hcv:IntKind.u32.wrap (x * y+s+c)=(x * y+s+c) % 4294967296:=rfl
   have hset:=mix_set (xs:=xs') hr (by omega) ((x * y+s+c) % 4294967296)
   have hms:intsA .u32 ((r++[(x * y+s+c) % 4294967296])++xs'.drop (i+(j+1)))=(intsA .u32 (r++xs'.drop (i+j))).set ((i:Int)+(j:Int)).toNat [u32A ((x * y+s+c) % 4294967296)]:=by rw [eij,intsA_set,hset]; rfl
   obtain ⟨x0,x1⟩:=lx1
   obtain ⟨y0,y1⟩:=ly1
   obtain ⟨s0,s1⟩:=ls1
   obtain ⟨c0,c1'⟩:=lc
   refine wk5 ?_
   refine ⟨(j+1,(x * y+s+c) / 4294967296,r++[(x * y+s+c) % 4294967296]),by dsimp only; omega,⟨by dsimp only; omega,by simp [hr]; omega,or.snoc (by omega) (by omega),⟨by dsimp only; omega,by dsimp only; omega⟩,?_⟩,wkR hC.m [] (by dsimp only [rowU]; rw [hms]; rfl)⟩
   dsimp only
   rw [sY,vI_snoc,hr,← Nat.add_assoc,sS,BB_succ,BB_add]
   rw [BB_add] at hE
   have:=Int.emod_add_mul_ediv (x * y+s+c) 4294967296
   grind
  ·have hjY:j=(limbs Y).length:=by omega
   subst hjY
   rw [List.take_of_length_le (Nat.le_refl _),vY] at hE
   obtain ⟨s,hs1⟩:∃ s,xs'[i+(limbs Y).length]? = some s:=⟨_,List.getElem?_eq_getElem (by omega)⟩
   have hsk:(intsA .u32 (r++xs'.drop (i+(limbs Y).length)))[((i:Int)+((limbs Y).length:Int)).toNat]? = some [u32A s]:=by rw [eij]; exact int_at ((mix_at hr).trans hs1)
   obtain ⟨c0,c1'⟩:=lc
   have hset:=mix_set (xs:=xs') hr (by omega) c
   have hms:intsA .u32 ((r++[c])++xs'.drop (i+(limbs Y).length+1))=(intsA .u32 (r++xs'.drop (i+(limbs Y).length))).set ((i:Int)+((limbs Y).length:Int)).toNat [u32A c]:=by rw [eij,intsA_set,hset]
   have hd:=List.drop_eq_getElem_cons (l:=xs') (i:=i+(limbs Y).length) (by omega)
   have e1:xs'[i+(limbs Y).length]=s:=(List.getElem?_eq_some_iff.1 hs1).2
   rw [hd,e1,vI] at htop
   have ls:=lim1_of hok hs1
   have hn:=vI_nonneg (hok.drop (i+(limbs Y).length+1))
   obtain ⟨s0,s1⟩:=ls
   have hsp:=vI_split xs' (k:=i+(limbs Y).length) (by omega)
   rw [hd,e1,vI,htop,Int.mul_zero,Int.add_zero] at hsp
   have hz:vI (xs'.drop (i+(limbs Y).length+1))=0:=by omega
   refine wk5 ?_
   refine ⟨(i+1,(r++[c])++xs'.drop (i+(limbs Y).length+1)),by dsimp only; omega,⟨by dsimp only; omega,by simp [hr]; omega,(or.snoc c0 c1').app (hok.drop _),?_,?_⟩,wkR hC.m [] (by dsimp only [rowU]; rw [hms]; rfl)⟩
   ·dsimp only
    rw [vI_append,hz,vI_snoc,hr,sX,Int.mul_zero,Int.add_zero,hE,← hsp,hval]
    grind
   ·dsimp only
    rw [List.drop_append_of_le_length (by simp [hr]; omega),List.drop_eq_nil_of_le (by simp [hr]; omega),List.nil_append,hz]
 ·have hiX:i=(limbs X).length:=by omega
  rw [List.take_of_length_le (show (limbs X).length≤i by omega),vX] at hval
  have ct:=trim_a xs'
  rw [trim_val (V:=X * Y) hok (by rw [hval]; simp)] at ct
  refine wk5 ?_
  exact fin
def digs:Nat→Int→List Int
 | 0,_=>[]
 | n+1,V=>V % 4294967296::digs n (V / 4294967296)
theorem digs_len:∀ (n:Nat) (V:Int),(digs n V).length=n
 | 0,_=>rfl
 | n+1,V=>by simp [digs,digs_len n]
theorem digs_ok:∀ (n:Nat) (V:Int),limOK (digs n V)
 | 0,_=>limOK.nil
 | n+1,V=>fun z hz=>by
   simp only [digs,List.mem_cons] at hz
   rcases hz with rfl|hz
   ·omega
   ·exact digs_ok n _ z hz
theorem digs_val:∀ (n:Nat) (V:Int),0≤V→V<BB n→vI (digs n V)=V
 | 0,V,h0,h1=>by rw [BB_zero] at h1; simp only [digs,vI]; omega
 | n+1,V,h0,h1=>by
   rw [BB_succ] at h1
   simp only [digs,vI]
   rw [digs_val n _ (by omega) (by omega)]
   omega
theorem digs_of {xs:List Int} {n:Nat} {V:Int} (h:limOK xs) (hl:xs.length=n) (hv:vI xs=V):xs=digs n V:=by
 have h0:=vI_nonneg h
 have h1:=vI_lt h
 rw [hl,hv] at h1
 exact vI_inj h (digs_ok n V) (by rw [hl,digs_len]) (by rw [hv,digs_val n V (by omega) h1])
theorem orP (a c s:Nat) (hc:c<2 ^ s) (ht:a * 2 ^ s+c<18446744073709551616):absInt .or .u64 ((a:Int) * ((2 ^ s:Nat):Int)) (c:Int)=some (.int .u64 ((a:Int) * ((2 ^ s:Nat):Int)+c)):=by
 show some (Value.int .u64 (IntKind.u64.wrap (BitVec.ofInt 64 ((a:Int) * ((2 ^ s:Nat):Int)) ||| BitVec.ofInt 64 (c:Int)).toNat))=_
 have e1:BitVec.ofInt 64 ((a:Int) * ((2 ^ s:Nat):Int))=BitVec.ofNat 64 (a * 2 ^ s):=by
  rw [← Int.natCast_mul]; exact BitVec.ofInt_natCast ..
 have e2:BitVec.ofInt 64 (c:Int)=BitVec.ofNat 64 c:=BitVec.ofInt_natCast ..
 rw [e1,e2,BitVec.toNat_or,BitVec.toNat_ofNat,BitVec.toNat_ofNat,Nat.mod_eq_of_lt (by omega),Nat.mod_eq_of_lt (by omega)]
 have e3:a * 2 ^ s ||| c=a * 2 ^ s+c:=by
  have:=Nat.two_pow_add_eq_or_of_lt hc a
  rw [Nat.mul_comm] at this
  exact this.symm
 rw [e3,IntWalk.u64_in _ ⟨by omega,by omega⟩]
 simp
theorem or32 {a c:Int} (ha:lim1 a) (hc:lim1 c):absInt .or .u64 (a * 4294967296) c=some (.int .u64 (a * 4294967296+c)):=by
 obtain ⟨a0,a1⟩:=ha
 obtain ⟨c0,c1⟩:=hc
 obtain ⟨a,rfl⟩:=Int.eq_ofNat_of_zero_le a0
 obtain ⟨c,rfl⟩:=Int.eq_ofNat_of_zero_le c0
 exact orP a c 32 (by omega) (by omega)
theorem word_a (X:Nat) (hX:X<18446744073709551616):ACalls Tryz.prog 252 [.sl 1 (intsA .u32 (limbs X))] (u64A X):=by
 have s0:(2:Int) ^ (min (32 * 0:Int).toNat (IntKind.bits .u64))=1:=by decide
 have s1:(2:Int) ^ (min (32 * (0+1):Int).toNat (IntKind.bits .u64))=4294967296:=by decide
 rcases limbs_cases X with ⟨h1,h2⟩|⟨h1,h2,h3⟩|⟨h1,h2,h3⟩|⟨h1,_⟩
 ·rw [h2,h1]
  refine acalls_of code_nat_word (by simp [fn_nat_word]) fun C hC => ?_
  refine wk5 ?_
  refine aw_unroll 3 ?_
  refine awr_one ?_
  refine wk5 ?_
  exact fin
 ·rw [h3]
  have hl1:((intsA .u32 [(X:Int)]).length:Int)=1:=rfl
  have hw:IntKind.u64.wrap ((X:Int) * 1)=X:=by rw [Int.mul_one]; exact IntWalk.u64_in _ ⟨by omega,by omega⟩
  have ho:absInt .or .u64 0 (X:Int)=some (.int .u64 X):=by
   have:=orP 0 X 63 (by omega) (by omega)
   simpa using this
  refine acalls_of code_nat_word (by simp [fn_nat_word]) fun C hC => ?_
  refine wk5 ?_
  refine aw_unroll 3 ?_
  refine awr_one ?_
  refine wk5 ?_
  exact fin
 ·rw [h3]
  have hl1:((intsA .u32 [((X % 4294967296:Nat):Int),((X / 4294967296:Nat):Int)]).length:Int)=2:=rfl
  have hw:IntKind.u64.wrap (((X % 4294967296:Nat):Int) * 1)=((X % 4294967296:Nat):Int):=by rw [Int.mul_one]; exact IntWalk.u64_in _ ⟨by omega,by omega⟩
  have hw2:IntKind.u64.wrap (((X / 4294967296:Nat):Int) * 4294967296)=((X / 4294967296:Nat):Int) * 4294967296:=IntWalk.u64_in _ ⟨by omega,by omega⟩
  have ho:absInt .or .u64 0 ((X % 4294967296:Nat):Int)=some (.int .u64 ((X % 4294967296:Nat):Int)):=by
   have:=orP 0 (X % 4294967296) 63 (by omega) (by omega)
   simpa using this
  have ho2:absInt .or .u64 ((X % 4294967296:Nat):Int) (((X / 4294967296:Nat):Int) * 4294967296)=some (.int .u64 X):=by
   have h:=or32 (a:=((X / 4294967296:Nat):Int)) (c:=((X % 4294967296:Nat):Int)) ⟨by omega,by omega⟩ ⟨by omega,by omega⟩
   have e:absInt .or .u64 ((X % 4294967296:Nat):Int) (((X / 4294967296:Nat):Int) * 4294967296)=absInt .or .u64 (((X / 4294967296:Nat):Int) * 4294967296) ((X % 4294967296:Nat):Int):=by
    simp only [absInt,BitVec.or_comm]
   rw [e,h]
   congr 2; omega
  refine acalls_of code_nat_word (by simp [fn_nat_word]) fun C hC => ?_
  refine wk5 ?_
  refine aw_unroll 3 ?_
  refine awr_one ?_
  refine wk5 ?_
  exact fin
 ·omega
theorem small_w (a b:Nat) (ha:a<18446744073709551616) (hb:b<18446744073709551616):ACalls Tryz.prog 251 [u64A a,u64A b] (.sl 1 (intsA .u32 (limbs (Nat.gcd a b)))):=by
 refine acalls_of code_nat_small (by simp [fn_nat_small]) fun C hC => ?_
 refine wk5 ?_
 refine aw_loopB [4] [] (fun x:Nat × Nat=>[(0,u64A x.1),(1,u64A x.2)]) (fun _=>[]) 0 (fun x=>x.1<18446744073709551616∧x.2<18446744073709551616∧Nat.gcd x.1 x.2=Nat.gcd a b) (fun x=>x.2) (a,b) ⟨ha,hb,rfl⟩ ?_
 rintro ⟨x,y⟩ ⟨hx,hy,hg⟩
 dsimp only [List.cons_append,List.nil_append] at hx hy hg ⊢
 by_cases h:y=0
 ·subst h
  rw [Nat.gcd_zero_right] at hg
  rw [← hg]
  have hcv:IntKind.u32.wrap (x:Int)=(x:Int) % 4294967296:=rfl
  have ol:limOK [(x:Int) % 4294967296,(x:Int) / 4294967296]:=fun z hz=>by
   simp only [List.mem_cons,List.not_mem_nil,or_false] at hz
   rcases hz with rfl|rfl<;>omega
  have cn:=norm_a [(x:Int) % 4294967296,(x:Int) / 4294967296] (by show 2≤1000000000; omega)
  rw [trim_val (V:=x) ol (by simp only [vI]; omega)] at cn
  refine wk5 ?_
  exact fin
 ·have hm:=Nat.mod_lt x (Nat.pos_of_ne_zero h)
  refine wk5 ?_
  exact ⟨(y,x % y),by dsimp only; exact hm,⟨hy,by dsimp only; omega,by dsimp only; rw [← hg]; exact (Nat.gcd_comm _ _).trans ((Nat.gcd_rec y x).symm.trans (Nat.gcd_comm _ _))⟩,wkR hC.m []⟩
theorem shorten_m (xs:List Int) (b:Int) (hx:limOK xs) (lx:xs.length≤100000) (hb:lim1 b) (hb0:0<b) :
 AMut Tryz.prog 253 [.own 0,u32A b] [(0,some (rowU xs))] 1 (u32A (vI xs % b)) [(0,some (rowU (digs xs.length (vI xs / b))))] 1:=by
 have lX:=intsA_len .u32 xs
 obtain ⟨b0,b1⟩:=hb
 refine amut_of code_nat_shorten (by simp [fn_nat_shorten]) fun C hC => ?_
 refine wk5 ?_
 refine aw_es 0 (intsA .u32 (xs.take xs.length++[])) rfl (by dsimp only; rw [List.take_length,List.append_nil]) ?_
 refine aw_loopB [0,1,4] [] (fun x:Nat × Int × List Int=>[(5,u64A x.2.1),(6,nA ((x.1:Int) - 1))]) (fun x=>[(0,some (rowU (xs.take x.1++x.2.2)))]) 1
  (fun x=>x.1≤xs.length∧x.2.2.length+x.1=xs.length∧limOK x.2.2∧(0≤x.2.1∧x.2.1<b)∧vI (xs.drop x.1)=vI x.2.2 * b+x.2.1) (fun x=>x.1) (xs.length,0,[]) ⟨Nat.le_refl _,by simp,limOK.nil,⟨by simp,hb0⟩,by simp [vI]⟩ ?_
 rintro ⟨k,r,q⟩ ⟨hk,hq,oq,⟨r0,r1⟩,hE⟩
 dsimp only [List.cons_append,List.nil_append] at hk hq oq r0 r1 hE ⊢
 cases k with
 | zero =>
   rw [List.drop_zero] at hE
   have hql:q.length=xs.length:=by omega
   have nq:=vI_nonneg oq
   have e1:vI xs % b=r:=by
    rw [hE,Int.add_comm,Int.add_mul_emod_self_right]; exact Int.emod_eq_of_lt r0 r1
   have e2:vI xs / b=vI q:=by
    rw [hE,Int.add_comm,Int.add_mul_ediv_right _ _ (by omega),Int.ediv_eq_zero_of_lt r0 r1,Int.zero_add]
   have e3:=digs_of oq hql rfl
   rw [e1,e2,← e3]
   have hcv:IntKind.u32.wrap r=r:=u32_in _ r0 (by omega)
   refine wk5 ?_
   exact fin_m []
 | succ k =>
   obtain ⟨a,ha⟩:∃ a,xs[k]? = some a:=⟨_,List.getElem?_eq_getElem (by omega)⟩
   have ek:(((k+1:Nat):Int) - 1).toNat=k:=by omega
   have hml:=mix2_len (xs:=xs) hq
   have lM:=intsA_len .u32 (xs.take (k+1)++q)
   have hak:(intsA .u32 (xs.take (k+1)++q))[(((k+1:Nat):Int) - 1).toNat]? = some [u32A a]:=by rw [ek]; exact int_at ((mix2_at (by omega)).trans ha)
   obtain ⟨a0,a1⟩:=lim1_of hx ha
   have ho:=or32 (a:=r) (c:=a) ⟨r0,by omega⟩ ⟨a0,a1⟩
   have hd:=List.drop_eq_getElem_cons (l:=xs) (i:=k) (by omega)
   rw [(List.getElem?_eq_some_iff.1 ha).2] at hd
   have hlt:(r * 4294967296+a) / b<4294967296:=by
    refine Int.ediv_lt_of_lt_mul hb0 ?_
    have:=Int.mul_le_mul_of_nonneg_right (show r+1≤b by omega) (show (0:Int)≤4294967296 by omega)
    rw [Int.add_mul] at this
    rw [Int.mul_comm 4294967296 b]
    omega
   have hge:0≤(r * 4294967296+a) / b:=Int.ediv_nonneg (by omega) (by omega)
   have hm0:0≤(r * 4294967296+a) % b:=Int.emod_nonneg _ (by omega)
   have hm1:(r * 4294967296+a) % b<b:=Int.emod_lt_of_pos _ hb0
   have hset:=mix2_set (r:=q) (xs:=xs) (k:=k) (by omega) ((r * 4294967296+a) / b)
   have hms:intsA .u32 (xs.take k++((r * 4294967296+a) / b::q))=(intsA .u32 (xs.take (k+1)++q)).set (((k+1:Nat):Int) - 1).toNat [u32A ((r * 4294967296+a) / b)]:=by rw [ek,intsA_set,hset]
   have hcv:IntKind.u32.wrap ((r * 4294967296+a) / b)=(r * 4294967296+a) / b:=u32_in _ hge (by omega)
   refine wk5 ?_
   refine ⟨(k,(r * 4294967296+a) % b,(r * 4294967296+a) / b::q),by dsimp only; omega,⟨by dsimp only; omega,by simp; omega,fun z hz => ?_,⟨hm0,hm1⟩,?_⟩,wkR hC.m [] (by dsimp only [rowU]; rw [hms,show ((k:Nat):Int) - 1=((k+1:Nat):Int) - 1 - 1 from by omega]; rfl)⟩
   ·rcases List.mem_cons.1 hz with rfl|hz
    ·exact ⟨hge,hlt⟩
    ·exact oq z hz
   ·dsimp only
    rw [hd,vI,hE,vI]
    have:=Int.emod_add_mul_ediv (r * 4294967296+a) b
    grind
end Go.Proofs.YtnnipocjapblkaaGreat
