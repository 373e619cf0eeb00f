/- Numbers made of whole numbers; cells and arrays made of these. -/
import Derived.Test.YtnnipocjapblkaaGreatK04
import Derived.Test.YtnnipocjapblkaaGreatK03
namespace Go.Proofs.YtnnipocjapblkaaGreat
set_option linter.unusedVariables false
open Go.RowKit
def intV (n:Bool) (m:List Int):List AV:=[.lit (.bool n),.sl 1 (intsA .u32 m)]
def sgn (n:Bool) (m:List Int):Bool:=if m.length=0 then false else n
theorem signed_a (n:Bool) (m:List Int):ACalls Tryz.prog 222 [.lit (.bool n),.sl 1 (intsA .u32 m)] (.agg (intV (sgn n m) m)):=by
 have lm:=intsA_len .u32 m
 refine acalls_of code_whole_signed (by simp [fn_whole_signed]) fun C hC => ?_
 by_cases h:m.length=0
 ·have e:m=[]:=List.eq_nil_of_length_eq_zero h
  subst e
  refine walk ?_
  exact ⟨_,_,rfl,rfl,Sub.agg (SubL.cons (Sub.refl _) (SubL.cons (Sub.nil _) SubL.nil))⟩
 ·rw [sgn,if_neg h]
  refine walk ?_
  exact ⟨_,_,rfl,rfl,Sub.refl _⟩
theorem wnorm_a (n:Bool) (m:List Int) (hb:m.length≤maxB):ACalls Tryz.prog 211 [.agg (intV n m)] (.agg (intV (sgn n (trimI m)) (trimI m))):=by
 refine acalls_of code_whole_Norm (by simp [fn_whole_Norm]) fun C hC => ?_
 refine walk ?_
 refine aw_reg (rrun ?_)
 refine r_call (norm_a m hb) (rrun ?_)
 refine r_call (signed_a n (trimI m)) (rrun ?_)
 refine rg_nil ⟨rfl,?_⟩
 refine walk ?_
 exact ⟨_,_,rfl,rfl,Sub.refl _⟩
def digI (z:Int):List Int:=[(z.natAbs % 4294967296:Nat),(z.natAbs / 4294967296:Nat)]
theorem u32_wrap (n:Nat):IntKind.u32.wrap (n:Int)=(n % 4294967296:Nat):=by
 simp only [IntKind.wrap,IntKind.bits,IntKind.signed]
 simp
theorem wof_a (z:Int) (h0:0≤z) (h1:z≤9223372036854775807):ACalls Tryz.prog 186 [.lit (.int .i64 z)] (.agg (intV (sgn false (trimI (digI z))) (trimI (digI z)))):=by
 have hd:(digI z).length≤maxB:=by simp [digI,maxB]
 have hq:z.natAbs / 4294967296<4294967296:=by omega
 have e0:IntKind.u64.wrap z=(z.natAbs:Int):=by
  rw [IntWalk.u64_in _ (by omega)]; omega
 have e1:IntKind.u32.wrap (IntKind.u64.wrap z)=(z.natAbs % 4294967296:Nat):=by rw [e0,u32_wrap]
 have e2:(IntKind.u64.wrap z).fdiv (2 ^ (min (32:Int).toNat IntKind.u64.bits))=(z.natAbs / 4294967296:Nat):=by
  rw [e0,show (2:Int) ^ (min (32:Int).toNat IntKind.u64.bits)=((4294967296:Nat):Int) from rfl,Int.fdiv_eq_ediv_of_nonneg _ (by omega)]; rfl
 have e3:IntKind.u32.wrap ((z.natAbs / 4294967296:Nat):Int)=(z.natAbs / 4294967296:Nat):=by rw [u32_wrap,Nat.mod_eq_of_lt hq]
 refine acalls_of code_whole_Of (by simp [fn_whole_Of]) fun C hC => ?_
 refine walk ?_
 refine aw_reg (rrun ?_)
 refine r_shr (z.natAbs / 4294967296:Nat) ?_ (hv:=e2)
 refine rrun ?_
 refine r_rowlit ?_
 refine r_callF 1 [1] (avs':=[.sl 1 (intsA .u32 (digI z))]) (norm_a (digI z) hd) ?_ (hs:=SubL.cons ?_ SubL.nil)
 ·refine rrun ?_
  refine r_call (signed_a false (trimI (digI z))) (rrun ?_)
  refine rg_nil ⟨rfl,?_⟩
  refine walk ?_
  exact ⟨_,_,rfl,rfl,Sub.refl _⟩
 ·rw [e1,e3]; exact Sub.refl _
def oneN (n:Bool) (m:List Int):Num:=⟨sgn n (trimI m),trimI m,[1]⟩
theorem whole_a (n:Bool) (m:List Int) (hb:m.length≤maxB) (h32:(trimI m).length≤32):ACalls Tryz.prog 185 [.agg (intV n m)] (.agg (numV (oneN n m))):=by
 have lm:=intsA_len .u32 (trimI m)
 refine acalls_of code_ratio_Whole (by simp [fn_ratio_Whole]) fun C hC => ?_
 refine walk ?_
 refine aw_reg (rrun ?_)
 refine r_call (wnorm_a n m hb) (rrun ?_)
 refine rg_nil ⟨rfl,?_⟩
 refine walk ?_
 refine aw_reg (rrun ?_)
 refine r_rowlit ?_
 refine rrun ?_
 refine rg_nil ⟨rfl,?_⟩
 refine walk ?_
 exact ⟨_,_,rfl,rfl,Sub.refl _⟩
theorem digI_len (z:Int):(digI z).length=2:=rfl
theorem own_a (c:Cell) (h1:c.n.top.length≤maxB) (h2:c.n.bot.length≤maxB) (h3:c.ins.length≤maxB):ACalls Tryz.prog 158 [.agg (cellV c)] (.agg (cellV c)):=by
 have hB:maxB=1000000000:=rfl
 have ltop:=intsA_len .u32 c.n.top
 have lbot:=intsA_len .u32 c.n.bot
 have lin:=ins_len c
 refine acalls_of code_array_own (by simp [fn_array_own]) fun C hC => ?_
 refine walk ?_
 refine aw_reg (rrun ?_)
 refine r_call (cloneU32_a (intsA .u32 c.n.top) (by omega)) (rrun ?_)
 refine r_call (cloneU32_a (intsA .u32 c.n.bot) (by omega)) (rrun ?_)
 refine r_call (cloneArr_a (c.ins.map arrR) (by omega)) (rrun ?_)
 refine rg_nil ⟨rfl,?_⟩
 refine walk ?_
 exact ⟨_,_,rfl,rfl,Sub.refl _⟩
theorem scalar_a (c:Cell) (h1:c.n.top.length≤maxB) (h2:c.n.bot.length≤maxB) (h3:c.ins.length≤maxB):ACalls Tryz.prog 137 [.agg (cellV c)] (.agg (arrV (.mk 0 [] [c]))):=by
 have e:[c].map cellR=[cellV c]:=by simp [cellR_eq]
 refine acalls_of code_array_Scalar (by simp [fn_array_Scalar]) fun C hC => ?_
 refine walk ?_
 refine aw_reg (rrun ?_)
 refine r_call (own_a c h1 h2 h3) (rrun ?_)
 refine r_rowlit ?_
 refine rrun ?_
 refine rg_nil ⟨rfl,?_⟩
 refine walk ?_
 refine ⟨_,_,rfl,rfl,?_⟩
 simp only [arrV,Arr.s,Arr.shape,Arr.cells]
 rw [e]
 exact Sub.agg (SubL.cons (Sub.refl _) (SubL.cons (Sub.nil _) (SubL.cons (Sub.refl _) SubL.nil)))
def limOK (xs:List Int):Prop:=∀ z ∈ xs,0≤z∧z<4294967296
def hd (xs:List Int):Int:=xs.headD 0
def limb (xs:List Int) (i:Nat):Int:=hd (xs.drop i)
def valL:List Int→Nat
 | []=>0
 | z::zs=>z.toNat+4294967296 * valL zs
theorem limOK.tail {xs:List Int} (h:limOK xs):limOK xs.tail:=fun z hz=>h z (List.mem_of_mem_tail hz)
theorem limOK.drop {xs:List Int} (h:limOK xs) (k:Nat):limOK (xs.drop k):=fun z hz=>h z (List.mem_of_mem_drop hz)
theorem hd_range {xs:List Int} (h:limOK xs):0≤hd xs∧hd xs<4294967296:=by
 cases xs with
 | nil=>simp [hd]
 | cons z zs=>exact h z (by simp)
theorem limb_range {xs:List Int} (h:limOK xs) (i:Nat):0≤limb xs i∧limb xs i<4294967296:=hd_range (h.drop i)
theorem limb_at {xs:List Int} {i:Nat} {z:Int} (h:xs[i]? = some z):limb xs i=z:=by
 obtain ⟨hi,rfl⟩:=List.getElem?_eq_some_iff.1 h
 unfold limb hd
 rw [List.drop_eq_getElem_cons hi]; rfl
theorem limb_out {xs:List Int} {i:Nat} (h:xs.length≤i):limb xs i=0:=by simp [limb,hd,List.drop_eq_nil_of_le h]
theorem valL_hd (xs:List Int):valL xs=(hd xs).toNat+4294967296 * valL xs.tail:=by
 cases xs with
 | nil=>simp only [valL,hd,List.headD_nil,List.tail_nil,Int.toNat_zero,Nat.mul_zero,Nat.add_zero]
 | cons z zs=>simp only [valL,hd,List.headD_cons,List.tail_cons]
theorem tail_drop (xs:List Int) (k:Nat):(xs.drop k).tail=xs.drop (k+1):=by rw [List.tail_drop]
theorem hd_drop (xs:List Int) (k:Nat):hd (xs.drop k)=limb xs k:=rfl
def limbs (n:Nat):List Int:=if h:n=0 then [] else ((n % 4294967296:Nat):Int)::limbs (n / 4294967296)
termination_by n
decreasing_by omega
theorem limbs_zero:limbs 0=[]:=by rw [limbs]; simp
theorem limbs_pos {n:Nat} (h:n≠0):limbs n=((n % 4294967296:Nat):Int)::limbs (n / 4294967296):=by rw [limbs,dif_neg h]
theorem limbs_nil {n:Nat}:limbs n=[]↔n=0:=by
 constructor
 ·intro h
  cases n with
  | zero=>rfl
  | succ n=>rw [limbs_pos (by omega)] at h; cases h
 ·rintro rfl; exact limbs_zero
theorem limbs_ok (n:Nat):limOK (limbs n):=by
 induction n using Nat.strongRecOn with
 | _ n ih =>
   by_cases h:n=0
   ·subst h; rw [limbs_zero]; intro z hz; cases hz
   ·rw [limbs_pos h]
    intro z hz
    rcases List.mem_cons.1 hz with rfl|hz
    ·omega
    ·exact ih _ (by omega) z hz
theorem valL_limbs (n:Nat):valL (limbs n)=n:=by
 induction n using Nat.strongRecOn with
 | _ n ih =>
   by_cases h:n=0
   ·subst h; rw [limbs_zero]; rfl
   ·rw [limbs_pos h,valL,ih _ (by omega)]
    omega
theorem limbs_len_mono:∀ {m n:Nat},m≤n→(limbs m).length≤(limbs n).length:=by
 intro m
 induction m using Nat.strongRecOn with
 | _ m ih =>
   intro n h
   by_cases hm:m=0
   ·subst hm; rw [limbs_zero]; simp
   ·rw [limbs_pos hm,limbs_pos (by omega:n≠0)]
    simp only [List.length_cons]
    have:=ih (m / 4294967296) (by omega) (n:=n / 4294967296) (Nat.div_le_div_right h)
    omega
theorem limbs_len_pow:∀ (k n:Nat),n<2 ^ k→(limbs n).length≤k
 | 0,n,h=>by
   have:n=0:=by simpa using h
   subst this; rw [limbs_zero]; simp
 | k+1,n,h=>by
   by_cases hn:n=0
   ·subst hn; rw [limbs_zero]; simp
   ·rw [limbs_pos hn]
    simp only [List.length_cons]
    have:=limbs_len_pow k (n / 4294967296) (by rw [Nat.pow_succ] at h; omega)
    omega
def trimS:List Int→List Int
 | []=>[]
 | z::zs=>if trimS zs=[]∧z=0 then [] else z::trimS zs
theorem trimS_snoc (x:Int):∀ l:List Int,trimS (l++[x])=if x=0 then trimS l else l++[x]
 | []=>by by_cases h:x=0<;>simp [trimS,h]
 | z::l=>by
   have ih:=trimS_snoc x l
   simp only [List.cons_append,trimS,ih]
   by_cases h:x=0
   ·simp [h]
   ·simp [h]
theorem trim_take (xs:List Int):∀ k,k≤xs.length→xs.take (trimLen xs k)=trimS (xs.take k)
 | 0,_=>by simp [trimLen,trimS]
 | k+1,h=>by
   have ih:=trim_take xs k (by omega)
   have hk:xs[k]? = some xs[k]:=by simp
   rw [List.take_succ_eq_append_getElem (by omega),trimS_snoc]
   simp only [trimLen]
   by_cases h0:xs[k]=0
   ·rw [if_pos (by rw [hk,h0]),if_pos h0]; exact ih
   ·rw [if_neg (by rw [hk]; simpa using h0),if_neg h0,List.take_succ_eq_append_getElem (by omega)]
theorem trimI_S (xs:List Int):trimI xs=trimS xs:=by
 rw [trimI,trim_take xs _ (Nat.le_refl _),List.take_length]
theorem trimS_limbs:∀ {xs:List Int},limOK xs→trimS xs=limbs (valL xs)
 | [],_=>by simp [trimS,valL,limbs_zero]
 | z::zs,h=>by
   have ih:=trimS_limbs h.tail
   simp only [List.tail_cons] at ih
   have hz:=h z (by simp)
   simp only [trimS,ih,limbs_nil,valL]
   by_cases h0:valL zs=0∧z=0
   ·rw [if_pos h0,h0.1,h0.2]; simp [limbs_zero]
   ·rw [if_neg h0,limbs_pos (n:=z.toNat+4294967296 * valL zs) (by omega)]
    have e1:(z.toNat+4294967296 * valL zs) % 4294967296=z.toNat:=by omega
    have e2:(z.toNat+4294967296 * valL zs) / 4294967296=valL zs:=by omega
    rw [e1,e2]
    congr 1
    omega
theorem trimI_limbs {xs:List Int} (h:limOK xs):trimI xs=limbs (valL xs):=(trimI_S xs).trans (trimS_limbs h)
theorem trimI_self (n:Nat):trimI (limbs n)=limbs n:=by rw [trimI_limbs (limbs_ok n),valL_limbs]
def addF:Nat→List Int→List Int→Int→List Int
 | 0,_,_,_=>[]
 | n+1,xs,ys,c=>((hd xs+hd ys+c) % 4294967296)::addF n xs.tail ys.tail ((hd xs+hd ys+c) / 4294967296)
def subF:Nat→List Int→List Int→Int→List Int
 | 0,_,_,_=>[]
 | n+1,xs,ys,b=>((4294967296+hd xs - hd ys - b) % 4294967296)::subF n xs.tail ys.tail (1 - (4294967296+hd xs - hd ys - b) / 4294967296)
def twiceF:Nat→List Int→Int→List Int
 | 0,_,_=>[]
 | n+1,xs,c=>((2 * hd xs+c) % 4294967296)::twiceF n xs.tail ((2 * hd xs+c) / 4294967296)
theorem nil_of_len {xs:List Int} (h:xs.length≤0):xs=[]:=List.eq_nil_of_length_eq_zero (by omega)
theorem addF_val:∀ (n:Nat) (xs ys:List Int) (c:Int),limOK xs→limOK ys→xs.length≤n→ys.length≤n→0≤c→c≤1→(valL (addF (n+1) xs ys c):Int)=valL xs+valL ys+c∧limOK (addF (n+1) xs ys c)
 | 0,xs,ys,c,hx,hy,lx,ly,h0,h1=>by
   rw [nil_of_len lx,nil_of_len ly]
   simp only [addF,hd,List.headD_nil,valL]
   refine ⟨by omega,fun z hz => ?_⟩
   simp only [List.mem_singleton] at hz; omega
 | n+1,xs,ys,c,hx,hy,lx,ly,h0,h1=>by
   have h2:=hd_range hx
   have h3:=hd_range hy
   have e1:=valL_hd xs
   have e2:=valL_hd ys
   obtain ⟨ih1,ih2⟩:=addF_val n xs.tail ys.tail ((hd xs+hd ys+c) / 4294967296) hx.tail hy.tail (by simp; omega) (by simp; omega) (by omega) (by omega)
   rw [addF,valL]
   refine ⟨by omega,fun z hz => ?_⟩
   rcases List.mem_cons.1 hz with rfl|hz
   ·omega
   ·exact ih2 z hz
theorem twiceF_val:∀ (n:Nat) (xs:List Int) (c:Int),limOK xs→xs.length≤n→0≤c→c≤1→(valL (twiceF (n+1) xs c):Int)=2 * valL xs+c∧limOK (twiceF (n+1) xs c)
 | 0,xs,c,hx,lx,h0,h1=>by
   rw [nil_of_len lx]
   simp only [twiceF,hd,List.headD_nil,valL]
   refine ⟨by omega,fun z hz => ?_⟩
   simp only [List.mem_singleton] at hz; omega
 | n+1,xs,c,hx,lx,h0,h1=>by
   have h2:=hd_range hx
   have e1:=valL_hd xs
   obtain ⟨ih1,ih2⟩:=twiceF_val n xs.tail ((2 * hd xs+c) / 4294967296) hx.tail (by simp; omega) (by omega) (by omega)
   rw [twiceF,valL]
   refine ⟨by omega,fun z hz => ?_⟩
   rcases List.mem_cons.1 hz with rfl|hz
   ·omega
   ·exact ih2 z hz
theorem subF_val:∀ (n:Nat) (xs ys:List Int) (b:Int),limOK xs→limOK ys→xs.length≤n→ys.length≤n→0≤b→b≤1→(valL ys:Int)+b≤valL xs→(valL (subF n xs ys b):Int)=valL xs - valL ys - b∧limOK (subF n xs ys b)
 | 0,xs,ys,b,hx,hy,lx,ly,h0,h1,h=>by
   rw [nil_of_len lx,nil_of_len ly] at h ⊢
   simp only [subF,valL] at h ⊢
   refine ⟨by omega,fun z hz=>by cases hz⟩
 | n+1,xs,ys,b,hx,hy,lx,ly,h0,h1,h=>by
   have h2:=hd_range hx
   have h3:=hd_range hy
   have e1:=valL_hd xs
   have e2:=valL_hd ys
   obtain ⟨ih1,ih2⟩:=subF_val n xs.tail ys.tail (1 - (4294967296+hd xs - hd ys - b) / 4294967296) hx.tail hy.tail (by simp; omega) (by simp; omega) (by omega) (by omega) (by omega)
   rw [subF,valL]
   refine ⟨by omega,fun z hz => ?_⟩
   rcases List.mem_cons.1 hz with rfl|hz
   ·omega
   ·exact ih2 z hz
theorem addF_len:∀ (n:Nat) (xs ys:List Int) (c:Int),(addF n xs ys c).length=n
 | 0,_,_,_=>rfl
 | n+1,_,_,_=>by simp [addF,addF_len n]
theorem subF_len:∀ (n:Nat) (xs ys:List Int) (c:Int),(subF n xs ys c).length=n
 | 0,_,_,_=>rfl
 | n+1,_,_,_=>by simp [subF,subF_len n]
theorem twiceF_len:∀ (n:Nat) (xs:List Int) (c:Int),(twiceF n xs c).length=n
 | 0,_,_=>rfl
 | n+1,_,_=>by simp [twiceF,twiceF_len n]
theorem twiceF_step (xs:List Int) (L k:Nat) (h:k<L) (c:Int):twiceF (L - k) (xs.drop k) c=((2 * limb xs k+c) % 4294967296)::twiceF (L - (k+1)) (xs.drop (k+1)) ((2 * limb xs k+c) / 4294967296):=by
 rw [show L - k=(L - (k+1))+1 from by omega,twiceF,hd_drop,tail_drop]
theorem addF_step (xs ys:List Int) (L k:Nat) (h:k<L) (c:Int):addF (L - k) (xs.drop k) (ys.drop k) c=((limb xs k+limb ys k+c) % 4294967296)::addF (L - (k+1)) (xs.drop (k+1)) (ys.drop (k+1)) ((limb xs k+limb ys k+c) / 4294967296):=by
 rw [show L - k=(L - (k+1))+1 from by omega,addF,hd_drop,hd_drop,tail_drop,tail_drop]
theorem subF_step (xs ys:List Int) (L k:Nat) (h:k<L) (c:Int):subF (L - k) (xs.drop k) (ys.drop k) c=((4294967296+limb xs k - limb ys k - c) % 4294967296)::subF (L - (k+1)) (xs.drop (k+1)) (ys.drop (k+1)) (1 - (4294967296+limb xs k - limb ys k - c) / 4294967296):=by
 rw [show L - k=(L - (k+1))+1 from by omega,subF,hd_drop,hd_drop,tail_drop,tail_drop]
def cmpI (a b:Nat):Int:=if a<b then -1 else if b<a then 1 else 0
theorem valL_take_drop (B:Nat) (hB:B=4294967296) (xs:List Int) (h:limOK xs):∀ k:Nat,∃ t,t<B ^ k∧valL xs=t+B ^ k * valL (xs.drop k)
 | 0=>⟨0,by simp,by simp⟩
 | k+1=>by
   obtain ⟨t,h1,h2⟩:=valL_take_drop B hB xs h k
   have h3:=hd_range (h.drop k)
   have e:=valL_hd (xs.drop k)
   rw [tail_drop,← hB] at e
   refine ⟨t+B ^ k * (hd (xs.drop k)).toNat,?_,?_⟩
   ·rw [Nat.pow_succ]
    have h4:(hd (xs.drop k)).toNat+1≤B:=by omega
    have h5:=Nat.mul_le_mul_left (B ^ k) h4
    rw [Nat.mul_add,Nat.mul_one] at h5
    omega
   ·rw [h2,e,Nat.mul_add,Nat.pow_succ,← Nat.mul_assoc,Nat.add_assoc]
theorem valL_lt_of_drop {xs ys:List Int} (hx:limOK xs) (hy:limOK ys) (k:Nat) (h:valL (xs.drop k)<valL (ys.drop k)):valL xs<valL ys:=by
 obtain ⟨t,h1,h2⟩:=valL_take_drop 4294967296 rfl xs hx k
 obtain ⟨u,h3,h4⟩:=valL_take_drop 4294967296 rfl ys hy k
 have h5:=Nat.mul_le_mul_left (4294967296 ^ k) (show valL (xs.drop k)+1≤valL (ys.drop k) from h)
 rw [Nat.mul_add,Nat.mul_one] at h5
 omega
theorem valL_drop (xs:List Int) (k:Nat):valL (xs.drop k)=(limb xs k).toNat+4294967296 * valL (xs.drop (k+1)):=by
 rw [valL_hd,tail_drop]; rfl
def bitF (a:List Int) (i:Nat):Int:=limb a (i / 32) / 2 ^ (i % 32) % 2
theorem bitF_range (a:List Int) (i:Nat):0≤bitF a i∧bitF a i≤1:=by unfold bitF; omega
def dmF (a:List Int) (b:Nat):Nat→Nat→Nat→Nat × Nat
 | 0,q,r=>(q,r)
 | n+1,q,r=>if b≤2 * r+(bitF a n).toNat then dmF a b n (2 * q+1) (2 * r+(bitF a n).toNat - b) else dmF a b n (2 * q) (2 * r+(bitF a n).toNat)
def dm (a:List Int) (b:Nat):Nat × Nat:=if b=0 then (0,0) else dmF a b (32 * a.length) 0 0
theorem dmF_lt (a:List Int) (b:Nat):∀ (n q r:Nat),r<b→(dmF a b n q r).2<b∧(dmF a b n q r).1<(q+1) * 2 ^ n
 | 0,q,r,h=>⟨h,by simp [dmF]⟩
 | n+1,q,r,h=>by
   have hb:=bitF_range a n
   simp only [dmF]
   split
   ·obtain ⟨h1,h2⟩:=dmF_lt a b n (2 * q+1) (2 * r+(bitF a n).toNat - b) (by omega)
    refine ⟨h1,?_⟩
    have e:(q+1) * 2 ^ (n+1)=(2 * q+1+1) * 2 ^ n:=by rw [Nat.pow_succ,Nat.mul_comm (2 ^ n) 2,← Nat.mul_assoc]; congr 1; omega
    omega
   ·obtain ⟨h1,h2⟩:=dmF_lt a b n (2 * q) (2 * r+(bitF a n).toNat) (by omega)
    refine ⟨h1,?_⟩
    have e:(q+1) * 2 ^ (n+1)=(2 * q+1+1) * 2 ^ n:=by rw [Nat.pow_succ,Nat.mul_comm (2 ^ n) 2,← Nat.mul_assoc]; congr 1; omega
    have e2:(2 * q+1) * 2 ^ n≤(2 * q+1+1) * 2 ^ n:=Nat.mul_le_mul_right _ (by omega)
    omega
theorem dm_lt (a:List Int) {b:Nat} (h:b≠0):(dm a b).2<b∧(dm a b).1<2 ^ (32 * a.length):=by
 rw [dm,if_neg h]
 have:=dmF_lt a b (32 * a.length) 0 0 (by omega)
 simpa using this
def gcdF:Nat→Nat→Nat→Nat
 | 0,x,_=>x
 | k+1,x,y=>if y=0 then x else gcdF k y (dm (limbs x) y).2
theorem numOK.lim {n:Num} (h:numOK n):limOK n.top∧limOK n.bot:=by
 have h1:IntKind.u32.min=0:=by decide
 have h2:IntKind.u32.max=4294967295:=by decide
 have key:∀ z:Int,(Lit.int .u32 z).wf=true→0≤z∧z<4294967296:=fun z hz=>by
  have h':IntKind.u32.min≤z∧z≤IntKind.u32.max:=by simpa [Lit.wf] using hz
  omega
 exact ⟨fun z hz=>key z (h.1 z hz),fun z hz=>key z (h.2.1 z hz)⟩
def makeF (nx:Bool) (X:Nat) (ny:Bool) (Y:Nat):Num × Int :=
 if Y=0 then (⟨false,[],[]⟩,3)
 else
  let g:=gcdF 100000 X Y
  let t:=(dm (limbs X) g).1
  let b:=(dm (limbs Y) g).1
  if (limbs t).length > 32∨(limbs b).length > 32 then (⟨false,[],[]⟩,7) else (⟨decide (t≠0) && (nx != ny),limbs t,limbs b⟩,0)
def sgnV (n:Bool) (X:Nat):Bool:=if X=0 then false else n
theorem sgn_limbs (n:Bool) (X:Nat):sgn n (limbs X)=sgnV n X:=by
 unfold sgn sgnV
 by_cases h:X=0
 ·subst h; rw [limbs_zero]; rfl
 ·rw [if_neg h,if_neg]
  intro e
  exact h (limbs_nil.1 (List.eq_nil_of_length_eq_zero e))
def rightN (n:Num):Bool :=
 if n.top.length > 32∨n.bot.length > 32 then false
 else ((makeF (sgnV n.neg (valL n.top)) (valL n.top) false (valL n.bot)).2 == 0) && numP n (makeF (sgnV n.neg (valL n.top)) (valL n.top) false (valL n.bot)).1
theorem rNorm_a (xs:List Int) (hb:xs.length≤maxB):ACalls Tryz.prog 207 [.sl 1 (intsA .u32 xs)] (.sl 1 (intsA .u32 (trimI xs))):=by
 have hB:maxB=1000000000:=rfl
 have lx:=intsA_len .u32 xs
 refine acalls_of code_scrimref02_Norm (by simp [fn_scrimref02_Norm]) fun C hC => ?_
 refine walk2 ?_
 refine aw_loopB [0,2] [] (fun k:Nat=>[(3,.lit (.int .i64 k))]) (fun _=>[]) 0 (fun k=>k≤xs.length∧trimLen xs xs.length=trimLen xs k) (fun k=>k) xs.length ⟨Nat.le_refl _,rfl⟩ ?_ (ht:=by rw [← lx]; rfl)
 rintro k ⟨hk,hE⟩
 dsimp only [List.cons_append,List.nil_append]
 have fin':trimLen xs xs.length=k→intsA .u32 (trimI xs)=((intsA .u32 xs).drop 0).take (k - 0):=fun he=>by
  rw [trimI,he,List.drop_zero,Nat.sub_zero,intsA,intsA,List.map_take]
 cases k with
 | zero =>
   refine walk2 ?_
   refine aw_reg (rrun2 ?_)
   refine r_slice 0 0 ?_ ?_ ?_
   ·omega
   ·omega
   refine r_appendN ?_ ?_
   ·simp
   refine rrun2 ?_
   refine rg_nil ⟨rfl,?_⟩
   refine walk2 ?_
   rw [fin' hE]
   exact fin
 | succ k =>
   obtain ⟨x,hx'⟩:∃ x,xs[k]? = some x:=⟨_,List.getElem?_eq_getElem (by omega)⟩
   have hxk:(intsA .u32 xs)[(((k+1:Nat):Int) - 1).toNat]? = some [.lit (.int .u32 x)]:=by
    rw [show (((k+1:Nat):Int) - 1).toNat=k from by omega]; exact int_at hx'
   by_cases h0:x=0
   ·rw [trimLen,if_pos (by rw [hx',h0])] at hE
    refine walk2 ?_
    exact ⟨k,by omega,⟨by omega,hE⟩,wkR hC.m [] (by rw [show ((k:Nat):Int)=((k+1:Nat):Int) - 1 from by omega]; rfl)⟩
   ·rw [trimLen,if_neg (by rw [hx']; simpa using h0)] at hE
    refine walk2 ?_
    refine aw_reg (rrun2 ?_)
    refine r_slice 0 (k+1) ?_ ?_ ?_
    ·omega
    ·omega
    refine r_appendN ?_ ?_
    ·simp only [List.length_take,List.length_drop,intsA,List.length_map]; omega
    refine rrun2 ?_
    refine rg_nil ⟨rfl,?_⟩
    refine walk2 ?_
    rw [fin' hE]
    exact fin
theorem rlimb_a (xs:List Int) (i:Nat) (q:Int) (hq:q=i) (ho:limOK xs):ACalls Tryz.prog 237 [.sl 1 (intsA .u32 xs),.lit (.int .i64 q)] (.lit (.int .u64 (limb xs i))):=by
 have lx:=intsA_len .u32 xs
 subst hq
 refine acalls_of code_scrimref02_limb (by simp [fn_scrimref02_limb]) fun C hC => ?_
 by_cases h:i<xs.length
 ·obtain ⟨z,hz⟩:∃ z,xs[i]? = some z:=⟨_,List.getElem?_eq_getElem h⟩
  have hzk:=int_at (k:=.u32) hz
  have hr:=ho z (List.mem_of_getElem? hz)
  rw [limb_at hz]
  refine walk2 ?_
  exact fin
 ·rw [limb_out (by omega)]
  refine walk2 ?_
  exact fin
theorem rlonger_a (xs ys:List Int) (q:Int) (hq:q=(max xs.length ys.length:Nat)):ACalls Tryz.prog 236 [.sl 1 (intsA .u32 xs),.sl 1 (intsA .u32 ys)] (.lit (.int .i64 q)):=by
 have lx:=intsA_len .u32 xs
 have ly:=intsA_len .u32 ys
 subst hq
 refine acalls_of code_scrimref02_longer (by simp [fn_scrimref02_longer]) fun C hC => ?_
 by_cases h:xs.length > ys.length
 ·rw [show max xs.length ys.length=xs.length from by omega]
  refine walk2 ?_
  exact fin
 ·rw [show max xs.length ys.length=ys.length from by omega]
  refine walk2 ?_
  exact fin
theorem rCmp_a (xs ys:List Int) (hx:limOK xs) (hy:limOK ys) (lx:xs.length≤maxB) (ly:ys.length≤maxB):ACalls Tryz.prog 248 [.sl 1 (intsA .u32 xs),.sl 1 (intsA .u32 ys)] (.lit (.int .i64 (cmpI (valL xs) (valL ys)))):=by
 have hB:maxB=1000000000:=rfl
 have c1:=rlonger_a xs ys _ rfl
 refine acalls_of code_scrimref02_Cmp (by simp [fn_scrimref02_Cmp]) fun C hC => ?_
 refine walk2 ?_
 refine aw_loopB [0,1,4] [] (fun n:Nat=>[(5,.lit (.int .i64 ((n:Int) - 1)))]) (fun _=>[]) 0 (fun n=>n≤max xs.length ys.length∧valL (xs.drop n)=valL (ys.drop n)) (fun n=>n) (max xs.length ys.length)
  ⟨Nat.le_refl _,by rw [List.drop_eq_nil_of_le (by omega),List.drop_eq_nil_of_le (by omega)]⟩ ?_
 rintro n ⟨hn,hE⟩
 dsimp only [List.cons_append,List.nil_append]
 cases n with
 | zero =>
   simp only [List.drop_zero] at hE
   rw [show cmpI (valL xs) (valL ys)=0 from by rw [hE]; simp [cmpI]]
   refine walk2 ?_
   exact fin
 | succ k =>
   have h1:=limb_range hx k
   have h2:=limb_range hy k
   have c2:=rlimb_a xs k (((k+1:Nat):Int) - 1) (by omega) hx
   have c3:=rlimb_a ys k (((k+1:Nat):Int) - 1) (by omega) hy
   have d1:=valL_drop xs k
   have d2:=valL_drop ys k
   by_cases l1:limb xs k<limb ys k
   ·have:=valL_lt_of_drop hx hy k (by omega)
    rw [show cmpI (valL xs) (valL ys) = -1 from by simp [cmpI,this]]
    refine walk2 ?_
    exact fin
   ·by_cases l2:limb xs k > limb ys k
    ·have:=valL_lt_of_drop hy hx k (by omega)
     rw [show cmpI (valL xs) (valL ys)=1 from by rw [cmpI,if_neg (by omega),if_pos this]]
     refine walk2 ?_
     exact fin
    ·refine walk2 ?_
     exact ⟨k,by omega,⟨by omega,by omega⟩,wkR hC.m [] (by rw [show ((k:Nat):Int)=((k+1:Nat):Int) - 1 from by omega]; rfl)⟩
theorem rtwice_a (xs:List Int) (c:Int) (hx:limOK xs) (lx:xs.length≤100000) (h0:0≤c) (h1:c≤1):ACalls Tryz.prog 245 [.sl 1 (intsA .u32 xs),.lit (.int .u32 c)] (.sl 1 (intsA .u32 (limbs (2 * valL xs+c.toNat)))):=by
 have hB:maxB=1000000000:=rfl
 have lxs:=intsA_len .u32 xs
 obtain ⟨v1,v2⟩:=twiceF_val xs.length xs c hx (Nat.le_refl _) h0 h1
 have hl:=twiceF_len (xs.length+1) xs c
 have c1:=rNorm_a (twiceF (xs.length+1) xs c) (by omega)
 rw [trimI_limbs v2,show valL (twiceF (xs.length+1) xs c)=2 * valL xs+c.toNat from by omega] at c1
 clear v1 v2
 refine acalls_of code_scrimref02_twice (by simp [fn_scrimref02_twice]) fun C hC => ?_
 refine walk2 ?_
 refine aw_nil 5 145 1 rfl ?_
 refine aw_loopB [0,1,4] [] (fun p:Nat × List Int × Int=>[(5,.own 0),(6,.lit (.int .u64 p.2.2)),(7,.lit (.int .i64 p.1))]) (fun p=>[(0,some ⟨true,false,145,1,intsA .u32 p.2.1⟩)]) 1
  (fun p=>p.1≤xs.length+1∧p.2.1.length=p.1∧0≤p.2.2∧p.2.2≤1∧twiceF (xs.length+1) xs c=p.2.1++twiceF (xs.length+1 - p.1) (xs.drop p.1) p.2.2) (fun p=>xs.length+1 - p.1) (0,[],c)
  ⟨Nat.zero_le _,rfl,h0,h1,by simp⟩ ?_
 rintro ⟨k,out,b⟩ ⟨hk,ho,hb0,hb1,hE⟩
 simp only at hk ho hb0 hb1 hE
 dsimp only [List.cons_append,List.nil_append]
 have lo:=intsA_len .u32 out
 by_cases hlt:k<xs.length+1
 ·have hr:=limb_range hx k
  have c2:=rlimb_a xs k _ rfl hx
  rw [twiceF_step xs (xs.length+1) k hlt b] at hE
  refine walk2 ?_
  refine ⟨(k+1,out++[(2 * limb xs k+b) % 4294967296],(2 * limb xs k+b) / 4294967296),by simp only; omega,⟨by simp only; omega,by simp only [List.length_append,List.length_singleton]; omega,by simp only; omega,by simp only; omega,by simp only; rw [hE]; simp⟩,wkR hC.m [(0,2)] ?_⟩
  simp only [intsA,List.map_append,List.map_cons,List.map_nil]
  rfl
 ·have hk':k=xs.length+1:=by omega
  rw [hk',Nat.sub_self,twiceF,List.append_nil] at hE
  rw [← hE]
  refine aw_freeze 0 rfl ?_
  refine walk2 ?_
  exact fin
theorem rSub_a (xs ys:List Int) (hx:limOK xs) (hy:limOK ys) (lx:xs.length≤100000) (ly:ys.length≤100000) (h:valL ys≤valL xs):ACalls Tryz.prog 247 [.sl 1 (intsA .u32 xs),.sl 1 (intsA .u32 ys)] (.tup [.sl 1 (intsA .u32 (limbs (valL xs - valL ys))),.lit (.bool true)]):=by
 have hB:maxB=1000000000:=rfl
 have c0:=rlonger_a xs ys _ rfl
 have c1:=rCmp_a xs ys hx hy (by omega) (by omega)
 have hc:0≤cmpI (valL xs) (valL ys):=by unfold cmpI; split<;>(try split)<;>omega
 generalize hM:max xs.length ys.length=M at c0
 obtain ⟨v1,v2⟩:=subF_val M xs ys 0 hx hy (by omega) (by omega) (by omega) (by omega) (by omega)
 have hl:=subF_len M xs ys 0
 have c2:=rNorm_a (subF M xs ys 0) (by omega)
 rw [trimI_limbs v2,show valL (subF M xs ys 0)=valL xs - valL ys from by omega] at c2
 clear v1 v2
 refine acalls_of code_scrimref02_Sub (by simp [fn_scrimref02_Sub]) fun C hC => ?_
 refine walk2 ?_
 refine aw_nil 6 145 1 rfl ?_
 refine aw_loopB [0,1,4,5] [] (fun p:Nat × List Int × Int=>[(6,.own 0),(7,.lit (.int .u64 p.2.2)),(8,.lit (.int .i64 p.1))]) (fun p=>[(0,some ⟨true,false,145,1,intsA .u32 p.2.1⟩)]) 1
  (fun p=>p.1≤M∧p.2.1.length=p.1∧0≤p.2.2∧p.2.2≤1∧subF M xs ys 0=p.2.1++subF (M - p.1) (xs.drop p.1) (ys.drop p.1) p.2.2) (fun p=>M - p.1) (0,[],0)
  ⟨Nat.zero_le _,rfl,by simp only; omega,by simp only; omega,by simp⟩ ?_
 rintro ⟨k,out,b⟩ ⟨hk,ho,hb0,hb1,hE⟩
 simp only at hk ho hb0 hb1 hE
 dsimp only [List.cons_append,List.nil_append]
 have lo:=intsA_len .u32 out
 by_cases hlt:k<M
 ·have hr:=limb_range hx k
  have hr2:=limb_range hy k
  have c3:=rlimb_a xs k _ rfl hx
  have c4:=rlimb_a ys k _ rfl hy
  rw [subF_step xs ys M k hlt b] at hE
  refine walk2 ?_
  refine ⟨(k+1,out++[(4294967296+limb xs k - limb ys k - b) % 4294967296],1 - (4294967296+limb xs k - limb ys k - b) / 4294967296),by simp only; omega,⟨by simp only; omega,by simp only [List.length_append,List.length_singleton]; omega,by simp only; omega,by simp only; omega,by simp only; rw [hE]; simp⟩,wkR hC.m [(0,2)] ?_⟩
  simp only [intsA,List.map_append,List.map_cons,List.map_nil]
  rfl
 ·have hk':k=M:=by omega
  rw [hk',Nat.sub_self,subF,List.append_nil] at hE
  rw [← hE]
  refine aw_freeze 0 rfl ?_
  refine walk2 ?_
  exact fin
theorem rSubN_a (xs ys:List Int) (hx:limOK xs) (hy:limOK ys) (lx:xs.length≤100000) (ly:ys.length≤100000) (h:valL xs<valL ys):ACalls Tryz.prog 247 [.sl 1 (intsA .u32 xs),.sl 1 (intsA .u32 ys)] (.tup [.sl 1 [],.lit (.bool false)]):=by
 have hB:maxB=1000000000:=rfl
 have c1:=rCmp_a xs ys hx hy (by omega) (by omega)
 rw [show cmpI (valL xs) (valL ys) = -1 from by simp [cmpI,h]] at c1
 refine acalls_of code_scrimref02_Sub (by simp [fn_scrimref02_Sub]) fun C hC => ?_
 refine walk2 ?_
 exact fin
theorem rAdd_a (xs ys:List Int) (hx:limOK xs) (hy:limOK ys) (lx:xs.length≤100000) (ly:ys.length≤100000):ACalls Tryz.prog 210 [.sl 1 (intsA .u32 xs),.sl 1 (intsA .u32 ys)] (.sl 1 (intsA .u32 (limbs (valL xs+valL ys)))):=by
 have hB:maxB=1000000000:=rfl
 have c0:=rlonger_a xs ys _ rfl
 generalize hM:max xs.length ys.length=M at c0
 obtain ⟨v1,v2⟩:=addF_val M xs ys 0 hx hy (by omega) (by omega) (by omega) (by omega)
 have hl:=addF_len (M+1) xs ys 0
 have c2:=rNorm_a (addF (M+1) xs ys 0) (by omega)
 rw [trimI_limbs v2,show valL (addF (M+1) xs ys 0)=valL xs+valL ys from by omega] at c2
 clear v1 v2
 refine acalls_of code_scrimref02_Add (by simp [fn_scrimref02_Add]) fun C hC => ?_
 refine walk2 ?_
 refine aw_nil 5 145 1 rfl ?_
 refine aw_loopB [0,1,4] [] (fun p:Nat × List Int × Int=>[(5,.own 0),(6,.lit (.int .u64 p.2.2)),(7,.lit (.int .i64 p.1))]) (fun p=>[(0,some ⟨true,false,145,1,intsA .u32 p.2.1⟩)]) 1
  (fun p=>p.1≤M+1∧p.2.1.length=p.1∧0≤p.2.2∧p.2.2≤1∧addF (M+1) xs ys 0=p.2.1++addF (M+1 - p.1) (xs.drop p.1) (ys.drop p.1) p.2.2) (fun p=>M+1 - p.1) (0,[],0)
  ⟨Nat.zero_le _,rfl,by simp only; omega,by simp only; omega,by simp⟩ ?_
 rintro ⟨k,out,b⟩ ⟨hk,ho,hb0,hb1,hE⟩
 simp only at hk ho hb0 hb1 hE
 dsimp only [List.cons_append,List.nil_append]
 have lo:=intsA_len .u32 out
 by_cases hlt:k<M+1
 ·have hr:=limb_range hx k
  have hr2:=limb_range hy k
  have c3:=rlimb_a xs k _ rfl hx
  have c4:=rlimb_a ys k _ rfl hy
  rw [addF_step xs ys (M+1) k hlt b] at hE
  refine walk2 ?_
  refine ⟨(k+1,out++[(limb xs k+limb ys k+b) % 4294967296],(limb xs k+limb ys k+b) / 4294967296),by simp only; omega,⟨by simp only; omega,by simp only [List.length_append,List.length_singleton]; omega,by simp only; omega,by simp only; omega,by simp only; rw [hE]; simp⟩,wkR hC.m [(0,2)] ?_⟩
  simp only [intsA,List.map_append,List.map_cons,List.map_nil]
  rfl
 ·have hk':k=M+1:=by omega
  rw [hk',Nat.sub_self,addF,List.append_nil] at hE
  rw [← hE]
  refine aw_freeze 0 rfl ?_
  refine walk2 ?_
  exact fin
theorem rBit_a (xs:List Int) (i:Nat) (q:Int) (hq:q=i) (hi:i≤100000000) (ho:limOK xs):ACalls Tryz.prog 246 [.sl 1 (intsA .u32 xs),.lit (.int .i64 q)] (.lit (.int .u32 (bitF xs i))):=by
 have c1:=rlimb_a xs (i / 32) (q / 32) (by omega) ho
 have hr:=limb_range ho (i / 32)
 refine acalls_of code_scrimref02_Bit (by simp [fn_scrimref02_Bit]) fun C hC => ?_
 refine walk2 ?_
 refine aw_loopB [0,1,4] [] (fun k:Nat=>[(5,.lit (.int .u64 (limb xs (i / 32) / 2 ^ k))),(6,.lit (.int .i64 k))]) (fun _=>[]) 0 (fun k=>k≤i % 32) (fun k=>i % 32 - k) 0 (Nat.zero_le _) ?_ (ht:=by simp only [Int.pow_zero,Int.ediv_one]; rfl)
 intro k hk
 dsimp only [List.cons_append,List.nil_append]
 have hx0:0≤limb xs (i / 32) / 2 ^ k:=Int.ediv_nonneg hr.1 (Int.le_of_lt (Int.pow_pos (by omega)))
 have hx1:limb xs (i / 32) / 2 ^ k≤limb xs (i / 32):=Int.ediv_le_self _ hr.1
 by_cases hlt:k<i % 32
 ·have e:limb xs (i / 32) / 2 ^ (k+1)=limb xs (i / 32) / 2 ^ k / 2:=by
   rw [Int.pow_succ,Int.ediv_ediv_of_nonneg (Int.le_of_lt (Int.pow_pos (by omega)))]
  refine walk2 ?_
  exact ⟨k+1,by omega,by omega,wkR hC.m [] (by rw [e]; rfl)⟩
 ·have hk':k=i % 32:=by omega
  unfold bitF
  rw [← hk']
  refine walk2 ?_
  exact fin
theorem limbs_len_shift {Y:Nat} (h:Y≠0):(limbs (4294967296 * Y)).length=(limbs Y).length+1:=by
 rw [limbs_pos (n:=4294967296 * Y) (by omega),show 4294967296 * Y / 4294967296=Y from by omega]; rfl
theorem rDivMod_a (xs ys:List Int) (Y:Nat) (hY:ys=limbs Y) (hx:limOK xs) (lx:xs.length≤40) (ly:ys.length≤40) (h:Y≠0) :
 ACalls Tryz.prog 233 [.sl 1 (intsA .u32 xs),.sl 1 (intsA .u32 ys)] (.tup [.sl 1 (intsA .u32 (limbs (dm xs Y).1)),.sl 1 (intsA .u32 (limbs (dm xs Y).2)),.lit (.bool true)]):=by
 subst hY
 have hB:maxB=1000000000:=rfl
 have lxs:=intsA_len .u32 xs
 have lys:=intsA_len .u32 (limbs Y)
 have hy:=limbs_ok Y
 have c1:=rNorm_a (limbs Y) (by omega)
 rw [trimI_self] at c1
 have hne:(limbs Y).length≠0:=fun e=>h (limbs_nil.1 (List.eq_nil_of_length_eq_zero e))
 have hp:∀ n q r:Nat,n≤32 * xs.length→q<2 ^ (32 * xs.length - n)→r<Y→(limbs q).length≤32 * xs.length∧(limbs r).length≤40:=fun n q r hn hq hr=>by
  have:=limbs_len_pow _ q hq
  have h2:=limbs_len_mono (m:=r) (n:=Y) (by omega)
  omega
 refine acalls_of code_scrimref02_DivMod (by simp [fn_scrimref02_DivMod]) fun C hC => ?_
 refine walk2 ?_
 refine aw_nilS 7 1 rfl ?_
 refine aw_nilS 8 1 rfl ?_
 refine aw_loopB [0,1,4,5,6] [] (fun p:Nat × Nat × Nat=>[(7,.sl 1 (intsA .u32 (limbs p.2.1))),(8,.sl 1 (intsA .u32 (limbs p.2.2))),(9,.lit (.int .i64 ((p.1:Int) - 1)))]) (fun _=>[]) 0
  (fun p=>p.1≤32 * xs.length∧p.2.1<2 ^ (32 * xs.length - p.1)∧p.2.2<Y∧dm xs Y=dmF xs Y p.1 p.2.1 p.2.2) (fun p=>p.1) (32 * xs.length,0,0)
  ⟨Nat.le_refl _,by simp,by simp only; omega,by rw [dm,if_neg h]⟩ ?_
  (ht:=by simp only [limbs_zero,show ((32 * xs.length:Nat):Int) - 1=32 * (xs.length:Int) - 1 from by omega]; rfl)
 rintro ⟨n,q,r⟩ ⟨hn,hq,hr,hE⟩
 simp only at hn hq hr hE
 dsimp only [List.cons_append,List.nil_append]
 obtain ⟨lq,lr⟩:=hp n q r hn hq hr
 cases n with
 | zero =>
   rw [dmF] at hE
   rw [hE]
   refine walk2 ?_
   exact fin
 | succ n =>
   have hb:=bitF_range xs n
   rw [dmF] at hE
   have c2:=rBit_a xs n (((n+1:Nat):Int) - 1) (by omega) (by omega) hx
   have c3:=rtwice_a (limbs r) (bitF xs n) (limbs_ok r) (by omega) hb.1 hb.2
   have l2:(limbs (2 * r+(bitF xs n).toNat)).length≤41:=by
    have:=limbs_len_mono (m:=2 * r+(bitF xs n).toNat) (n:=4294967296 * Y) (by omega)
    rw [limbs_len_shift h] at this
    omega
   have e1:2 ^ (32 * xs.length - n)=2 * 2 ^ (32 * xs.length - (n+1)):=by
    rw [show 32 * xs.length - n=(32 * xs.length - (n+1))+1 from by omega,Nat.pow_succ,Nat.mul_comm]
   rw [valL_limbs] at c3
   by_cases hle:Y≤2 * r+(bitF xs n).toNat
   ·rw [if_pos hle] at hE
    have c4:=rSub_a (limbs (2 * r+(bitF xs n).toNat)) (limbs Y) (limbs_ok _) hy (by omega) (by omega) (by rw [valL_limbs,valL_limbs]; exact hle)
    rw [valL_limbs,valL_limbs] at c4
    have c5:=rtwice_a (limbs q) 1 (limbs_ok q) (by omega) (by omega) (by omega)
    rw [valL_limbs] at c5
    refine walk2 ?_
    exact ⟨(n,2 * q+1,2 * r+(bitF xs n).toNat - Y),by simp only; omega,⟨by simp only; omega,by simp only; omega,by simp only; omega,hE⟩,wkR hC.m [] (by simp only; rw [show ((n:Nat):Int) - 1=((n+1:Nat):Int) - 1 - 1 from by omega]; rfl)⟩
   ·rw [if_neg hle] at hE
    have c4:=rSubN_a (limbs (2 * r+(bitF xs n).toNat)) (limbs Y) (limbs_ok _) hy (by omega) (by omega) (by rw [valL_limbs,valL_limbs]; omega)
    have c5:=rtwice_a (limbs q) 0 (limbs_ok q) (by omega) (by omega) (by omega)
    rw [valL_limbs] at c5
    refine walk2 ?_
    exact ⟨(n,2 * q,2 * r+(bitF xs n).toNat),by simp only; omega,⟨by simp only; omega,by simp only; omega,by simp only; omega,hE⟩,wkR hC.m [] (by simp only; rw [show ((n:Nat):Int) - 1=((n+1:Nat):Int) - 1 - 1 from by omega]; rfl)⟩
theorem gcdF_ne:∀ (k x y:Nat),(x≠0∨(y≠0∧k≠0))→gcdF k x y≠0
 | 0,x,y,h=>by simp only [gcdF]; rcases h with h|h; exact h; exact absurd rfl h.2
 | k+1,x,y,h=>by
   simp only [gcdF]
   split
   ·rename_i hy
    rcases h with h|h
    ·exact h
    ·exact absurd hy h.1
   ·rename_i hy
    exact gcdF_ne k y _ (.inl hy)
theorem gcdF_le:∀ (k x y M:Nat),x≤M→y≤M→gcdF k x y≤M
 | 0,x,y,M,hx,hy=>by simpa [gcdF] using hx
 | k+1,x,y,M,hx,hy=>by
   simp only [gcdF]
   split
   ·exact hx
   ·rename_i h0
    have:=(dm_lt (limbs x) h0).1
    exact gcdF_le k y _ M hy (by omega)
theorem rGcd_a (xs ys:List Int) (hx:limOK xs) (hy:limOK ys) (lx:xs.length≤40) (ly:ys.length≤40) :
 ACalls Tryz.prog 232 [.sl 1 (intsA .u32 xs),.sl 1 (intsA .u32 ys)] (.sl 1 (intsA .u32 (limbs (gcdF 100000 (valL xs) (valL ys))))):=by
 have hB:maxB=1000000000:=rfl
 have c1:=rNorm_a xs (by omega)
 have c2:=rNorm_a ys (by omega)
 have t1:=trimI_len xs
 have t2:=trimI_len ys
 rw [trimI_limbs hx] at c1 t1
 rw [trimI_limbs hy] at c2 t2
 generalize valL xs=X at c1 t1 ⊢
 generalize valL ys=Y at c2 t2 ⊢
 refine acalls_of code_scrimref02_Gcd (by simp [fn_scrimref02_Gcd]) fun C hC => ?_
 refine walk2 ?_
 refine aw_loopB [4] [] (fun p:Nat × Nat × Nat=>[(5,.sl 1 (intsA .u32 (limbs p.2.1))),(6,.sl 1 (intsA .u32 (limbs p.2.2))),(7,.lit (.int .i64 p.1))]) (fun _=>[]) 0
  (fun p=>p.1≤100000∧(limbs p.2.1).length≤40∧(limbs p.2.2).length≤40∧gcdF 100000 X Y=gcdF (100000 - p.1) p.2.1 p.2.2) (fun p=>100000 - p.1) (0,X,Y) ⟨Nat.zero_le _,by simp only; omega,by simp only; omega,rfl⟩ ?_
 rintro ⟨n,x,y⟩ ⟨hn,lx',ly',hE⟩
 simp only at hn lx' ly' hE
 dsimp only [List.cons_append,List.nil_append]
 generalize gcdF 100000 X Y=G at hE ⊢
 have la:=intsA_len .u32 (limbs y)
 by_cases h1:n<100000
 ·by_cases h2:y=0
  ·subst h2
   rw [show 100000 - n=(100000 - (n+1))+1 from by omega,gcdF,if_pos rfl] at hE
   rw [limbs_zero] at la
   simp only [List.length_nil] at la
   rw [hE,limbs_zero]
   refine walk2 ?_
   exact fin
  ·have hpos:0<(limbs y).length:=by
    rcases Nat.eq_zero_or_pos (limbs y).length with e|e
    ·exact absurd (limbs_nil.1 (List.eq_nil_of_length_eq_zero e)) h2
    ·exact e
   rw [show 100000 - n=(100000 - (n+1))+1 from by omega,gcdF,if_neg h2] at hE
   have c3:=rDivMod_a (limbs x) (limbs y) y rfl (limbs_ok x) lx' ly' h2
   have hlt:=(dm_lt (limbs x) h2).1
   have hll:=limbs_len_mono (m:=(dm (limbs x) y).2) (n:=y) (by omega)
   refine walk2 ?_
   exact ⟨(n+1,y,(dm (limbs x) y).2),by simp only; omega,⟨by simp only; omega,ly',by simp only; omega,hE⟩,wkR hC.m []⟩
 ·rw [show 100000 - n=0 from by omega,gcdF] at hE
  rw [hE]
  refine walk2 ?_
  exact fin
theorem r3Norm_a (n:Bool) (m:List Int) (hm:limOK m) (lm:m.length≤maxB):ACalls Tryz.prog 171 [.agg (intV n m)] (.agg (intV (sgnV n (valL m)) (limbs (valL m)))):=by
 have c1:=rNorm_a m lm
 rw [trimI_limbs hm] at c1
 generalize valL m=V at c1 ⊢
 have la:=intsA_len .u32 (limbs V)
 refine acalls_of code_scrimref03_Norm (by simp [fn_scrimref03_Norm]) fun C hC => ?_
 by_cases h:V=0
 ·subst h
  rw [limbs_zero] at c1 la ⊢
  refine walk2 ?_
  exact fin
 ·have hpos:¬ (limbs V).length=0:=fun e=>absurd (limbs_nil.1 (List.eq_nil_of_length_eq_zero e)) h
  rw [sgnV,if_neg h]
  refine walk2 ?_
  exact fin
theorem rTop_a (n:Num) (hn:limOK n.top) (lm:n.top.length≤maxB):ACalls Tryz.prog 122 [.agg (numV n)] (.agg (intV (sgnV n.neg (valL n.top)) (limbs (valL n.top)))):=by
 have c1:=r3Norm_a n.neg n.top hn lm
 refine acalls_of code_scrimref04_Top (by simp [fn_scrimref04_Top]) fun C hC => ?_
 refine walk2 ?_
 exact fin
theorem rBot_a (n:Num) (hn:limOK n.bot) (lm:n.bot.length≤maxB):ACalls Tryz.prog 206 [.agg (numV n)] (.agg (intV (sgnV false (valL n.bot)) (limbs (valL n.bot)))):=by
 have c1:=r3Norm_a false n.bot hn lm
 refine acalls_of code_scrimref04_Bot (by simp [fn_scrimref04_Bot]) fun C hC => ?_
 refine walk2 ?_
 exact fin
theorem rMake_a (nx ny:Bool) (X Y:Nat) (lx:(limbs X).length≤40) (ly:(limbs Y).length≤40):ACalls Tryz.prog 205 [.agg (intV nx (limbs X)),.agg (intV ny (limbs Y))] (.tup [.agg (numV (makeF (sgnV nx X) X (sgnV ny Y) Y).1),.lit (.int .i64 (makeF (sgnV nx X) X (sgnV ny Y) Y).2)]):=by
 have hB:maxB=1000000000:=rfl
 have c1:=r3Norm_a nx (limbs X) (limbs_ok X) (by omega)
 have c2:=r3Norm_a ny (limbs Y) (limbs_ok Y) (by omega)
 rw [valL_limbs] at c1 c2
 have la:=intsA_len .u32 (limbs Y)
 refine acalls_of code_scrimref04_Make (by simp [fn_scrimref04_Make]) fun C hC => ?_
 unfold makeF
 by_cases h:Y=0
 ·rw [if_pos h]
  subst h
  rw [limbs_zero] at la
  simp only [limbs_zero] at c2 la ⊢
  refine walk2 ?_
  exact fin
 ·rw [if_neg h]
  have hpos:¬ (limbs Y).length=0:=fun e=>absurd (limbs_nil.1 (List.eq_nil_of_length_eq_zero e)) h
  have c3:=rGcd_a (limbs X) (limbs Y) (limbs_ok X) (limbs_ok Y) lx ly
  rw [valL_limbs,valL_limbs] at c3
  have g0:=gcdF_ne 100000 X Y (.inr ⟨h,by omega⟩)
  have gl:(limbs (gcdF 100000 X Y)).length≤40:=by
   have:=limbs_len_mono (gcdF_le 100000 X Y (max X Y) (by omega) (by omega))
   rcases Nat.le_total X Y with hh|hh
   ·rw [show max X Y=Y from by omega] at this; omega
   ·rw [show max X Y=X from by omega] at this; omega
  generalize gcdF 100000 X Y=G at c3 g0 gl ⊢
  have c4:=rDivMod_a (limbs X) (limbs G) G rfl (limbs_ok X) lx gl g0
  have c5:=rDivMod_a (limbs Y) (limbs G) G rfl (limbs_ok Y) ly gl g0
  simp only
  generalize (dm (limbs X) G).1=T at c4 ⊢
  generalize (dm (limbs Y) G).1=U at c5 ⊢
  generalize (dm (limbs X) G).2=T2 at c4
  generalize (dm (limbs Y) G).2=U2 at c5
  have lt:=intsA_len .u32 (limbs T)
  have lu:=intsA_len .u32 (limbs U)
  by_cases h1:(limbs T).length > 32
  ·rw [if_pos (.inl h1)]
   refine walk2 ?_
   exact fin
  ·by_cases h2:(limbs U).length > 32
   ·rw [if_pos (.inr h2)]
    refine walk2 ?_
    exact fin
   ·rw [if_neg (by omega)]
    by_cases h3:T=0
    ·subst h3
     have lt0:((intsA .u32 (limbs 0)).length:Int)=0:=by rw [limbs_zero]; rfl
     clear lt
     refine walk2 ?_
     exact fin
    ·have hp3:¬ (limbs T).length=0:=fun e=>absurd (limbs_nil.1 (List.eq_nil_of_length_eq_zero e)) h3
     rw [show decide (T≠0)=true from decide_eq_true h3,Bool.true_and]
     have e:∀ b c:Bool,(b != c)=(match absBool .neq b c with|some (.bool x)=>x|_=>false):=fun b c=>by cases b<;>cases c<;>rfl
     refine walk2 ?_
     exact fin
theorem rRight_a (n:Num) (hn:numOK n):ACalls Tryz.prog 167 [.agg (numV n)] (.lit (.bool (rightN n))):=by
 have hB:maxB=1000000000:=rfl
 obtain ⟨l1,l2⟩:=hn.lim
 have lt:=intsA_len .u32 n.top
 have lb:=intsA_len .u32 n.bot
 refine acalls_of code_scrimref04_Right (by simp [fn_scrimref04_Right]) fun C hC => ?_
 unfold rightN
 by_cases h1:n.top.length > 32
 ·rw [if_pos (.inl h1)]
  refine walk2 ?_
  exact fin
 by_cases h2:n.bot.length > 32
 ·rw [if_pos (.inr h2)]
  refine walk2 ?_
  exact fin
 rw [if_neg (by omega)]
 have c1:=rTop_a n l1 (by omega)
 have c2:=rBot_a n l2 (by omega)
 have t1:=trimI_len n.top
 have t2:=trimI_len n.bot
 rw [trimI_limbs l1] at t1
 rw [trimI_limbs l2] at t2
 have c3:=rMake_a (sgnV n.neg (valL n.top)) (sgnV false (valL n.bot)) (valL n.top) (valL n.bot) (by omega) (by omega)
 have e1:∀ b V,sgnV (sgnV b V) V=sgnV b V:=fun b V=>by unfold sgnV; split<;>rfl
 have e2:sgnV false (valL n.bot)=false:=by unfold sgnV; split<;>rfl
 rw [e1,e1,e2] at c3
 rw [e2] at c2
 generalize makeF (sgnV n.neg (valL n.top)) (valL n.top) false (valL n.bot)=M at c3 ⊢
 obtain ⟨m,e⟩:=M
 simp only at c3 ⊢
 have c4:=rnum_a n m
 by_cases h3:e=0
 ·subst h3
  rw [beq_self_eq_true,Bool.true_and]
  refine walk2 ?_
  exact fin
 ·rw [show (e == 0)=false from by simpa using h3,Bool.false_and]
  refine walk2 ?_
  exact fin
def idxFrom (p:Int→Bool):List Int→Nat→Int
 | [],_ => -1
 | z::zs,i=>if p z then i else idxFrom p zs (i+1)
theorem idxFrom_ge (p:Int→Bool):∀ (zs:List Int) (i:Nat),decide (idxFrom p zs i ≥ 0)=zs.any p
 | [],_=>rfl
 | z::zs,i=>by
   simp only [idxFrom,List.any_cons]
   by_cases h:p z=true
   ·simp [h]
   ·have:=idxFrom_ge p zs (i+1)
    simp only [Bool.not_eq_true] at h
    simp [h]
    simpa using this
def prodC:List Int→Int→Int
 | [],o=>o
 | z::zs,o=>if o * z > 2048 then 0 else prodC zs (o * z)
def cnt (s:List Int):Int × Int :=
 if s.length > 6 then (0,7) else if s.any (·<0) then (0,3) else if s.any (· > 2048) then (0,7) else if s.any (fun z=>(0:Int) == z) then (0,0)
 else if prodC s 1=0 then (0,7) else (prodC s 1,0)
def chk:List Int→Bool→Bool→Option (Bool × Bool)
 | [],b,n=>some (b,n)
 | z::zs,b,n=>if z<0 then none else chk zs (b || decide (2048<z)) (n || z == 0)
def mulC:List Int→Int→Option Int
 | [],o=>some o
 | z::zs,o=>if o * z > 2048 then none else mulC zs (o * z)
def rfin2:Option Int→Int × Int
 | none=>(0,7)
 | some o=>(o,0)
def rfin:Option (Bool × Bool)→Option Int→Int × Int
 | none,_=>(0,3)
 | some (true,_),_=>(0,7)
 | some (false,true),_=>(0,0)
 | some (false,false),m=>rfin2 m
def rcnt (s:List Int):Int × Int :=
 if s.length > 6 then (0,7) else rfin (chk s false false) (mulC s 1)
theorem chk_eq:∀ (s:List Int) (b n:Bool),chk s b n=if s.any (·<0) then none else some (b || s.any (· > 2048),n || s.any (fun z=>(0:Int) == z))
 | [],b,n=>by simp [chk]
 | z::s,b,n=>by
   simp only [chk,List.any_cons]
   by_cases h:z<0
   ·simp [h]
   ·have e:((0:Int) == z)=(z == 0):=by rw [Bool.eq_iff_iff]; simp; omega
    rw [if_neg h,chk_eq s,e]; simp [h,Bool.or_assoc]
theorem mulC_eq:∀ (s:List Int) (o:Int),0<o→(∀ z ∈ s,0<z)→mulC s o=if prodC s o=0 then none else some (prodC s o)
 | [],o,h,_=>by
   have e:prodC [] o≠0:=by show o≠0; omega
   rw [if_neg e]; rfl
 | z::s,o,h,hz=>by
   simp only [mulC,prodC]
   split
   ·simp
   ·exact mulC_eq s (o * z) (Int.mul_pos h (hz z (by simp))) (fun y hy=>hz y (by simp [hy]))
theorem rcnt_eq (s:List Int):rcnt s=cnt s:=by
 unfold rcnt cnt
 split
 ·rfl
 ·rw [chk_eq]
  by_cases h1:s.any (·<0)=true
  ·simp [h1,rfin]
  ·simp only [h1,Bool.false_eq_true,if_false,Bool.false_or]
   by_cases h2:s.any (· > 2048)=true
   ·simp [h2,rfin]
   ·simp only [h2,Bool.false_eq_true,if_false]
    by_cases h3:s.any (fun z=>(0:Int) == z)=true
    ·simp [h3,rfin]
    ·simp only [h3,Bool.false_eq_true,if_false]
     rw [mulC_eq s 1 (by omega) (fun z hz=>by
      simp only [List.any_eq_true,not_exists,not_and] at h1 h3
      have a:=h1 z hz; have b:=h3 z hz; simp at a b; omega)]
     by_cases h4:prodC s 1=0<;>simp [h4,rfin,rfin2]
def idxC:List Int→List Int→Int→Option Int
 | n::s,i::at',o=>if i<0∨n≤i then none else idxC s at' (o * n+i)
 | _,_,o=>some o
def Small (s:List Int):Prop:=∀ z ∈ s,0≤z∧z≤2048
theorem small_of {s:List Int} (h1:s.any (·<0)=false) (h2:s.any (· > 2048)=false):Small s:=fun z hz=>by
 simp only [List.any_eq_false] at h1 h2
 have a:=h1 z hz; have b:=h2 z hz; simp at a b; omega
theorem small_of_chk {s:List Int} {N:Bool} (h:chk s false false=some (false,N)):Small s:=by
 rw [chk_eq] at h
 split at h
 ·cases h
 ·rename_i h1
  simp only [Bool.false_or,Option.some.injEq,Prod.mk.injEq] at h
  exact small_of (by simpa using h1) h.1
theorem dropA_cons {α:Type} {zs:List α} {k:Nat} {z:α} (h:zs[k]? = some z):zs.drop k=z::zs.drop (k+1):=by
 obtain ⟨hk,rfl⟩:=List.getElem?_eq_some_iff.1 h
 rw [List.drop_eq_getElem_cons hk]
theorem takeA_snoc {α:Type} {zs:List α} {k:Nat} {z:α} (h:zs[k]? = some z):zs.take (k+1)=zs.take k++[z]:=by
 obtain ⟨hk,rfl⟩:=List.getElem?_eq_some_iff.1 h
 rw [List.take_succ_eq_append_getElem hk]
theorem cnt_len {s:List Int} (h:(cnt s).2=0):s.length≤6:=by
 unfold cnt at h
 split at h
 ·simp at h
 ·omega
theorem cnt_small {s:List Int} (h:(cnt s).2=0):Small s:=by
 unfold cnt at h
 split at h
 ·simp at h
 ·split at h
  ·simp at h
  ·split at h
   ·simp at h
   ·exact small_of (by simpa using ‹¬ (s.any fun x=>decide (x<0))=true›) (by simpa using ‹¬ (s.any fun x=>decide (x > 2048))=true›)
theorem prodC_range:∀ (l:List Int) (o:Int),0≤o→o≤2048→Small l→0≤prodC l o∧prodC l o≤2048
 | [],o,h0,h1,_=>⟨h0,h1⟩
 | z::l,o,h0,h1,hs=>by
   simp only [prodC]
   have hz:=hs z (by simp)
   have:=Int.mul_nonneg h0 hz.1
   split
   ·omega
   ·exact prodC_range l _ this (by omega) (fun y hy=>hs y (by simp [hy]))
theorem cnt_le (s:List Int):0≤(cnt s).1∧(cnt s).1≤2048:=by
 unfold cnt
 split
 ·simp
 ·split
  ·simp
  ·split
   ·simp
   ·split
    ·simp
    ·split
     ·simp
     ·exact prodC_range s 1 (by omega) (by omega) (small_of (by simpa using ‹¬ (s.any fun x=>decide (x<0))=true›) (by simpa using ‹¬ (s.any fun x=>decide (x > 2048))=true›))
def prodL:List Int→Int
 | []=>1
 | z::zs=>z * prodL zs
theorem prodL_append (a b:List Int):prodL (a++b)=prodL a * prodL b:=by
 induction a with
 | nil=>simp [prodL]
 | cons z a ih=>simp only [List.cons_append,prodL,ih,Int.mul_assoc]
theorem prodL_pos:∀ (l:List Int),(∀ z ∈ l,0<z)→0<prodL l
 | [],_=>by simp [prodL]
 | z::l,h=>by simp only [prodL]; exact Int.mul_pos (h z (by simp)) (prodL_pos l (fun y hy=>h y (by simp [hy])))
theorem prodL_nonneg:∀ (l:List Int),(∀ z ∈ l,0≤z)→0≤prodL l
 | [],_=>by simp [prodL]
 | z::l,h=>by simp only [prodL]; exact Int.mul_nonneg (h z (by simp)) (prodL_nonneg l (fun y hy=>h y (by simp [hy])))
theorem prodC_eq:∀ (l:List Int) (o:Int),0<o→(∀ z ∈ l,0<z)→prodC l o≠0→prodC l o=o * prodL l
 | [],o,_,_,_=>by simp [prodC,prodL]
 | z::l,o,ho,hp,h=>by
   simp only [prodC] at h ⊢
   split at h
   ·exact absurd rfl h
   ·rename_i hb
    rw [if_neg hb,prodC_eq l (o * z) (Int.mul_pos ho (hp z (by simp))) (fun y hy=>hp y (by simp [hy])) h,prodL,Int.mul_assoc]
theorem prodL_zero {l:List Int} (h:(0:Int) ∈ l):prodL l=0:=by
 induction l with
 | nil=>simp at h
 | cons z l ih =>
   simp only [prodL]
   rcases List.mem_cons.1 h with h|h
   ·rw [← h,Int.zero_mul]
   ·rw [ih h,Int.mul_zero]
theorem cnt_prod {s:List Int} (h:(cnt s).2=0):(cnt s).1=prodL s:=by
 have hs:=cnt_small h
 unfold cnt at h ⊢
 split at h
 ·simp at h
 ·rw [if_neg ‹_›]
  split at h
  ·simp at h
  ·rw [if_neg ‹_›]
   split at h
   ·simp at h
   ·rw [if_neg ‹_›]
    by_cases h0:s.any (fun z=>(0:Int) == z)=true
    ·rw [if_pos h0]
     obtain ⟨z,hz,e⟩:=List.any_eq_true.1 h0
     have:(0:Int)=z:=by simpa using e
     subst this
     exact (prodL_zero hz).symm
    ·rw [if_neg h0] at h ⊢
     by_cases hp:prodC s 1=0
     ·rw [if_pos hp] at h; simp at h
     ·rw [if_neg hp]
      show prodC s 1=prodL s
      rw [prodC_eq s 1 (by omega) (fun z hz=>by
       have a:=hs z hz
       have:z≠0:=fun e=>h0 (List.any_eq_true.2 ⟨z,hz,by simp [e]⟩)
       omega) hp,Int.one_mul]
theorem prodL_pow:∀ (l:List Int),Small l→prodL l≤2048 ^ l.length
 | [],_=>by simp [prodL]
 | z::l,h=>by
   have hz:=h z (by simp)
   have ih:=prodL_pow l (fun y hy=>h y (by simp [hy]))
   have h0:=prodL_nonneg l (fun y hy=>(h y (by simp [hy])).1)
   simp only [prodL,List.length_cons,Int.pow_succ]
   calc z * prodL l≤2048 * prodL l:=Int.mul_le_mul_of_nonneg_right hz.2 h0
    _≤2048 * 2048 ^ l.length:=Int.mul_le_mul_of_nonneg_left ih (by omega)
    _=_:=Int.mul_comm _ _
theorem pow_le5:∀ n:Nat,n≤5→(2048:Int) ^ n≤36028797018963968
 | 0,_=>by decide
 | 1,_=>by decide
 | 2,_=>by decide
 | 3,_=>by decide
 | 4,_=>by decide
 | 5,_=>by decide
 | n+6,h=>by omega
theorem prodL_take {s:List Int} (h:(cnt s).2=0) (k:Nat):prodL (s.take k)≤36028797018963968:=by
 have hl:=cnt_len h
 have hs:=cnt_small h
 by_cases hk:k<6
 ·have h1:=prodL_pow (s.take k) (fun z hz=>hs z (List.mem_of_mem_take hz))
  have h2:(s.take k).length≤5:=by simp; omega
  have h3:=pow_le5 _ h2
  omega
 ·rw [List.take_of_length_le (by omega)]
  have:=cnt_prod h
  have:=cnt_le s
  omega
theorem idx_step {s:List Int} {k:Nat} {z p y:Int} (hc:(cnt s).2=0) (hz:s[k]? = some z) (hp0:0≤p) (hp:p<prodL (s.take k)) (hy:0≤y) (hyz:y<z) :
 p * z+y<prodL (s.take (k+1))∧0≤p * z∧p * z≤36028797018963968∧p * z+y≤36028797018963968:=by
 have hz0:0<z:=by omega
 have e:prodL (s.take (k+1))=prodL (s.take k) * z:=by rw [takeA_snoc hz,prodL_append]; simp [prodL]
 have hb:=prodL_take hc (k+1)
 have h1:p * z+z≤prodL (s.take k) * z:=by
  have:(p+1) * z≤prodL (s.take k) * z:=Int.mul_le_mul_of_nonneg_right (by omega) (by omega)
  rw [Int.add_mul,Int.one_mul] at this; exact this
 have h2:=Int.mul_nonneg hp0 (Int.le_of_lt hz0)
 omega
theorem idxC_nil (ys:List Int) (o:Int):idxC [] ys o=some o:=by simp [idxC]
def idxF:Option Int→Int × Bool
 | none=>(0,false)
 | some k=>(k,true)
def idx (s at':List Int):Int × Bool :=
 if (cnt s).2≠0∨at'.length≠s.length then (0,false) else idxF (idxC s at' 0)
def digR:List Int→Int→Int × List Int
 | [],n=>(n,[])
 | z::zs,n=>((digR zs n).1 / z,((digR zs n).1 % z)::(digR zs n).2)
theorem digR_len:∀ (s:List Int) (n:Int),(digR s n).2.length=s.length
 | [],_=>rfl
 | z::zs,n=>by simp [digR,digR_len zs n]
theorem rep_set (j:Nat) (ds:List Int) (v:Int):(List.replicate (j+1) 0++ds).set j v=List.replicate j 0++v::ds:=by
 rw [List.replicate_succ',List.append_assoc,List.set_append_right _ _ (by simp)]; simp
theorem emod_mul_split (n z p:Int) (hz:0<z) (hp:0<p):n % (z * p)=((n / p) % z) * p+n % p:=by
 have h1:=Int.mul_ediv_add_emod n p
 have h2:=Int.mul_ediv_add_emod (n / p) z
 have a1:=Int.emod_nonneg n (Int.ne_of_gt hp)
 have a2:=Int.emod_lt_of_pos n hp
 have b1:=Int.emod_nonneg (n / p) (Int.ne_of_gt hz)
 have b2:=Int.emod_lt_of_pos (n / p) hz
 generalize n % p=r at *
 generalize n / p=q at *
 generalize q % z=d at *
 generalize q / z=t at *
 have e:n=(d * p+r)+(z * p) * t:=by rw [← h1,← h2]; simp only [Int.mul_add]; ac_rfl
 have c1:0≤d * p+r:=by have:=Int.mul_nonneg b1 (Int.le_of_lt hp); omega
 have c2:d * p+r<z * p:=by
  have:(d+1) * p≤z * p:=Int.mul_le_mul_of_nonneg_right (by omega) (by omega)
  rw [Int.add_mul,Int.one_mul] at this
  omega
 rw [e,Int.add_mul_emod_self_left]
 exact Int.emod_eq_of_lt c1 c2
theorem digR_fst:∀ (s:List Int) (n:Int),(∀ z ∈ s,0<z)→(digR s n).1=n / prodL s
 | [],n,_=>by simp [digR,prodL]
 | z::s,n,h=>by
   have ih:=digR_fst s n (fun y hy=>h y (by simp [hy]))
   have hp:=prodL_pos s (fun y hy=>h y (by simp [hy]))
   simp only [digR,ih,prodL]
   rw [Int.ediv_ediv_of_nonneg (Int.le_of_lt hp),Int.mul_comm]
theorem idxC_digR:∀ (s:List Int) (n o:Int),(∀ z ∈ s,0<z)→idxC s (digR s n).2 o=some (o * prodL s+n % prodL s)
 | [],n,o,_=>by simp [idxC,prodL,Int.emod_one]
 | z::s,n,o,h=>by
   have hs:∀ y ∈ s,0<y:=fun y hy=>h y (by simp [hy])
   have hp:=prodL_pos s hs
   have hz:=h z (by simp)
   have h0:=Int.emod_nonneg (n / prodL s) (Int.ne_of_gt hz)
   have h1:=Int.emod_lt_of_pos (n / prodL s) hz
   simp only [digR,idxC,digR_fst s n hs,prodL]
   rw [if_neg (by omega),idxC_digR s n _ hs,emod_mul_split n z _ hz hp]
   congr 1
   simp only [Int.add_mul,Int.mul_assoc,Int.add_assoc]
theorem digR_mod:∀ (s:List Int) (m n:Int),(∀ z ∈ s,0<z)→m % prodL s=n % prodL s→(digR s m).2=(digR s n).2
 | [],_,_,_,_=>rfl
 | z::s,m,n,h,e=>by
   have hs:∀ y ∈ s,0<y:=fun y hy=>h y (by simp [hy])
   have hp:=prodL_pos s hs
   have hz:=h z (by simp)
   simp only [prodL] at e
   rw [emod_mul_split m z _ hz hp,emod_mul_split n z _ hz hp] at e
   have m1:=Int.emod_nonneg m (Int.ne_of_gt hp)
   have m2:=Int.emod_lt_of_pos m hp
   have n1:=Int.emod_nonneg n (Int.ne_of_gt hp)
   have n2:=Int.emod_lt_of_pos n hp
   have er:m % prodL s=n % prodL s:=by
    have:=congrArg (· % prodL s) e
    simp only [Int.add_comm _ (m % prodL s),Int.add_comm _ (n % prodL s),Int.add_mul_emod_self_right] at this
    rwa [Int.emod_eq_of_lt m1 m2,Int.emod_eq_of_lt n1 n2] at this
   have eq':(m / prodL s) % z=(n / prodL s) % z:=by
    rw [er] at e
    exact Int.eq_of_mul_eq_mul_right (Int.ne_of_gt hp) (by omega)
   simp only [digR,digR_fst s _ hs,eq',digR_mod s m n hs er]
theorem idxC_some:∀ (s d:List Int) (o k:Int),d.length=s.length→idxC s d o=some k→∃ j,0≤j∧j<prodL s∧k=o * prodL s+j∧d=(digR s j).2∧∀ z ∈ s,0<z
 | [],d,o,k,hl,h=>by
   have:d=[]:=List.eq_nil_of_length_eq_zero hl
   subst this
   simp [idxC] at h
   exact ⟨0,by omega,by simp [prodL],by simp [prodL,h],rfl,by simp⟩
 | z::s,[],o,k,hl,h=>by simp at hl
 | z::s,y::d,o,k,hl,h=>by
   simp only [idxC] at h
   split at h
   ·cases h
   ·rename_i hy
    obtain ⟨j,j0,j1,jk,jd,js⟩:=idxC_some s d (o * z+y) k (by simpa using hl) h
    have hz:0<z:=by omega
    have hp:=prodL_pos s js
    have hy0:0≤y:=by omega
    have hy1:y<z:=by omega
    have c1:=Int.mul_nonneg hy0 (Int.le_of_lt hp)
    have c2:y * prodL s+prodL s≤z * prodL s:=by
     have:(y+1) * prodL s≤z * prodL s:=Int.mul_le_mul_of_nonneg_right (by omega) (by omega)
     rw [Int.add_mul,Int.one_mul] at this; exact this
    have e1:(y * prodL s+j) / prodL s=y:=by
     rw [Int.add_comm,Int.add_mul_ediv_right _ _ (by omega),Int.ediv_eq_zero_of_lt j0 j1]; omega
    have e2:(y * prodL s+j) % prodL s=j:=by
     rw [Int.add_comm,Int.add_mul_emod_self_right,Int.emod_eq_of_lt j0 j1]
    refine ⟨y * prodL s+j,by omega,by simp only [prodL]; omega,?_,?_,?_⟩
    ·rw [jk,prodL]; simp only [Int.add_mul,Int.mul_assoc,Int.add_assoc]
    ·have hd:(digR s (y * prodL s+j)).2=(digR s j).2:=by
      have a:=idxC_digR s (y * prodL s+j) 0 js
      have b:=idxC_digR s j 0 js
      exact digR_mod s _ _ js (by rw [e2,Int.emod_eq_of_lt j0 j1])
     simp only [digR,digR_fst s _ js,e1,hd,← jd]
     rw [Int.emod_eq_of_lt hy0 hy1]
    ·intro x hx
     rcases List.mem_cons.1 hx with rfl|hx
     ·exact hz
     ·exact js x hx
theorem digR_inj {s:List Int} {m n:Int} (h:∀ z ∈ s,0<z) (hm0:0≤m) (hm:m<prodL s) (hn0:0≤n) (hn:n<prodL s) (e:(digR s m).2=(digR s n).2):m=n:=by
 have a:=idxC_digR s m 0 h
 have b:=idxC_digR s n 0 h
 rw [e,b] at a
 simp only [Int.zero_mul,Int.zero_add,Option.some.injEq] at a
 rw [Int.emod_eq_of_lt hm0 hm,Int.emod_eq_of_lt hn0 hn] at a
 exact a.symm
end Go.Proofs.YtnnipocjapblkaaGreat
