/- Whole numbers of the program: powers. -/
import Derived.Test.YtnnipocjapblkaaGreatK13
import Derived.Test.YtnnipocjapblkaaGreatK08
set_option maxRecDepth 10000
set_option maxHeartbeats 4000000
namespace Go.Proofs.YtnnipocjapblkaaGreat
set_option linter.unusedVariables false
open Go.RowKit
theorem powL_step {k:Nat} {out f:Int} (hk:0<k) (hf:¬ 32<(limbs f.natAbs).length) :
 powL k k out f=if 32<(limbs (if k % 2=1 then out * f else out).natAbs).length then (0,7) else powL (k / 2) (k / 2) (if k % 2=1 then out * f else out) (if 0<k / 2 then f * f else f):=by
 cases k with
 | zero=>omega
 | succ k =>
   rw [powL]
   dsimp only
   rw [if_neg (by omega),if_neg hf,powL_fuel k ((k+1) / 2) ((k+1) / 2) _ _ (by omega) (Nat.le_refl _)]
theorem powL_big {k:Nat} {out f:Int} (hk:0<k) (hf:32<(limbs f.natAbs).length):powL k k out f=(0,7):=by
 cases k with
 | zero=>omega
 | succ k=>rw [powL,if_neg (by omega),if_pos hf]
theorem zV_zero:zV 0=intV false []:=by rw [zV,show (0:Int).natAbs=0 from rfl,limbs_zero]; rfl
theorem wmul_z (x y:Int) (lx:(limbs x.natAbs).length≤100000) (ly:(limbs y.natAbs).length≤100000):ACalls Tryz.prog 194 [.agg (zV x),.agg (zV y)] (.agg (zV (x * y))):=by
 have:=wmul_a (decide (x<0)) (decide (y<0)) x.natAbs y.natAbs lx ly
 rwa [sg_self,sg_self] at this
theorem wadd_z (x y:Int) (lx:(limbs x.natAbs).length≤100000) (ly:(limbs y.natAbs).length≤100000):ACalls Tryz.prog 238 [.agg (zV x),.agg (zV y)] (.agg (zV (x+y))):=by
 have:=wadd_a (decide (x<0)) (decide (y<0)) x.natAbs y.natAbs lx ly
 rwa [sg_self,sg_self] at this
theorem wcmp_z (x y:Int):ACalls Tryz.prog 193 [.agg (zV x),.agg (zV y)] (.lit (.int .i64 (cmpZ x y))):=by
 have:=wcmp_a (decide (x<0)) (decide (y<0)) x.natAbs y.natAbs
 rwa [sg_self,sg_self] at this
theorem wsign_z (x:Int):ACalls Tryz.prog 225 [.agg (zV x)] (.lit (.int .i64 x.sign)):=by
 have:=wsign_a (decide (x<0)) x.natAbs
 rwa [sg_self] at this
theorem wnorm_z (x:Int) (lx:(limbs x.natAbs).length≤100000):ACalls Tryz.prog 211 [.agg (zV x)] (.agg (zV x)):=by
 have:=wnorm_a (decide (x<0)) (limbs x.natAbs) (show (limbs x.natAbs).length≤1000000000 by omega)
 rw [trimI_self,← sg_neg,sg_self] at this
 exact this
theorem and1 (k:Nat) (hk:k<9223372036854775808):absInt .and .i64 (k:Int) 1=some (.int .i64 ((k % 2:Nat):Int)):=by
 show some (Value.int .i64 (IntKind.i64.wrap (BitVec.ofInt 64 (k:Int) &&& BitVec.ofInt 64 1).toNat))=_
 have e1:BitVec.ofInt 64 (k:Int)=BitVec.ofNat 64 k:=BitVec.ofInt_natCast ..
 have e2:BitVec.ofInt 64 1=BitVec.ofNat 64 1:=rfl
 rw [e1,e2,BitVec.toNat_and,BitVec.toNat_ofNat,BitVec.toNat_ofNat,Nat.mod_eq_of_lt (by omega),Nat.mod_eq_of_lt (by omega),Nat.and_one_is_mod]
 rw [IntWalk.i64_in _ ⟨by omega,by omega⟩]
abbrev boxZ (z:Int):OB:=⟨false,false,160,2,[zV z]⟩
theorem wpow_a (a:Int) (n:Nat) (hn:n<9223372036854775808) (la:(limbs a.natAbs).length≤100000) :
 ACalls Tryz.prog 239 [.agg (zV a),nA n] (.tup [.agg (zV (powL n n 1 a).1),nA (powL n n 1 a).2]):=by
 have c1:ACalls Tryz.prog 186 [.lit (.int .i64 1)] (.agg (zV 1)):=wofG_a 1 (by omega) (by omega)
 have c2:=wnorm_z a la
 have l1:(limbs (1:Int).natAbs).length≤32:=by rw [limbs_pos (by decide)]; simp [limbs_zero]
 refine acalls_of code_whole_Pow (by simp [fn_whole_Pow]) fun C hC => ?_
 refine wk5 ?_
 refine aw_loopB [0,2,4,5,6,7] [0,1] (fun x:Nat × Int × Int=>[(1,nA x.1)]) (fun x=>[(2,some (boxZ x.2.1)),(3,some (boxZ x.2.2))]) 4
  (fun x=>x.1≤n∧(limbs x.2.1.natAbs).length≤32∧powL x.1 x.1 x.2.1 x.2.2=powL n n 1 a) (fun x=>x.1) (n,1,a) ⟨Nat.le_refl _,l1,rfl⟩ ?_
 rintro ⟨k,out,f⟩ ⟨hk,lo,hR⟩
 dsimp only [List.cons_append,List.nil_append] at hk lo hR ⊢
 by_cases k0:k=0
 ·subst k0
  rw [← hR,show powL 0 0 out f=(out,0) from rfl]
  refine wk5 ?_
  exact fin
 have hgt:0<k:=Nat.pos_of_ne_zero k0
 have lf:=intsA_len .u32 (limbs f.natAbs)
 by_cases hf:32<(limbs f.natAbs).length
 ·rw [← hR,powL_big hgt hf,zV_zero]
  refine wk5 ?_
  exact fin
 rw [powL_step hgt hf] at hR
 have ha:=and1 k (by omega)
 have hsh:(2:Int) ^ (min (1:Int).toNat 64)=2:=rfl
 by_cases h2:k % 2=1
 ·rw [h2] at ha
  rw [if_pos h2] at hR
  have c3:=wmul_z out f (by omega) (by omega)
  have lq:=intsA_len .u32 (limbs (out * f).natAbs)
  by_cases hb:32<(limbs (out * f).natAbs).length
  ·rw [← hR,if_pos hb,zV_zero]
   refine wk5 ?_
   exact fin
  ·rw [if_neg hb] at hR
   by_cases hm:0<k / 2
   ·rw [if_pos hm] at hR
    have c4:=wmul_z f f (by omega) (by omega)
    refine wk5 ?_
    exact ⟨(k / 2,out * f,f * f),by dsimp only; omega,⟨by dsimp only; omega,by dsimp only; omega,hR⟩,wkR hC.m []⟩
   ·rw [if_neg hm] at hR
    refine wk5 ?_
    exact ⟨(k / 2,out * f,f),by dsimp only; omega,⟨by dsimp only; omega,by dsimp only; omega,hR⟩,wkR hC.m []⟩
 ·have h3:k % 2=0:=by omega
  rw [h3] at ha
  have hm:0<k / 2:=by omega
  have lq:=intsA_len .u32 (limbs out.natAbs)
  rw [if_neg h2,if_neg (by omega),if_pos hm] at hR
  have c4:=wmul_z f f (by omega) (by omega)
  refine wk5 ?_
  exact ⟨(k / 2,out,f * f),by dsimp only; omega,⟨by dsimp only; omega,by dsimp only; omega,hR⟩,wkR hC.m []⟩
def szI (g:Bool) (X:Nat):Int:=if g then -(X:Int) else X
theorem szI_sgn (g:Bool) (X:Nat):szI (sgnV g X) X=szI g X:=by
 unfold szI sgnV
 by_cases h:X=0
 ·subst h; cases g<;>rfl
 ·simp [h]
def sgnI (z:Int):Int:=if z=0 then 0 else if z<0 then -1 else 1
theorem r3Neg_a (g:Bool) (X:Nat) (hl:(limbs X).length≤maxB):ACalls Tryz.prog 235 [.agg (intV g (limbs X))] (.agg (intV (sgnV (!g) X) (limbs X))):=by
 have c1:=r3Norm_a (!g) (limbs X) (limbs_ok _) hl
 rw [valL_limbs] at c1
 refine acalls_of code_scrimref03_Neg (by simp [fn_scrimref03_Neg]) fun C hC => ?_
 refine walk2 ?_
 exact fin
theorem cmpI_ge {a b:Nat}:cmpI a b ≥ 0↔b≤a:=by
 unfold cmpI
 split
 ·constructor<;>intro h<;>omega
 ·split<;>constructor<;>intro h<;>omega
theorem r3Add_a (g1 g2:Bool) (X Y:Nat) (hX:X<18446744073709551616) (hY:Y<18446744073709551616) (z:Int) (hz:z=szI g1 X+szI g2 Y) :
 ACalls Tryz.prog 234 [.agg (intV g1 (limbs X)),.agg (intV g2 (limbs Y))] (.agg (intV (decide (z<0)) (limbs z.natAbs))):=by
 have hB:maxB=1000000000:=rfl
 have lX:=limbs_len_pow 64 X (by omega)
 have lY:=limbs_len_pow 64 Y (by omega)
 have c1:=r3Norm_a g1 (limbs X) (limbs_ok _) (by omega)
 have c2:=r3Norm_a g2 (limbs Y) (limbs_ok _) (by omega)
 rw [valL_limbs] at c1 c2
 rw [← szI_sgn g1 X,← szI_sgn g2 Y] at hz
 generalize sgnV g1 X=G1 at c1 hz
 generalize sgnV g2 Y=G2 at c2 hz
 have lS:=limbs_len_pow 65 (X+Y) (by omega)
 have lD:=limbs_len_pow 64 (X - Y) (by omega)
 have lE:=limbs_len_pow 64 (Y - X) (by omega)
 have c3:=rAdd_a (limbs X) (limbs Y) (limbs_ok _) (limbs_ok _) (by omega) (by omega)
 have c4:=rCmp_a (limbs X) (limbs Y) (limbs_ok _) (limbs_ok _) (by omega) (by omega)
 rw [valL_limbs,valL_limbs] at c3 c4
 have n1:=fun g=>r3Norm_a g (limbs (X+Y)) (limbs_ok _) (by omega)
 have n2:=fun g=>r3Norm_a g (limbs (X - Y)) (limbs_ok _) (by omega)
 have n3:=fun g=>r3Norm_a g (limbs (Y - X)) (limbs_ok _) (by omega)
 simp only [valL_limbs] at n1 n2 n3
 have fin0:∀ V:Nat,z=(V:Int)→intV (decide (z<0)) (limbs z.natAbs)=intV (sgnV false V) (limbs V):=fun V e=>by
  rw [sgnV_false,show decide (z<0)=false from by rw [decide_eq_false_iff_not]; omega,show z.natAbs=V from by omega]
 have fin1:∀ V:Nat,z = -(V:Int)→intV (decide (z<0)) (limbs z.natAbs)=intV (sgnV true V) (limbs V):=fun V e=>by
  rw [show z.natAbs=V from by omega,sgnV]
  split
  ·rw [show decide (z<0)=false from by rw [decide_eq_false_iff_not]; omega]
  ·rw [show decide (z<0)=true from by rw [decide_eq_true_eq]; omega]
 clear lX lY lS lD lE
 refine acalls_of code_scrimref03_Add (by simp [fn_scrimref03_Add]) fun C hC => ?_
 by_cases hle:Y≤X
 ·have hge:cmpI X Y ≥ 0:=cmpI_ge.2 hle
  have c5:=rSub_a (limbs X) (limbs Y) (limbs_ok _) (limbs_ok _) (Nat.le_trans (limbs_len_pow 64 X (by omega)) (by omega)) (Nat.le_trans (limbs_len_pow 64 Y (by omega)) (by omega)) (by rw [valL_limbs,valL_limbs]; exact hle)
  rw [valL_limbs,valL_limbs] at c5
  generalize cmpI X Y=q at c4 hge
  cases G1<;>cases G2
  ·rw [fin0 (X+Y) (by rw [hz]; simp [szI])]
   have n:=n1 false
   clear n1 n2 n3 c5
   refine walk2 ?_
   exact fin
  ·rw [fin0 (X - Y) (by rw [hz]; simp [szI]; omega)]
   have n:=n2 false
   clear n1 n2 n3 c3
   refine walk2 ?_
   exact fin
  ·rw [fin1 (X - Y) (by rw [hz]; simp [szI]; omega)]
   have n:=n2 true
   clear n1 n2 n3 c3
   refine walk2 ?_
   exact fin
  ·rw [fin1 (X+Y) (by rw [hz]; simp [szI]; omega)]
   have n:=n1 true
   clear n1 n2 n3 c5
   refine walk2 ?_
   exact fin
 ·have hge:¬ cmpI X Y ≥ 0:=fun h=>hle (cmpI_ge.1 h)
  have c5:=rSub_a (limbs Y) (limbs X) (limbs_ok _) (limbs_ok _) (Nat.le_trans (limbs_len_pow 64 Y (by omega)) (by omega)) (Nat.le_trans (limbs_len_pow 64 X (by omega)) (by omega)) (by rw [valL_limbs,valL_limbs]; omega)
  rw [valL_limbs,valL_limbs] at c5
  generalize cmpI X Y=q at c4 hge
  cases G1<;>cases G2
  ·rw [fin0 (X+Y) (by rw [hz]; simp [szI])]
   have n:=n1 false
   clear n1 n2 n3 c5
   refine walk2 ?_
   exact fin
  ·rw [fin1 (Y - X) (by rw [hz]; simp [szI]; omega)]
   have n:=n3 true
   clear n1 n2 n3 c3
   refine walk2 ?_
   exact fin
  ·rw [fin0 (Y - X) (by rw [hz]; simp [szI]; omega)]
   have n:=n3 false
   clear n1 n2 n3 c3
   refine walk2 ?_
   exact fin
  ·rw [fin1 (X+Y) (by rw [hz]; simp [szI]; omega)]
   have n:=n1 true
   clear n1 n2 n3 c5
   refine walk2 ?_
   exact fin
theorem r3Sub_a (g1 g2:Bool) (X Y:Nat) (hX:X<18446744073709551616) (hY:Y<18446744073709551616) (z:Int) (hz:z=szI g1 X - szI g2 Y) :
 ACalls Tryz.prog 209 [.agg (intV g1 (limbs X)),.agg (intV g2 (limbs Y))] (.agg (intV (decide (z<0)) (limbs z.natAbs))):=by
 have hB:maxB=1000000000:=rfl
 have lY:=limbs_len_pow 64 Y (by omega)
 have c1:=r3Neg_a g2 Y (by omega)
 have c2:=r3Add_a g1 (sgnV (!g2) Y) X Y hX hY z (by rw [hz,szI_sgn]; cases g2<;>simp [szI]<;>omega)
 refine acalls_of code_scrimref03_Sub (by simp [fn_scrimref03_Sub]) fun C hC => ?_
 refine walk2 ?_
 exact fin
theorem r3Sign_a (z:Int) (hl:(limbs z.natAbs).length≤maxB):ACalls Tryz.prog 208 [.agg (intV (decide (z<0)) (limbs z.natAbs))] (.lit (.int .i64 (sgnI z))):=by
 have c1:=r3Norm_a (decide (z<0)) (limbs z.natAbs) (limbs_ok _) hl
 rw [valL_limbs,sgn_dec] at c1
 have la:=intsA_len .u32 (limbs z.natAbs)
 refine acalls_of code_scrimref03_Sign (by simp [fn_scrimref03_Sign]) fun C hC => ?_
 by_cases h0:z=0
 ·subst h0
  have la':((intsA .u32 (limbs (Int.natAbs 0))).length:Int)=0:=by rw [show Int.natAbs 0=0 from rfl,limbs_zero]; rfl
  rw [show sgnI 0=0 from rfl]
  clear la
  refine walk2 ?_
  exact fin
 ·have hpos:¬ (limbs z.natAbs).length=0:=fun e=>absurd (limbs_nil.1 (List.eq_nil_of_length_eq_zero e)) (by omega)
  by_cases h1:z<0
  ·rw [show sgnI z = -1 from by simp [sgnI,h0,h1]]
   rw [decide_eq_true h1] at c1 ⊢
   refine walk2 ?_
   exact fin
  ·rw [show sgnI z=1 from by simp [sgnI,h0,h1]]
   rw [decide_eq_false h1] at c1 ⊢
   refine walk2 ?_
   exact fin
theorem r3Cmp_a (g1 g2:Bool) (X Y:Nat) (hX:X<18446744073709551616) (hY:Y<18446744073709551616) (q:Int) (hq:q=sgnI (szI g1 X - szI g2 Y)) :
 ACalls Tryz.prog 172 [.agg (intV g1 (limbs X)),.agg (intV g2 (limbs Y))] (.lit (.int .i64 q)):=by
 subst hq
 have hB:maxB=1000000000:=rfl
 have c1:=r3Sub_a g1 g2 X Y hX hY _ rfl
 have hzb:(szI g1 X - szI g2 Y).natAbs<2 ^ 65:=by unfold szI; split<;>split<;>omega
 have lz:=limbs_len_pow 65 _ hzb
 have c2:=r3Sign_a (szI g1 X - szI g2 Y) (by omega)
 refine acalls_of code_scrimref03_Cmp (by simp [fn_scrimref03_Cmp]) fun C hC => ?_
 refine walk2 ?_
 exact fin
theorem valL_cons (x:Int) (xs:List Int):valL (x::xs)=x.toNat+4294967296 * valL xs:=by simp [valL]
theorem valL_drop_le:∀ (k:Nat) (xs:List Int),valL (xs.drop k)≤valL xs
 | 0,xs=>by simp
 | k+1,[]=>by simp
 | k+1,x::xs=>by
   have:=valL_drop_le k xs
   rw [List.drop_succ_cons,valL_cons]; omega
theorem r3Small_a (g:Bool) (X:Nat) (hl:(limbs X).length≤maxB):ACalls Tryz.prog 121 [.agg (intV g (limbs X))] (.tup [.lit (.int .i64 (smallV (sgnV g X) X).1),.lit (.bool (smallV (sgnV g X) X).2)]):=by
 have c1:=r3Norm_a g (limbs X) (limbs_ok _) hl
 rw [valL_limbs] at c1
 generalize sgnV g X=G at c1 ⊢
 have lx:=intsA_len .u32 (limbs X)
 have hcs:=limbs_cases X
 have hval:=valL_limbs X
 have hlim:=limbs_ok X
 refine acalls_of code_scrimref03_Small (by simp [fn_scrimref03_Small]) fun C hC => ?_
 by_cases h2:2<(limbs X).length
 ·rw [smallV_big (by rcases hcs with ⟨_,e⟩|⟨_,_,e⟩|⟨_,_,e⟩|⟨e,_⟩<;>first|exact e|(rw [e] at h2; simp at h2))]
  refine walk2 ?_
  exact fin
 ·have hX:X<18446744073709551616:=by rcases hcs with ⟨e,_⟩|⟨_,e,_⟩|⟨_,e,_⟩|⟨_,e⟩<;>omega
  clear hcs
  have o1:=r3Of_a 9223372036854775807 (by omega) (by omega)
  have o2:=r3Of_a (-9223372036854775808) (by omega) (by omega)
  rw [show decide ((9223372036854775807:Int)<0)=false from rfl,show Int.natAbs 9223372036854775807=9223372036854775807 from rfl] at o1
  rw [show decide ((-9223372036854775808:Int)<0)=true from rfl,show Int.natAbs (-9223372036854775808)=9223372036854775808 from rfl] at o2
  have k1:=r3Cmp_a G false X 9223372036854775807 hX (by omega) _ rfl
  have k2:=r3Cmp_a G true X 9223372036854775808 hX (by omega) _ rfl
  rw [show szI false 9223372036854775807=9223372036854775807 from rfl] at k1
  rw [show szI true 9223372036854775808 = -9223372036854775808 from rfl] at k2
  have p1:sgnI (szI G X - 9223372036854775807) > 0↔szI G X > 9223372036854775807:=by
   unfold sgnI; split
   ·constructor<;>intro h<;>omega
   ·split<;>constructor<;>intro h<;>omega
  have p2:sgnI (szI G X - -9223372036854775808)<0↔szI G X < -9223372036854775808:=by
   unfold sgnI; split
   ·constructor<;>intro h<;>omega
   ·split<;>constructor<;>intro h<;>omega
  generalize sgnI (szI G X - 9223372036854775807)=q1 at k1 p1
  generalize sgnI (szI G X - -9223372036854775808)=q2 at k2 p2
  generalize limbs 9223372036854775807=lm1 at o1 k1
  generalize limbs 9223372036854775808=lm2 at o2 k2
  generalize limbs X=ls at c1 lx hval hlim h2 k1 k2
  by_cases h1:q1 > 0
  ·rw [show smallV G X=(0,false) from by
    have:=p1.1 h1
    unfold szI at this
    unfold smallV
    cases G
    ·simp at this ⊢; omega
    ·simp at this; omega]
   refine walk2 ?_
   exact fin
  by_cases h3:q2<0
  ·rw [show smallV G X=(0,false) from by
    have:=p2.1 h3
    unfold szI at this
    unfold smallV
    cases G
    ·simp at this; omega
    ·simp at this ⊢; omega]
   refine walk2 ?_
   exact fin
  have hin:szI G X≤9223372036854775807 ∧ -9223372036854775808≤szI G X:=⟨by
   have:=mt p1.2 h1; omega,by have:=mt p2.2 h3; omega⟩
  rw [show smallV G X=(szI G X,true) from by
   unfold szI at hin ⊢
   unfold smallV
   cases G<;>simp at hin ⊢<;>omega]
  clear p1 p2
  refine walk2 ?_
  refine aw_loopB [0,4] [0,1] (fun k:Nat=>[(5,.lit (.int .i64 (szI G (valL (ls.drop k))))),(6,.lit (.int .i64 ((k:Int) - 1)))]) (fun _=>[]) 2 (fun k=>k≤ls.length) (fun k=>k) ls.length (Nat.le_refl _) ?_
   (ht:=by rw [List.drop_length,show szI G (valL [])=0 from by cases G<;>rfl]; rfl)
  rintro k hk
  dsimp only [List.cons_append,List.nil_append]
  cases k with
  | zero =>
    rw [List.drop_zero,hval]
    refine walk2 ?_
    exact fin
  | succ j =>
    obtain ⟨v,hv⟩:∃ v,ls[j]? = some v:=⟨_,List.getElem?_eq_getElem (by omega)⟩
    have hvr:=hlim v (List.mem_of_getElem? hv)
    have hvk:(intsA .u32 ls)[(((j+1:Nat):Int) - 1).toNat]? = some [.lit (.int .u32 v)]:=by rw [show (((j+1:Nat):Int) - 1).toNat=j from by omega]; exact int_at hv
    have hd:valL (ls.drop j)=v.toNat+4294967296 * valL (ls.drop (j+1)):=by rw [dropA_cons hv,valL_cons]
    have hmono:=valL_drop_le j ls
    rw [hval] at hmono
    generalize valL (ls.drop (j+1))=V' at hd ⊢
    cases G
    ·have e1:szI false (valL (ls.drop j))=szI false V' * 4294967296+v:=by simp [szI]; omega
     have hb:0≤szI false V'∧szI false V' * 4294967296+v≤9223372036854775807:=by rw [← e1]; simp [szI] at hin ⊢; omega
     generalize szI false V'=S at e1 hb ⊢
     refine walk2 ?_
     exact ⟨j,by omega,by omega,wkR hC.m [] (by rw [e1,show ((j:Nat):Int) - 1=((j+1:Nat):Int) - 1 - 1 from by omega]; rfl)⟩
    ·have e1:szI true (valL (ls.drop j))=szI true V' * 4294967296 - v:=by simp [szI]; omega
     have hb:szI true V'≤0 ∧ -9223372036854775808≤szI true V' * 4294967296 - v:=by rw [← e1]; simp [szI] at hin ⊢; omega
     generalize szI true V'=S at e1 hb ⊢
     refine walk2 ?_
     exact ⟨j,by omega,by omega,wkR hC.m [] (by rw [e1,show ((j:Nat):Int) - 1=((j+1:Nat):Int) - 1 - 1 from by omega]; rfl)⟩
def isOneB (m:List Int):Bool:=match m with|[a]=>a == 1|_=>false
def smallN (n:Num):Int × Bool:=if isOneB n.bot then smallV (sgnV n.neg (valL n.top)) (valL n.top) else (0,false)
theorem ratOne_a (m:List Int) (hm:limOK m):ACalls Tryz.prog 175 [.sl 1 (intsA .u32 m)] (.lit (.bool (isOneB m))):=by
 have lm:=intsA_len .u32 m
 refine acalls_of code_ratio_isOne (by simp [fn_ratio_isOne]) fun C hC => ?_
 match m,hm,lm with
 | [],hm,lm =>
   refine walk2 ?_
   exact fin
 | [a],hm,lm =>
   have hx:(intsA .u32 [a])[(0:Int).toNat]? = some [.lit (.int .u32 a)]:=rfl
   have hl:((intsA .u32 [a]).length:Int)=1:=rfl
   by_cases h:a=1
   ·subst h
    rw [show isOneB [1]=true from rfl]
    refine walk2 ?_
    exact fin
   ·rw [show isOneB [a]=false from by simpa [isOneB] using h]
    refine walk2 ?_
    exact fin
 | a::b::r,hm,lm =>
   have hl:((intsA .u32 (a::b::r)).length:Int)=r.length+2:=by simp [intsA]; omega
   refine walk2 ?_
   exact fin
theorem r4Whole1_a (n:Num):ACalls Tryz.prog 120 [.agg (numV n)] (.lit (.bool (isOneB n.bot))):=by
 refine acalls_of code_scrimref04_IsWhole (by simp [fn_scrimref04_IsWhole]) fun C hC => ?_
 have key:n.bot=[]∨(∃ a,n.bot=[a])∨(∃ a b r,n.bot=a::b::r):=by
  rcases n.bot with _|⟨a,_|⟨b,r⟩⟩
  ·exact .inl rfl
  ·exact .inr (.inl ⟨a,rfl⟩)
  ·exact .inr (.inr ⟨a,b,r,rfl⟩)
 rcases key with hb|⟨a,hb⟩|⟨a,b,r,hb⟩
 ·have hl:((intsA .u32 n.bot).length:Int)=0:=by rw [hb]; rfl
  rw [show isOneB n.bot=false from by rw [hb]; rfl]
  refine walk2 ?_
  exact fin
 ·have hx:(intsA .u32 n.bot)[(0:Int).toNat]? = some [.lit (.int .u32 a)]:=by rw [hb]; rfl
  have hl:((intsA .u32 n.bot).length:Int)=1:=by rw [hb]; rfl
  by_cases h:a=1
  ·rw [show isOneB n.bot=true from by rw [hb,h]; rfl]
   refine walk2 ?_
   exact fin
  ·rw [show isOneB n.bot=false from by rw [hb]; simpa [isOneB] using h]
   refine walk2 ?_
   exact fin
 ·have hl:((intsA .u32 n.bot).length:Int)=r.length+2:=by rw [hb]; simp [intsA]; omega
  rw [show isOneB n.bot=false from by rw [hb]; rfl]
  refine walk2 ?_
  exact fin
theorem ratTop_a (n:Num):ACalls Tryz.prog 177 [.agg (numV n)] (.agg (intV n.neg n.top)):=by
 refine acalls_of code_ratio_top (by simp [fn_ratio_top]) fun C hC => ?_
 refine walk2 ?_
 exact fin
theorem ratSmall_a (n:Num) (hn:numOK n) (hl:n.top.length≤maxB):ACalls Tryz.prog 124 [.agg (numV n)] (.tup [.lit (.int .i64 (smallN n).1),.lit (.bool (smallN n).2)]):=by
 obtain ⟨l1,l2⟩:=hn.lim
 have c1:=ratOne_a n.bot l2
 have c2:=ratTop_a n
 have c3:=wSmall_a n.neg n.top l1 hl
 unfold smallN
 refine acalls_of code_ratio_Small (by simp [fn_ratio_Small]) fun C hC => ?_
 cases h:isOneB n.bot<;>rw [h] at c1
 ·refine walk2 ?_
  exact fin
 ·simp only [if_true]
  refine walk2 ?_
  exact fin
theorem r4Small_a (n:Num) (hn:numOK n) (hl:n.top.length≤maxB):ACalls Tryz.prog 54 [.agg (numV n)] (.tup [.lit (.int .i64 (smallN n).1),.lit (.bool (smallN n).2)]):=by
 obtain ⟨l1,l2⟩:=hn.lim
 have c1:=r4Whole1_a n
 have c2:=rTop_a n l1 hl
 have t1:=trimI_len n.top
 rw [trimI_limbs l1] at t1
 have c3:=r3Small_a (sgnV n.neg (valL n.top)) (valL n.top) (by omega)
 rw [show sgnV (sgnV n.neg (valL n.top)) (valL n.top)=sgnV n.neg (valL n.top) from by unfold sgnV; split<;>rfl] at c3
 unfold smallN
 refine acalls_of code_scrimref04_Small (by simp [fn_scrimref04_Small]) fun C hC => ?_
 cases h:isOneB n.bot<;>rw [h] at c1
 ·refine walk2 ?_
  exact fin
 ·simp only [if_true]
  refine walk2 ?_
  exact fin
end Go.Proofs.YtnnipocjapblkaaGreat
