/- Machine numbers, below nothing too, as the program writes them. -/
import Derived.Test.YtnnipocjapblkaaGreatK08
import Derived.Test.YtnnipocjapblkaaGreatK07
import Derived.Test.YtnnipocjapblkaaGreatK12
set_option maxRecDepth 10000
set_option maxHeartbeats 4000000
namespace Go.Proofs.YtnnipocjapblkaaGreat
set_option linter.unusedVariables false
open Go.RowKit
theorem digI_ok {z:Int} (h0 : -9223372036854775808≤z) (h1:z≤9223372036854775807):limOK (digI z):=by
 intro y hy
 simp only [digI,List.mem_cons,List.not_mem_nil,or_false] at hy
 rcases hy with h|h<;>omega
theorem digI_val (z:Int):valL (digI z)=z.natAbs:=by
 simp only [digI,valL]; omega
theorem digI_limbs {z:Int} (h0 : -9223372036854775808≤z) (h1:z≤9223372036854775807):trimI (digI z)=limbs z.natAbs:=by
 rw [trimI_limbs (digI_ok h0 h1),digI_val]
theorem sgn_dec2 (z:Int):sgn (decide (z<0)) (limbs z.natAbs)=decide (z<0):=by rw [sgn_limbs,sgn_dec]
theorem wofG_a (z:Int) (h0 : -9223372036854775808≤z) (h1:z≤9223372036854775807):ACalls Tryz.prog 186 [.lit (.int .i64 z)] (.agg (intV (decide (z<0)) (limbs z.natAbs))):=by
 by_cases hn:0≤z
 ·have c:=wof_a z hn h1
  rw [digI_limbs h0 h1,show sgn false (limbs z.natAbs)=decide (z<0) from by rw [sgn_limbs,sgnV_false]; simp; omega] at c
  exact c
 ·have hd:(digI z).length≤maxB:=by simp [digI,maxB]
  have hq:z.natAbs / 4294967296<4294967296:=by omega
  have e0:IntKind.u64.wrap (0 - IntKind.u64.wrap z)=(z.natAbs:Int):=by
   have:IntKind.u64.wrap z=z+18446744073709551616:=by
    simp only [IntKind.wrap,IntKind.bits,IntKind.signed]
    simp; omega
   rw [this]
   simp only [IntKind.wrap,IntKind.bits,IntKind.signed]
   simp; omega
  have e1:IntKind.u32.wrap (IntKind.u64.wrap (0 - IntKind.u64.wrap z))=(z.natAbs % 4294967296:Nat):=by rw [e0,u32_wrap]
  have e2:(IntKind.u64.wrap (0 - IntKind.u64.wrap z)).fdiv (2 ^ (min (32:Int).toNat IntKind.u64.bits))=(z.natAbs / 4294967296:Nat):=by
   rw [e0,show (2:Int) ^ (min (32:Int).toNat IntKind.u64.bits)=((4294967296:Nat):Int) from rfl,Int.fdiv_eq_ediv_of_nonneg _ (by omega)]; rfl
  have e3:IntKind.u32.wrap ((z.natAbs / 4294967296:Nat):Int)=(z.natAbs / 4294967296:Nat):=by rw [u32_wrap,Nat.mod_eq_of_lt hq]
  have c1:=norm_a (digI z) hd
  have c2:=signed_a true (trimI (digI z))
  rw [digI_limbs h0 h1] at c1 c2
  rw [sgn_limbs,sgnV_true (by omega)] at c2
  rw [show decide (z<0)=true from by simp; omega]
  have k1:True→ACalls Tryz.prog 223 [.sl 1 (intsA .u32 (digI z))] (.sl 1 (intsA .u32 (limbs z.natAbs))):=fun _=>c1
  clear c1
  refine acalls_of code_whole_Of (by simp [fn_whole_Of]) fun C hC => ?_
  refine walk3 ?_
  refine aw_reg (rrun3 ?_)
  refine r_shr (z.natAbs / 4294967296:Nat) ?_ (hv:=e2)
  refine rrun3 ?_
  refine r_callF 1 [1] (avs':=[.sl 1 (intsA .u32 (digI z))]) (k1 trivial) ?_ (hs:=SubL.cons ?_ SubL.nil)
  ·refine rrun3 ?_
   refine rg_nil ⟨rfl,?_⟩
   refine walk3 ?_
   exact fin
  ·rw [e1]; exact Sub.refl _
theorem rofG_a (z:Int) (h0 : -9223372036854775808≤z) (h1:z≤9223372036854775807):ACalls Tryz.prog 156 [.lit (.int .i64 z)] (.agg (numV (ofZ z))):=by
 have hB:maxB=1000000000:=rfl
 have hll:(limbs z.natAbs).length≤2:=by
  rw [← digI_limbs h0 h1]
  have k1:=trimI_len (digI z)
  have hd:=digI_len z
  omega
 have c1:=wofG_a z h0 h1
 have c2:=whole_a (decide (z<0)) (limbs z.natAbs) (by omega) (by rw [trimI_self]; omega)
 rw [show oneN (decide (z<0)) (limbs z.natAbs)=ofZ z from by simp only [oneN,ofZ,trimI_self,sgn_dec2]] at c2
 refine acalls_of code_ratio_Of (by simp [fn_ratio_Of]) fun C hC => ?_
 refine walk3 ?_
 exact fin
theorem arrIntG_a (z:Int) (h0 : -9223372036854775808≤z) (h1:z≤9223372036854775807):ACalls Tryz.prog 95 [.lit (.int .i64 z)] (.agg (cellV (intC z))):=by
 have c:=rofG_a z h0 h1
 refine acalls_of code_array_Int (by simp [fn_array_Int]) fun C hC => ?_
 refine walk3 ?_
 exact ⟨_,_,rfl,rfl,Sub.agg (SubL.cons (Sub.refl _) (SubL.cons (Sub.refl _) (SubL.cons (Sub.refl _) (SubL.cons (Sub.refl _) (SubL.cons (Sub.refl _) (SubL.cons (Sub.refl _) (SubL.cons (Sub.nil _) SubL.nil)))))))⟩
def sg (g:Bool) (X:Nat):Int:=if g then -(X:Int) else X
def zV (z:Int):List AV:=intV (decide (z<0)) (limbs z.natAbs)
theorem sg_abs (g:Bool) (X:Nat):(sg g X).natAbs=X:=by cases g<;>simp [sg]
theorem sg_self (z:Int):sg (decide (z<0)) z.natAbs=z:=by
 unfold sg
 by_cases h:z<0
 ·rw [decide_eq_true h,if_pos rfl]; omega
 ·rw [decide_eq_false h,if_neg (by simp)]; omega
theorem sg_neg (g:Bool) (X:Nat):decide (sg g X<0)=sgn g (limbs X):=by
 rw [sgn_limbs]
 unfold sg sgnV
 by_cases h:X=0
 ·subst h; cases g<;>rfl
 ·rw [if_neg h]
  cases g
  ·exact decide_eq_false (by simp only [Bool.false_eq_true,if_false]; omega)
  ·exact decide_eq_true (by simp only [if_true]; omega)
theorem zV_sg (g:Bool) (X:Nat):zV (sg g X)=intV (sgn g (limbs X)) (limbs X):=by rw [zV,sg_neg,sg_abs]
theorem wsigned_z (g:Bool) (X:Nat):ACalls Tryz.prog 222 [.lit (.bool g),.sl 1 (intsA .u32 (limbs X))] (.agg (zV (sg g X))):=by
 rw [zV_sg]; exact signed_a g (limbs X)
theorem wadd_a (g h:Bool) (X Y:Nat) (lx:(limbs X).length≤100000) (ly:(limbs Y).length≤100000) :
 ACalls Tryz.prog 238 [.agg (intV g (limbs X)),.agg (intV h (limbs Y))] (.agg (zV (sg g X+sg h Y))):=by
 by_cases e:g=h
 ·subst e
  have c1:=nadd_a _ _ (limbs_ok X) (limbs_ok Y) lx ly
  rw [valL_limbs,valL_limbs] at c1
  have c2:=wsigned_z g (X+Y)
  rw [show sg g X+sg g Y=sg g (X+Y) from by cases g<;>simp [sg]<;>omega]
  refine acalls_of code_whole_Add (by simp [fn_whole_Add]) fun C hC => ?_
  cases g <;>
  ·refine wk5 ?_
   exact fin
 ·have c1:=nsub_a _ _ (limbs_ok X) (limbs_ok Y) lx ly
  rw [valL_limbs,valL_limbs] at c1
  by_cases hYX:Y≤X
  ·rw [decide_eq_true hYX] at c1
   have c2:=wsigned_z g (X - Y)
   rw [show sg g X+sg h Y=sg g (X - Y) from by cases g<;>cases h<;>simp [sg] at e ⊢<;>omega]
   refine acalls_of code_whole_Add (by simp [fn_whole_Add]) fun C hC => ?_
   cases g<;>cases h<;>first|exact absurd rfl e|(refine wk5 ?_; exact fin)
  ·rw [decide_eq_false hYX] at c1
   have c3:=nsub_a _ _ (limbs_ok Y) (limbs_ok X) ly lx
   rw [valL_limbs,valL_limbs,decide_eq_true (by omega)] at c3
   have c2:=wsigned_z h (Y - X)
   rw [show sg g X+sg h Y=sg h (Y - X) from by cases g<;>cases h<;>simp [sg] at e ⊢<;>omega]
   refine acalls_of code_whole_Add (by simp [fn_whole_Add]) fun C hC => ?_
   cases g<;>cases h<;>first|exact absurd rfl e|(refine wk5 ?_; exact fin)
theorem wmul_a (g h:Bool) (X Y:Nat) (lx:(limbs X).length≤100000) (ly:(limbs Y).length≤100000) :
 ACalls Tryz.prog 194 [.agg (intV g (limbs X)),.agg (intV h (limbs Y))] (.agg (zV (sg g X * sg h Y))):=by
 have c1:=nmul_a _ _ (limbs_ok X) (limbs_ok Y) lx ly
 rw [valL_limbs,valL_limbs] at c1
 have c2:=wsigned_z (g != h) (X * Y)
 rw [show sg g X * sg h Y=sg (g != h) (X * Y) from by cases g<;>cases h<;>simp [sg,Int.mul_neg,Int.neg_mul]]
 refine acalls_of code_whole_Mul (by simp [fn_whole_Mul]) fun C hC => ?_
 cases g<;>cases h<;>(refine wk5 ?_; exact fin)
theorem wsub_a (g h:Bool) (X Y:Nat) (lx:(limbs X).length≤100000) (ly:(limbs Y).length≤100000) :
 ACalls Tryz.prog 244 [.agg (intV g (limbs X)),.agg (intV h (limbs Y))] (.agg (zV (sg g X - sg h Y))):=by
 have c1:=wadd_a g (!h) X Y lx ly
 rw [show sg g X+sg (!h) Y=sg g X - sg h Y from by cases g<;>cases h<;>simp [sg]<;>omega] at c1
 refine acalls_of code_whole_Sub (by simp [fn_whole_Sub]) fun C hC => ?_
 cases g<;>cases h<;>(refine wk5 ?_; exact fin)
theorem wsign_a (g:Bool) (X:Nat):ACalls Tryz.prog 225 [.agg (intV g (limbs X))] (.lit (.int .i64 (sg g X).sign)):=by
 have c1:=ncmp_a (limbs X) [] (limbs_ok X) limOK.nil
 rw [valL_limbs,show valL []=0 from rfl] at c1
 refine acalls_of code_whole_Sign (by simp [fn_whole_Sign]) fun C hC => ?_
 by_cases h:X=0
 ·subst h
  rw [show (sg g 0).sign=0 from by cases g<;>rfl]
  rw [show cmpI 0 0=0 from rfl] at c1
  refine wk5 ?_
  exact fin
 ·rw [show cmpI X 0=1 from by simp [cmpI]; omega] at c1
  cases g
  ·rw [show (sg false X).sign=1 from Int.sign_eq_one_of_pos (by simp [sg]; omega)]
   refine wk5 ?_
   exact fin
  ·rw [show (sg true X).sign = -1 from Int.sign_eq_neg_one_of_neg (by simp [sg]; omega)]
   refine wk5 ?_
   exact fin
def cmpZ (x y:Int):Int:=if x<y then -1 else if y<x then 1 else 0
theorem wcmp_a (g h:Bool) (X Y:Nat):ACalls Tryz.prog 193 [.agg (intV g (limbs X)),.agg (intV h (limbs Y))] (.lit (.int .i64 (cmpZ (sg g X) (sg h Y)))):=by
 have c1:=wsign_a g X
 have c2:=wsign_a h Y
 have c3:=ncmp_a (limbs X) (limbs Y) (limbs_ok X) (limbs_ok Y)
 have c4:=ncmp_a (limbs Y) (limbs X) (limbs_ok Y) (limbs_ok X)
 rw [valL_limbs,valL_limbs] at c3 c4
 have k1:∀ x y:Int,x<y→cmpZ x y = -1:=fun x y h=>if_pos h
 have k2:∀ x y:Int,y<x→cmpZ x y=1:=fun x y h=>(if_neg (by omega)).trans (if_pos h)
 have k3:g=false→h=false→cmpZ (sg g X) (sg h Y)=cmpI X Y:=fun e1 e2=>by subst e1 e2; simp only [cmpZ,cmpI,sg]; simp
 have k4:g=true→h=true→cmpZ (sg g X) (sg h Y)=cmpI Y X:=fun e1 e2=>by subst e1 e2; simp only [cmpZ,cmpI,sg]; simp
 have k5:sg g X=0→sg h Y=0→cmpZ (sg g X) (sg h Y)=cmpI X Y:=fun e1 e2=>by
  have:X=0:=by have:=sg_abs g X; omega
  have:Y=0:=by have:=sg_abs h Y; omega
  subst X Y; rw [e1,e2]; rfl
 have f1:sg g X<0→g=true:=fun a=>by cases g<;>simp [sg] at a ⊢; omega
 have f2:sg h Y<0→h=true:=fun a=>by cases h<;>simp [sg] at a ⊢; omega
 have f3:0<sg g X→g=false:=fun a=>by cases g<;>simp [sg] at a ⊢; omega
 have f4:0<sg h Y→h=false:=fun a=>by cases h<;>simp [sg] at a ⊢; omega
 generalize sg g X=x at *
 generalize sg h Y=y at *
 refine acalls_of code_whole_Cmp (by simp [fn_whole_Cmp]) fun C hC => ?_
 rcases Int.lt_trichotomy x 0 with a|a|a<;>rcases Int.lt_trichotomy y 0 with b|b|b
 ·rw [Int.sign_eq_neg_one_of_neg a] at c1
  rw [Int.sign_eq_neg_one_of_neg b] at c2
  rw [k4 (f1 a) (f2 b)]
  refine wk5 ?_
  exact fin
 ·rw [Int.sign_eq_neg_one_of_neg a] at c1
  rw [Int.sign_eq_zero_iff_zero.2 b] at c2
  rw [k1 x y (by omega)]
  refine wk5 ?_
  exact fin
 ·rw [Int.sign_eq_neg_one_of_neg a] at c1
  rw [Int.sign_eq_one_of_pos b] at c2
  rw [k1 x y (by omega)]
  refine wk5 ?_
  exact fin
 ·rw [Int.sign_eq_zero_iff_zero.2 a] at c1
  rw [Int.sign_eq_neg_one_of_neg b] at c2
  rw [k2 x y (by omega)]
  refine wk5 ?_
  exact fin
 ·rw [Int.sign_eq_zero_iff_zero.2 a] at c1
  rw [Int.sign_eq_zero_iff_zero.2 b] at c2
  rw [k5 a b]
  refine wk5 ?_
  exact fin
 ·rw [Int.sign_eq_zero_iff_zero.2 a] at c1
  rw [Int.sign_eq_one_of_pos b] at c2
  rw [k1 x y (by omega)]
  refine wk5 ?_
  exact fin
 ·rw [Int.sign_eq_one_of_pos a] at c1
  rw [Int.sign_eq_neg_one_of_neg b] at c2
  rw [k2 x y (by omega)]
  refine wk5 ?_
  exact fin
 ·rw [Int.sign_eq_one_of_pos a] at c1
  rw [Int.sign_eq_zero_iff_zero.2 b] at c2
  rw [k2 x y (by omega)]
  refine wk5 ?_
  exact fin
 ·rw [Int.sign_eq_one_of_pos a] at c1
  rw [Int.sign_eq_one_of_pos b] at c2
  rw [k3 (f3 a) (f4 b)]
  refine wk5 ?_
  exact fin
theorem sg_div0 (g:Bool) {X Y:Nat} (hY:Y≠0) (h:g=false∨X % Y=0):sg g X / (Y:Int)=sg g (X / Y)∧sg g X % (Y:Int)=sg g (X % Y):=by
 have hdm:(Y:Int) * ((X / Y:Nat):Int)+((X % Y:Nat):Int)=X:=by rw [← Int.natCast_mul,← Int.natCast_add,Nat.div_add_mod]
 have hm:=Nat.mod_lt X (Nat.pos_of_ne_zero hY)
 refine (Int.ediv_emod_unique (by omega)).2 ?_
 cases g
 ·simp only [sg,Bool.false_eq_true,if_false]
  generalize ((X / Y:Nat):Int)=q at *
  omega
 ·rcases h with h|h
  ·cases h
  ·simp only [sg,if_true,h]
   rw [h] at hdm
   rw [Int.mul_neg]
   generalize ((X / Y:Nat):Int)=q at *
   omega
theorem sg_div1 {X Y:Nat} (hY:Y≠0) (h:X % Y≠0):sg true X / (Y:Int)=sg true (X / Y) - 1∧sg true X % (Y:Int)=sg true (X % Y)+sg false Y:=by
 have hdm:(Y:Int) * ((X / Y:Nat):Int)+((X % Y:Nat):Int)=X:=by rw [← Int.natCast_mul,← Int.natCast_add,Nat.div_add_mod]
 have hm:=Nat.mod_lt X (Nat.pos_of_ne_zero hY)
 refine (Int.ediv_emod_unique (by omega)).2 ?_
 simp only [sg,if_true,Bool.false_eq_true,if_false]
 rw [Int.mul_sub,Int.mul_neg,Int.mul_one]
 generalize ((X / Y:Nat):Int)=q at *
 omega
theorem wdiv_a (g:Bool) (X Y:Nat) (lx:(limbs X).length≤90000) (ly:(limbs Y).length≤90000) (hY:Y≠0) :
 ACalls Tryz.prog 230 [.agg (intV g (limbs X)),.agg (intV false (limbs Y))] (.tup [.agg (zV (sg g X / Y)),.agg (zV (sg g X % Y)),.lit (.bool true)]):=by
 have c1:=ndiv_a (limbs X) (limbs Y) (limbs_ok X) (limbs_ok Y) lx (by rw [valL_limbs]; exact hY)
 rw [valL_limbs,valL_limbs] at c1
 have c2:=wsigned_z g (X / Y)
 have c3:=wsigned_z g (X % Y)
 have lm:=intsA_len .u32 (limbs (X % Y))
 have hm:=Nat.mod_lt X (Nat.pos_of_ne_zero hY)
 have lm2:=Nat.le_trans (limbs_len_mono (Nat.le_of_lt hm)) ly
 have ld2:=Nat.le_trans (limbs_len_mono (Nat.div_le_self X Y)) lx
 have eY:(Y:Int)≠0:=by omega
 have hdm:=Nat.div_add_mod X Y
 refine acalls_of code_whole_DivMod (by simp [fn_whole_DivMod]) fun C hC => ?_
 by_cases hz:X % Y=0
 ·have el:(limbs (X % Y)).length=0:=by rw [hz,limbs_zero]; rfl
  rw [el] at lm
  obtain ⟨e1,e2⟩:=sg_div0 g hY (.inr hz)
  rw [e1,e2]
  cases g
  ·refine wk5 ?_
   exact fin
  ·refine wk5 ?_
   exact fin
 ·have el:0<(limbs (X % Y)).length:=Nat.pos_of_ne_zero fun hc=>hz (limbs_nil.1 (List.eq_nil_of_length_eq_zero hc))
  cases g
  ·rw [(sg_div0 false hY (.inl rfl)).1,(sg_div0 false hY (.inl rfl)).2]
   refine wk5 ?_
   exact fin
  ·have c4:=wofG_a 1 (by omega) (by omega)
   have c5:=wsub_a (decide (sg true (X / Y)<0)) (decide ((1:Int)<0)) (sg true (X / Y)).natAbs (1:Int).natAbs (by rw [sg_abs]; omega) (by rw [limbs_pos (by decide)]; simp [limbs_zero])
   have c6:=wadd_a (decide (sg true (X % Y)<0)) false (sg true (X % Y)).natAbs Y (by rw [sg_abs]; omega) (by omega)
   rw [sg_self,sg_self] at c5
   rw [sg_self] at c6
   obtain ⟨e1,e2⟩:=sg_div1 hY hz
   rw [e1,e2]
   refine wk5 ?_
   exact fin
def powL:Nat→Nat→Int→Int→Int × Int
 | 0,_,out,_=>(out,0)
 | fuel+1,n,out,f =>
   if n=0 then (out,0) else if 32<(limbs f.natAbs).length then (0,7) else
    let out':=if n % 2=1 then out * f else out
    if 32<(limbs out'.natAbs).length then (0,7) else powL fuel (n / 2) out' (if 0<n / 2 then f * f else f)
theorem powL_fuel:∀ (k m n:Nat) (out f:Int),n≤k→n≤m→powL k n out f=powL m n out f
 | 0,0,n,out,f,_,_=>rfl
 | 0,m+1,n,out,f,h,_=>by obtain rfl:n=0:=(by omega); simp [powL]
 | k+1,0,n,out,f,_,h=>by obtain rfl:n=0:=(by omega); simp [powL]
 | k+1,m+1,n,out,f,h1,h2=>by
   simp only [powL]
   by_cases h:n=0
   ·rw [if_pos h,if_pos h]
   ·rw [if_neg h,if_neg h,powL_fuel k m (n / 2) _ _ (by omega) (by omega)]
end Go.Proofs.YtnnipocjapblkaaGreat
